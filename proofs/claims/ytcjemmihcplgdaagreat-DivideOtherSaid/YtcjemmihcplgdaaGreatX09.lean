/- The walks of the functions and the plain laws. Own texts of this claim, packed: Zzjudg, ZzBisM6. -/
import Derived.Test.YtcjemmihcplgdaaGreatX06
import Derived.Test.YtcjemmihcplgdaaGreatX07
import Derived.Test.YtcjemmihcplgdaaGreatX08
set_option linter.all false
namespace Go.Proofs.YtcjemmihcplgdaaGreat
open AL Go
set_option maxRecDepth 100000
set_option linter.all false
open ref01 ref03 ref04 ref06 prog prog2 prog3 prog4 prog5 prog6 prog13 prog15 starts search Part Rungs LeftM TrimM RoundM BisM BisM5 WalkM StepM refw
def RevTo (xs ys:List Int) (k:Nat):Prop:=ys.length=xs.length∧∀m,m<xs.length→ix ys m=if m<k∨xs.length≤m+k then ix xs (xs.length- 1- m) else ix xs m
theorem rev_step {xs ys:List Int} {k:Nat} {j:Int} (h:RevTo xs ys k) (hj:j=(xs.length:Int)- 1- (k:Int)) (hk:(k:Int)<j):RevTo xs ((ys.set k (ix ys j.toNat)).set j.toNat (ix ys k)) (k+1):=by
 obtain⟨h1,h2⟩:=h
 refine⟨by simp[h1],fun m hm=> ?_⟩
 have e1:ix ys j.toNat=ix xs j.toNat:=by rw[h2 _ (by omega),if_neg (by omega)]
 have e2:ix ys k=ix xs k:=by rw[h2 _ (by omega),if_neg (by omega)]
 rw[ix_set (by simp;omega),ix_set (by omega),e1,e2]
 by_cases g1:m=j.toNat
 ·rw[if_pos g1,if_pos (by omega)];congr 1;omega
 ·rw[if_neg g1]
  by_cases g2:m=k
  ·rw[if_pos g2,if_pos (by omega)];congr 1;omega
  ·rw[if_neg g2,h2 m hm]
   by_cases g3:m<k∨xs.length≤m+k
   ·rw[if_pos g3,if_pos (by omega)]
   ·rw[if_neg g3,if_neg (by omega)]
theorem rev_done {xs ys:List Int} {k:Nat} {j:Int} (h:RevTo xs ys k) (hj:j=(xs.length:Int)- 1- (k:Int)) (hk:¬(k:Int)<j):ys=xs.reverse:=by
 obtain⟨h1,h2⟩:=h
 apply List.ext_getElem
 ·simp[h1]
 ·intro m g1 g2
  have hm:m<xs.length:=by omega
  have:=h2 m hm
  rw[ix_get g1] at this
  rw[this,List.getElem_reverse]
  by_cases g3:m<k∨xs.length≤m+k
  ·rw[if_pos g3,ix_get (by omega)]
  ·rw[if_neg g3,ix_get hm];congr 1;omega
theorem upF_up {q:List Mt} {n:Nat} {j:Int} {out:List Int} {L:List Int} (h:out++upF q n j.toNat=L) (hn:j.toNat<n) (hb:0≤(ix q j.toNat).before):(out++ [(ix q j.toNat).action])++upF q (n- 1) (ix q j.toNat).before.toNat=L:=by
 obtain⟨m,rfl⟩:∃m,n=m+1:=⟨n- 1,by omega⟩
 rw[upF,if_pos hb] at h
 rw[List.append_assoc];exact h
theorem upF_top {q:List Mt} {n:Nat} {j:Int} {out:List Int} {L:List Int} (h:out++upF q n j.toNat=L) (hn:j.toNat<n) (hb:¬0≤(ix q j.toNat).before):out=L:=by
 obtain⟨m,rfl⟩:∃m,n=m+1:=⟨n- 1,by omega⟩
 rw[upF,if_neg hb,List.append_nil] at h
 exact h
noncomputable def fineE (s t:SSpec):Int:=if specOK s=true∧specOK t=true then(if s.actions=t.actions then 0 else 10) else 30
theorem has_and2 {u a:Int} (ha:0≤a):has u a=decide (((u.toNat>>>a.toNat&&&1:Nat):Int)=1):=by unfold has;rw[has_eq]
def leadV (x:SState) (a:Int):Int:=if leadB x a=true then leadI x a else 0
namespace T
theorem ent143:Ent Tryz.prog 143:=ent_of (by kernel_rfl)
theorem ent142:Ent Tryz.prog 142:=ent_of (by kernel_rfl)
theorem ent141:Ent Tryz.prog 141:=ent_of (by kernel_rfl)
theorem ent117:Ent Tryz.prog 117:=ent_of (by kernel_rfl)
theorem st159:StructT Tryz.prog 159 [(0,1),(1,1)] [.int .i64 0,.int .i64 0]:=structT_of (by kernel_rfl) (by kernel_rfl)
theorem mk123:MakeT Tryz.prog 123 159 2 16 [.int .i64 0,.int .i64 0]:=makeT_of (by kernel_rfl) (by kernel_rfl)
theorem ent92:Ent Tryz.prog 92:=ent_of (by kernel_rfl)
theorem ent79:Ent Tryz.prog 79:=ent_of (by kernel_rfl)
theorem ent60:Ent Tryz.prog 60:=ent_of (by kernel_rfl)
end T
namespace judg
theorem Index_ok (l:List Int) (x:Int):
 Fn0 Tryz.prog 142 [ints l,int x] (int (idxF (fun y=>decide (x=y)) l)):=by
 refine fnI Tryz.func142 rfl rfl (fun w0 F0=> ?_)
 refine fcC (slenI 0 rfl) (fun hm0=> ?_)
 refine sq (rg (ag (nl (th (sq (sq (rg (mv (lnF rfl T.sl63 (mv (nl (th (bk ?_)))))))))))))
 have hI0_0:0≤l.length:=by
  first|omega|simp
 have hI0_1:∀j,j<0→x≠ix l j:=by
  intro j hj;omega
 refine lp (κ:=Nat) (fun p=> [(0,sl 1 intE l),(1,int x),(7,int (l.length:Int)),(8,int (p:Int))]) (fun p=> []) (fun p=>(p≤l.length)∧(∀j,j<p→x≠ix l j)) (fun p=>l.length- p) 0 ⟨hI0_0,hI0_1⟩ ⟨id,id,id,id,trivial⟩ trivial ?_
 intro k hG0
 obtain⟨hk0,hI0⟩:(k≤l.length)∧(∀j,j<k→x≠ix l j):=hG0
 refine sq (rg (bi rfl rfl b_lss (nl (th (sq ?_)))))
 refine cd rfl (fun hc0=> ?_) (fun hc0=> ?_)
 ·try simp at hc0
  refine sk (th (sq (bk (sq (rg (mv (ag (nl (th (sq (rg (mv (mv (mv (iF rfl rfl T.sl63 (by omega) (by first|exact gN (by omega)|exact gI (by omega) (by omega)) (lF rfl rfl T.one3 (bi rfl rfl b_eql (nl (th ?_)))))))))))))))))))
  refine cd rfl (fun hc1=> ?_) (fun hc1=> ?_)
  ·try simp at hc1
   refine sq (rg (mv (ag (nl (th (rt (rb (rt_ (rt_ (rb (rt_ ?_)))))))))))
   have hr0:((k:Int):Int)=(idxF (fun y=>decide (x=y)) l):=by
    exact(idx_some (by omega) (decide_eq_true hc1) (fun j hj=>decide_eq_false (hI0 j hj))).symm
   have hall:∀x0,(k:Int)=x0→resAV [int (k:Int)]=resAV [int x0]:=by rintro _ rfl;rfl
   exact rE () [.tmp 4] rfl [int (k:Int)] ⟨.tmp rfl,trivial⟩ (hall _ hr0) trivial (by first|exact .inr rfl|exact .inl rfl)
  ·try simp at hc1
   refine sk (eb (th (rg (bi rfl rfl (b_add (by unfold I64;omega)) (mv (nl ?_))))))
   have hN0:(k+1)≤l.length:=by
    first|omega|simp_all
   have hN1:∀j,j<(k+1)→x≠ix l j:=by
    intro j hj
    by_cases e:j=k
    ·subst e;exact hc1
    ·exact hI0 j (by omega)
   exact ln (k+1) ⟨hN0,hN1⟩ (by first|omega|(dsimp only;omega)) ⟨id,id,id,id,trivial⟩ trivial
 ·try simp at hc0
  refine ex (xt_ (xt_ (xb (th (sq (rg (ag (nl (th (rt ?_))))))))))
  have hr0:((-1):Int)=(idxF (fun y=>decide (x=y)) l):=by
   exact(idx_none (fun j hj=>decide_eq_false (hI0 j (by omega)))).symm
  have hall:∀x0,(-1)=x0→resAV [int (-1)]=resAV [int x0]:=by rintro _ rfl;rfl
  exact rE () [.tmp 4] rfl [int (-1)] ⟨.tmp rfl,trivial⟩ (hall _ hr0) trivial (by first|exact .inr rfl|exact .inl rfl)
theorem Contains_ok (l:List Int) (x:Int):
 Fn0 Tryz.prog 113 [ints l,int x] (bl (decide (x∈l))):=by
 refine fnI Tryz.func113 rfl rfl (fun w0 F0=> ?_)
 refine fcC (slenI 0 rfl) (fun hm0=> ?_)
 refine sq (rg (ag (nl (th (sq (rg (mv (mv (cal0 (φs:= [sl 1 intE l,int x]) (φ:=int (idxF (fun y=>decide (x=y)) l)) ⟨rfl,rfl,trivial⟩ (judg.Index_ok _ _) T.ent142 (bi rfl rfl b_geq (ag (nl (th (rt ?_))))))))))))))
 have hr0:(decide (0≤(idxF (fun y=>decide (x=y)) l)))=(decide (x∈l)):=by
  rw[idx_any,Bool.eq_iff_iff,List.any_eq_true];simp
 have hall:∀x0,(decide (0≤(idxF (fun y=>decide (x=y)) l)))=x0→resAV [bl (decide (0≤(idxF (fun y=>decide (x=y)) l)))]=resAV [bl x0]:=by rintro _ rfl;rfl
 exact rE () [.tmp 4] rfl [bl (decide (0≤(idxF (fun y=>decide (x=y)) l)))] ⟨.tmp rfl,trivial⟩ (hall _ hr0) trivial (by first|exact .inr rfl|exact .inl rfl)
theorem Reverse_ok (v:Value) (xs:List Int) (hl:xs.length≤1000000000):
 AL.Fn Tryz.prog 116 [osl 5 v] [(5,own v 3 1 intE xs)] (ι:=Unit) (fun _ _=>tup []) (fun _=> [(5,own v 3 1 intE xs.reverse)]):=by
 refine fnI Tryz.func116 rfl rfl (fun w0 F0=> ?_)
 refine sq (rg (mv (lnO rfl rfl T.sl63 (bi rfl rfl (b_sub (by unfold I64;omega)) (ag (ag (nl (th (bk ?_)))))))))
 have hI0_0:((xs.length:Int)- 1)=(xs.length:Int)- 1- (0:Int)∧RevTo xs xs 0:=by
  exact⟨by omega,rfl,fun m hm=>by rw[if_neg (by omega)]⟩
 refine lp (κ:=Nat × Int × (List Int)) (fun p=> [(0,osl 5 v),(2,int (p.1:Int)),(3,int p.2.1)]) (fun p=> [(5,own v 3 1 intE p.2.2)]) (fun p=>p.2.1=(xs.length:Int)- 1- (p.1:Int)∧RevTo xs p.2.2 p.1) (fun p=>xs.length- p.1) ⟨0,(xs.length:Int)- 1,xs⟩ hI0_0 ⟨id,id,id,trivial⟩ ⟨⟨rfl,id⟩,trivial⟩ ?_
 intro⟨k,j,ys⟩ hG0
 obtain⟨hj,hR⟩:j=(xs.length:Int)- 1- (k:Int)∧RevTo xs ys k:=hG0
 show Ct _ _ _ _ [(0,osl 5 v),(2,int (k:Int)),(3,int j)] [(5,own v 3 1 intE ys)] _
 refine sq (sq (rg (mv (mv (bi rfl rfl b_lss (nl (th ?_)))))))
 refine cd rfl (fun hc0=> ?_) (fun hc0=> ?_)
 ·try simp at hc0
  have hyl:=hR.1
  refine sk (th (sq (bk ?_)))
  refine drH (nh:=16) [0,0,0,0,0,0,48,112,0,0,768,1792,4083,8179,16383,32767] [(none,[]),(none,[]),(none,[]),(none,[]),(none,[]),(none,[]),(none,[5]),(none,[5]),(none,[]),(none,[]),(none,[5]),(none,[5]),(none,[5]),(some 5,[5]),(none,[5]),(some 5,[5])] T.mixed (by kernel_rfl) (by kernel_rfl) ?_
  refine stv (d:=14) (fun β0=>osl 5 v) [] rfl (fun β β' hb=>rfl) (fun β0 _ _ _ _ gq gh kq=>mv' (gq.1.trans rfl) kq) ?_
  refine stv (d:=15) (fun β0=>int (k:Int)) [] rfl (fun β β' hb=>rfl) (fun β0 _ _ _ _ gq gh kq=>mv' (gq.1.trans rfl) kq) ?_
  refine stv (d:=16) (fun β0=>osl 5 v) [] rfl (fun β β' hb=>rfl) (fun β0 _ _ _ _ gq gh kq=>mv' (gq.1.trans rfl) kq) ?_
  refine stv (d:=17) (fun β0=>int j) [] rfl (fun β β' hb=>rfl) (fun β0 _ _ _ _ gq gh kq=>mv' (gq.1.trans rfl) kq) ?_
  refine stv (d:=18) (fun β0=>osl 5 v) [] rfl (fun β β' hb=>rfl) (fun β0 _ _ _ _ gq gh kq=>mv' (gq.1.trans rfl) kq) ?_
  refine stv (d:=19) (fun β0=>int j) [] rfl (fun β β' hb=>rfl) (fun β0 _ _ _ _ gq gh kq=>mv' (gq.1.trans rfl) kq) ?_
  refine stv (d:=20) (fun β0=>eptr 5 v 1 j.toNat 0) [5] rfl (fun β β' hb=>rfl) (fun β0 _ _ _ _ gq gh kq=>iO (gq.1.trans rfl) (gh.1.trans rfl) (gq.2.1.trans rfl) T.sl63 (by omega) (by omega) kq) ?_
  refine stv (d:=21) (fun β0=>int (ix ys j.toNat)) [5] rfl (fun β β' hb=>rfl) (fun β0 _ _ _ _ gq gh kq=>lO (gq.1.trans rfl) (gh.1.trans rfl) (gI (by omega) (by omega)) rfl T.one3 kq) ?_
  refine stv (d:=22) (fun β0=>osl 5 v) [] rfl (fun β β' hb=>rfl) (fun β0 _ _ _ _ gq gh kq=>mv' (gq.1.trans rfl) kq) ?_
  refine stv (d:=23) (fun β0=>int (k:Int)) [] rfl (fun β β' hb=>rfl) (fun β0 _ _ _ _ gq gh kq=>mv' (gq.1.trans rfl) kq) ?_
  refine stv (d:=24) (fun β0=>eptr 5 v 1 k 0) [5] rfl (fun β β' hb=>rfl) (fun β0 _ _ _ _ gq gh kq=>iO (gq.1.trans rfl) (gh.1.trans rfl) (gq.2.1.trans rfl) T.sl63 (by omega) (by omega) kq) ?_
  refine stv (d:=25) (fun β0=>int (ix ys k)) [5] rfl (fun β β' hb=>rfl) (fun β0 _ _ _ _ gq gh kq=>lO (gq.1.trans rfl) (gh.1.trans rfl) (gN (by omega)) rfl T.one3 kq) ?_
  refine stv (d:=26) (fun β0=>eptr 5 v 1 k 0) [5] rfl (fun β β' hb=>rfl) (fun β0 _ _ _ _ gq gh kq=>iO (gq.1.trans rfl) (gh.1.trans rfl) (gq.2.1.trans rfl) T.sl63 (by omega) (by omega) kq) ?_
  refine stw 5 (fun β0=>own v 3 1 intE (ys.set k (ix ys j.toNat))) [5] rfl (fun β β' hb=>rfl) (fun β0 _ _ _ _ gq gh kq=>sO (φ:=int (ix ys j.toNat)) (gq.1.trans rfl) (gh.1.trans rfl) (gq.2.1.trans rfl) T.one3 (by first|exact gN (by omega)|exact gI (by omega) (by simp;omega)) rfl (y':=(ix ys j.toNat)) rfl kq) ?_
  refine stv (d:=27) (fun β0=>eptr 5 v 1 j.toNat 0) [5] rfl (fun β β' hb=>rfl) (fun β0 _ _ _ _ gq gh kq=>iO (gq.1.trans rfl) (gh.1.trans rfl) (gq.2.1.trans rfl) T.sl63 (by omega) (by simp;omega) kq) ?_
  refine stw 5 (fun β0=>own v 3 1 intE ((ys.set k (ix ys j.toNat)).set j.toNat (ix ys k))) [5] rfl (fun β β' hb=>rfl) (fun β0 _ _ _ _ gq gh kq=>sO (φ:=int (ix ys k)) (gq.1.trans rfl) (gh.1.trans rfl) (gq.2.1.trans rfl) T.one3 (by first|exact gN (by omega)|exact gI (by omega) (by simp;omega)) rfl (y':=(ix ys k)) rfl kq) ?_
  refine pnH fun β0=>(nl (eb (th (rg (mv (bi rfl rfl (b_add (by unfold I64;omega)) (mv (bi rfl rfl (b_sub (by unfold I64;omega)) (ag (ag (nl ?_)))))))))))
  have hN0:(j- 1)=(xs.length:Int)- 1- ((k+1):Int)∧RevTo xs ((ys.set k (ix ys j.toNat)).set j.toNat (ix ys k)) (k+1):=by
   exact⟨by omega,rev_step hR hj hc0⟩
  exact ln (⟨k+1,j- 1,(ys.set k (ix ys j.toNat)).set j.toNat (ix ys k)⟩:Nat × Int × (List Int)) hN0 (by first|omega|(dsimp only;omega)) ⟨id,id,id,trivial⟩ ⟨⟨rfl,id⟩,trivial⟩
 ·try simp at hc0
  refine ex (xt_ (xt_ (xb ?_)))
  obtain rfl:ys=xs.reverse:=rev_done hR hj (by omega)
  exact rE () [] rfl [] trivial (rfl) ⟨⟨rfl,id⟩,trivial⟩ (by first|exact .inr rfl|exact .inl rfl)
theorem Lead1_ok (u a:Int) (hu:0≤u∧u<256) (ha:0≤a∧a<64):
 Fn0 Tryz.prog 143 [int u,fp [int a]] (bl (has u a)):=by
 refine fnI Tryz.func143 rfl rfl (fun w0 F0=> ?_)
 refine sq (rg (ag (nl (th (sq (rg (mv (lF rfl rfl T.one3 (bi rfl rfl (b_shrI (by omega) (by omega) (by omega)) (bi rfl rfl (b_and1 (m:=(u.toNat>>>a.toNat)) (Nat.lt_of_le_of_lt (Nat.shiftRight_le _ _) (by omega))) (bi rfl rfl b_eql (ag (nl (th (rt ?_)))))))))))))))
 have hr0:(decide ((((u.toNat>>>a.toNat)&&&1:Nat):Int)=1))=(has u a):=by
  rw[has_and2 ha.1]
 have hall:∀x0,(decide ((((u.toNat>>>a.toNat)&&&1:Nat):Int)=1))=x0→resAV [bl (decide ((((u.toNat>>>a.toNat)&&&1:Nat):Int)=1))]=resAV [bl x0]:=by rintro _ rfl;rfl
 exact rE () [.tmp 3] rfl [bl (decide ((((u.toNat>>>a.toNat)&&&1:Nat):Int)=1))] ⟨.tmp rfl,trivial⟩ (hall _ hr0) trivial (by first|exact .inr rfl|exact .inl rfl)
theorem IndexFuncD_ok (l:List Int) (dom:Int→Prop) (pq:Int→Bool) (hd:∀k,k<l.length→dom (ix l k)):
 Fn0 Tryz.prog 141 [ints l,pf Tryz.prog dom intE (fun x=>bl (pq x))] (int (idxF pq l)):=by
 refine fnI Tryz.func141 rfl rfl (fun w0 F0=> ?_)
 refine fcC (slenI 0 rfl) (fun hm0=> ?_)
 refine sq (rg (ag (nl (th (sq (sq (rg (mv (lnF rfl T.sl63 (mv (nl (th (bk ?_)))))))))))))
 have hI0_0:0≤l.length:=by
  first|omega|simp
 have hI0_1:∀j,j<0→pq (ix l j)=false:=by
  intro j hj;omega
 refine lp (κ:=Nat) (fun p=> [(0,sl 1 intE l),(1,pf Tryz.prog dom intE (fun x=>bl (pq x))),(7,int (l.length:Int)),(8,int (p:Int))]) (fun p=> []) (fun p=>(p≤l.length)∧(∀j,j<p→pq (ix l j)=false)) (fun p=>l.length- p) 0 ⟨hI0_0,hI0_1⟩ ⟨id,id,id,id,trivial⟩ trivial ?_
 intro k hG0
 obtain⟨hk0,hI0⟩:(k≤l.length)∧(∀j,j<k→pq (ix l j)=false):=hG0
 refine sq (rg (bi rfl rfl b_lss (nl (th (sq ?_)))))
 refine cd rfl (fun hc0=> ?_) (fun hc0=> ?_)
 ·try simp at hc0
  refine sk (th (sq (bk (sq (rg (mv (ag (nl (th (sq (rg (mv (mv (mv (iF rfl rfl T.sl63 (by omega) (by first|exact gN (by omega)|exact gI (by omega) (by omega)) (lF rfl rfl T.one3 (callP rfl (ix l k) (hd k (by omega)) rfl (nl (th ?_)))))))))))))))))))
  refine cd rfl (fun hc1=> ?_) (fun hc1=> ?_)
  ·try simp at hc1
   refine sq (rg (mv (ag (nl (th (rt (rb (rt_ (rt_ (rb (rt_ ?_)))))))))))
   have hr0:((k:Int):Int)=(idxF pq l):=by
    exact(idx_some (by omega) hc1 hI0).symm
   have hall:∀x0,(k:Int)=x0→resAV [int (k:Int)]=resAV [int x0]:=by rintro _ rfl;rfl
   exact rE () [.tmp 4] rfl [int (k:Int)] ⟨.tmp rfl,trivial⟩ (hall _ hr0) trivial (by first|exact .inr rfl|exact .inl rfl)
  ·try simp at hc1
   refine sk (eb (th (rg (bi rfl rfl (b_add (by unfold I64;omega)) (mv (nl ?_))))))
   have hN0:(k+1)≤l.length:=by
    first|omega|simp_all
   have hN1:∀j,j<(k+1)→pq (ix l j)=false:=by
    intro j hj
    by_cases e:j=k
    ·subst e;simpa using hc1
    ·exact hI0 j (by omega)
   exact ln (k+1) ⟨hN0,hN1⟩ (by first|omega|(dsimp only;omega)) ⟨id,id,id,id,trivial⟩ trivial
 ·try simp at hc0
  refine ex (xt_ (xt_ (xb (th (sq (rg (ag (nl (th (rt ?_))))))))))
  have hr0:((-1):Int)=(idxF pq l):=by
   exact(idx_none (fun j hj=>hI0 j (by omega))).symm
  have hall:∀x0,(-1)=x0→resAV [int (-1)]=resAV [int x0]:=by rintro _ rfl;rfl
  exact rE () [.tmp 4] rfl [int (-1)] ⟨.tmp rfl,trivial⟩ (hall _ hr0) trivial (by first|exact .inr rfl|exact .inl rfl)
theorem leadF_ok (l:List Int) (hl:∀k,k<l.length→0≤ix l k∧ix l k<256) (a:Int) (ha:0≤a∧a<64):Fn0 Tryz.prog 141 [ints l,clo 143 [fp [int a]]] (int (idxF (fun u=>has u a) l)):=by
 refine fn_args (fun {w F vs} h=> ?_) (IndexFuncD_ok l (fun u=>0≤u∧u<256) (fun u=>has u a) hl)
 match vs,h with
 | [_,_],⟨h1,h2,_⟩=>exact⟨h1,clo_pf T.ent143 (fun u hu=>Lead1_ok u a hu ha) h2,trivial⟩
theorem Lead_ok (x:SState) (hx:∀i,i<x.accept.length→0≤ix x.accept i∧ix x.accept i<256) (a:Int) (h0:0≤a) (ha:a<64):
 Fn0 Tryz.prog 117 [state x,int a] (tup [int (leadV x a),bl (leadB x a)]):=by
 refine fnI Tryz.func117 rfl rfl (fun w0 F0=> ?_)
 refine fcC (inhS 0 rfl) (fun hS0=> ?_)
 obtain⟨hxa0,hxn0⟩:=state_lens hS0
 refine sq (rg (bx (key:=2) (cs:= [sl 1 intE x.accept,sl 1 intE x.next]) rfl fun b2=>(bx1 (key:=3) (φ:=int a) rfl fun b3=>(ag (ag (nl (th (sq (rg (fP rfl T.fld72_0 (lP rfl rfl rfl T.one63 (fzv 3 3 rfl rfl (mkf (cal0 (φs:= [sl 1 intE x.accept,clo 143 [fp [int a]]]) (φ:=int (idxF (fun u=>has u a) x.accept)) ⟨rfl,rfl,trivial⟩ (leadF_ok x.accept hx a ⟨h0,ha⟩) T.ent141 (ag (nl (th (sq (sq (rg (mv (bi rfl rfl b_lss (nl (th ?_))))))))))))))))))))))))
 refine cd rfl (fun hc0=> ?_) (fun hc0=> ?_)
 ·try simp at hc0
  have hlb:leadB x a=false:=by
   have:=idx_any (p:=(fun u=>has u a)) (l:=x.accept)
   rw[decide_eq_false (by omega)] at this
   exact this.symm
  refine sq (rg (ag (ag (nl (th (rt (rt_ ?_)))))))
  have hr0:(0:Int)=(leadV x a):=by
   unfold leadV;rw[if_neg (by simp[hlb])]
  have hr1:false=(leadB x a):=by
   exact hlb.symm
  have hall:∀x0 x1,0=x0→false=x1→resAV [int 0,bl false]=resAV [int x0,bl x1]:=by rintro _ _ rfl rfl;rfl
  exact rE () [.tmp 4,.tmp 5] rfl [int 0,bl false] ⟨.tmp rfl,.tmp rfl,trivial⟩ (hall _ _ hr0 hr1) trivial (by first|exact .inr rfl|exact .inl rfl)
 ·try simp at hc0
  have hlb:leadB x a=true:=by
   have:=idx_any (p:=(fun u=>has u a)) (l:=x.accept)
   rw[decide_eq_true (by omega)] at this
   exact this.symm
  obtain⟨hi0,hi1,_⟩:=lead_ix hlb
  refine sk (th (sq (rg (fP rfl T.fld72_0 (lP rfl rfl rfl T.one63 (mv (iF rfl rfl T.sl63 (by omega) (by first|exact gN (by omega)|exact gI (by omega) (by omega)) (lF rfl rfl T.one3 (ag (ag (nl (th (rt ?_)))))))))))))
  have hr0:((ix x.accept ((idxF (fun u=>has u a) x.accept).toNat)):Int)=(leadV x a):=by
   unfold leadV;rw[if_pos hlb];rfl
  have hr1:true=(leadB x a):=by
   exact hlb.symm
  have hall:∀x0 x1,(ix x.accept ((idxF (fun u=>has u a) x.accept).toNat))=x0→true=x1→resAV [int (ix x.accept ((idxF (fun u=>has u a) x.accept).toNat)),bl true]=resAV [int x0,bl x1]:=by rintro _ _ rfl rfl;rfl
  exact rE () [.tmp 4,.tmp 5] rfl [int (ix x.accept ((idxF (fun u=>has u a) x.accept).toNat)),bl true] ⟨.tmp rfl,.tmp rfl,trivial⟩ (hall _ _ hr0 hr1) trivial (by first|exact .inr rfl|exact .inl rfl)
theorem Path_ok (s:SSpec) (hT:okSpec s) (w:List Int) (hw:Alive s w) (u:Int) (hlw:w.length≤1000000000):
 Fn0 Tryz.prog 89 [spec s,ints w,int u] (tup [sl 2 pairE (pathL s w u),bl (decide (u∈acc s (goS s w).toNat))]):=by
 refine fnI Tryz.func89 rfl rfl (fun w0 F0=> ?_)
 have hf1:=hT.few1;have hn8:=hT.n8
 refine fcC (inhS 0 rfl) (fun hS0=> ?_)
 obtain⟨hsa0,hss0,hse0⟩:=spec_lens hS0
 refine fcC (slenI 1 rfl) (fun hm1=> ?_)
 refine sq (rg (bx (key:=3) (cs:= [sl 1 strE s.actions,sl 2 stateE s.states]) rfl fun b3=>(ag (ag (nl (th (sq (rg (nw 8 159 2 pairE (ag (rtg (key:=8) 8 rfl (nl (th (sq (rg (ag (nl (th (sq (sq (rg (mv (lnF rfl T.sl63 (mv (nl (th (bk ?_)))))))))))))))))))))))))))
 have hI0_0:0≤w.length:=by
  first|omega|simp
 have hI0_1:(0:Int)=xAt s w 0∧([]:List (Int × Int))=(List.range 0).map (stepL s w):=by
  exact⟨(xAt_zero s w).symm,rfl⟩
 refine lp (κ:=Nat × Int × Value × (List (Int × Int))) (fun p=> [(2,int u),(3,ptr 3 b3 0),(8,osl 8 p.2.2.1),(9,int p.2.1),(14,sl 1 intE w),(15,int (w.length:Int)),(16,int (p.1:Int))]) (fun p=> [(3,cell b3 [sl 1 strE s.actions,sl 2 stateE s.states]),(8,own p.2.2.1 159 2 pairE p.2.2.2)]) (fun p=>(p.1≤w.length)∧(p.2.1=xAt s w p.1∧p.2.2.2=(List.range p.1).map (stepL s w))) (fun p=>w.length- p.1) ⟨0,(0:Int),(.slice none 0 0),([]:List (Int × Int))⟩ ⟨hI0_0,hI0_1⟩ ⟨id,id,id,id,id,id,id,trivial⟩ ⟨⟨rfl,id⟩,⟨rfl,id⟩,trivial⟩ ?_
 intro⟨k,x,v8,out⟩ hG0
 obtain⟨hk0,⟨hx,hou⟩⟩:(k≤w.length)∧(x=xAt s w k∧out=(List.range k).map (stepL s w)):=hG0
 show Ct _ _ _ _ [(2,int u),(3,ptr 3 b3 0),(8,osl 8 v8),(9,int x),(14,sl 1 intE w),(15,int (w.length:Int)),(16,int (k:Int))] [(3,cell b3 [sl 1 strE s.actions,sl 2 stateE s.states]),(8,own v8 159 2 pairE out)] _
 have hol:out.length=k:=by rw[hou];simp
 refine sq (rg (bi rfl rfl b_lss (nl (th (sq ?_)))))
 refine cd rfl (fun hc0=> ?_) (fun hc0=> ?_)
 ·try simp at hc0
  have hxb:=alive_next hT hw k (by omega)
  have hab:=alive_act hT hw hc0
  obtain⟨_,_,na,hna,hha⟩:=hw k hc0
  rw[←hx] at hxb hha
  have hxo:=hT.st x.toNat (by omega)
  have hxl:=hxo.len
  have hxac:=hxo.ac
  have hlb:leadB (ix s.states x.toNat) (ix w k)=true:=by rw[hna];exact leadB_of hha
  refine sk (th (sq (bk (sq (rg (iF rfl rfl T.sl63 (by omega) (by first|exact gN (by omega)|exact gI (by omega) (by omega)) (lF rfl rfl T.one3 (ag (nl (th (sq (rg (fP rfl T.fld25_1 (lP rfl rfl rfl T.one23 (mv (iF rfl rfl T.sl23 (by omega) (by first|exact gN (by omega)|exact gI (by omega) (by omega)) (lFA rfl T.agg72 (Nat.le_of_ble_eq_true rfl) (mv (cal0 (φs:= [agg [sl 1 intE ((ix s.states x.toNat).accept),sl 1 intE ((ix s.states x.toNat).next)],int (ix w k)]) (φ:=tup [int (leadV (ix s.states x.toNat) (ix w k)),bl (leadB (ix s.states x.toNat) (ix w k))]) ⟨rfl,rfl,trivial⟩ (judg.Lead_ok (ix s.states x.toNat) (by assumption) (ix w k) (by omega) (by omega)) T.ent117 (mv (xt rfl rfl (xt rfl rfl (ag (ag (nl (th (sq (sq (rg (mv (no rfl (nl (th ?_)))))))))))))))))))))))))))))))))
  refine cd rfl (fun hc1=> ?_) (fun hc1=> ?_)
  ·try simp at hc1
   exact absurd hlb (by simp[hc1])
  ·try simp at hc1
   refine sk (th (sq (rg (mv (mv (mv (bd (css:= [(0,_),(1,_)]) T.st159 (ex_cons (ex_cons (ex_nil))) ⟨rfl,rfl,p1 (φ:=int x) rfl,⟨rfl,rfl,p1 (φ:=int (leadV (ix s.states x.toNat) (ix w k))) rfl,trivial⟩⟩ (bs (css:= [[int x,int (leadV (ix s.states x.toNat) (ix w k))]]) T.mk123 ⟨rfl,rfl,pA (cs:= [int x,int (leadV (ix s.states x.toNat) (ix w k))]) rfl,trivial⟩ rfl rfl rfl (ap (key:=8) (zs:= [(x,leadV (ix s.states x.toNat) (ix w k))]) osl_eq rfl rfl rfl T.mk123 (by unfold maxL at*;simp;omega) (by unfold maxL at*;simp;omega) fun v37=>(ag (nl (th (rg (fP rfl T.fld25_1 (lP rfl rfl rfl T.one23 (mv (iF rfl rfl T.sl23 (by omega) (by first|exact gN (by omega)|exact gI (by omega) (by omega)) (fF rfl T.fld72_1 (lF rfl rfl T.one63 (mv (iF rfl rfl T.sl63 (by omega) (by first|exact gN (by omega)|exact gI (by omega) (by omega)) (lF rfl rfl T.one3 (ag (nl (eb (th (rg (bi rfl rfl (b_add (by unfold I64;omega)) (mv (nl ?_))))))))))))))))))))))))))))))
   have hN0:(k+1)≤w.length:=by
    first|omega|simp_all
   have hN1:(ix ((ix s.states x.toNat).next) ((ix w k).toNat))=xAt s w (k+1)∧(out++ [(x,leadV (ix s.states x.toNat) (ix w k))])=(List.range (k+1)).map (stepL s w):=by
    refine⟨?_,?_⟩
    ·rw[xAt_succ hc0,←hx]
     unfold stepS;rw[if_neg (by omega)]
    ·rw[List.range_succ,List.map_append,←hou]
     congr 1
     show [_]= [stepL s w k]
     unfold stepL leadV
     rw[←hx,if_pos hlb]
   exact ln (⟨k+1,ix ((ix s.states x.toNat).next) ((ix w k).toNat),v37,out++ [(x,leadV (ix s.states x.toNat) (ix w k))]⟩:Nat × Int × Value × (List (Int × Int))) ⟨hN0,hN1⟩ (by first|omega|(dsimp only;omega)) ⟨id,id,id,id,id,id,id,trivial⟩ ⟨⟨rfl,id⟩,⟨rfl,id⟩,trivial⟩
 ·try simp at hc0
  have hkl:k=w.length:=by omega
  have hxb:=alive_next hT hw k (by omega)
  rw[←hx] at hxb
  have hxe:=hT.st x.toNat (by omega)
  refine ex (xt_ (xt_ (xb (th (sq ?_)))))
  refine drH (nh:=15) [0,0,0,6,14,31,0,64,0,448,960,0,4095,8191,16383] [(none,[]),(none,[]),(none,[]),(none,[]),(none,[]),(some 8,[8]),(none,[]),(none,[3]),(none,[]),(none,[]),(none,[]),(none,[]),(none,[]),(none,[]),(none,[])] T.mixed (by kernel_rfl) (by kernel_rfl) ?_
  refine stv (d:=48) (fun β0=>osl 8 v8) [] rfl (fun β β' hb=>rfl) (fun β0 _ _ _ _ gq gh kq=>mv' (gq.1.trans rfl) kq) ?_
  refine stv (d:=49) (fun β0=>int x) [] rfl (fun β β' hb=>rfl) (fun β0 _ _ _ _ gq gh kq=>mv' (gq.1.trans rfl) kq) ?_
  refine stv (d:=50) (fun β0=>int u) [] rfl (fun β β' hb=>rfl) (fun β0 _ _ _ _ gq gh kq=>mv' (gq.1.trans rfl) kq) ?_
  refine stv (d:=51) (fun β0=>agg [int x,int u]) [] rfl (fun β β' hb=>rfl) (fun β0 _ _ _ _ gq gh kq=>bd (css:= [(0,_),(1,_)]) T.st159 (ex_cons (ex_cons (ex_nil))) ⟨rfl,rfl,p1 (φ:=int x) (by exact(gq.1.trans rfl)),⟨rfl,rfl,p1 (φ:=int u) (by exact(gq.2.1.trans rfl)),trivial⟩⟩ kq) ?_
  refine stv (d:=52) (fun β0=>sl 2 id [[int x,int u]]) [] rfl (fun β β' hb=>rfl) (fun β0 _ _ _ _ gq gh kq=>bs (css:= [[int x,int u]]) T.mk123 ⟨rfl,rfl,pA (cs:= [int x,int u]) (by exact(gq.1.trans rfl)),trivial⟩ rfl rfl rfl kq) ?_
  refine stc (d:=53) (e:=159) (n:=2) (enc:=pairE) (xs:=out++ [(x,u)]) 8 [8] rfl (fun β0 _ _ _ _ gq gh kq=>ap (key:=8) (zs:= [(x,u)]) (fun h=>osl_of (gq.1.trans rfl) h) (gh.1.trans rfl) (gq.2.1.trans rfl) rfl T.mk123 (by unfold maxL at*;simp;omega) (by unfold maxL at*;simp;omega) fun v=>kq v) ?_
  refine stv (d:=54) (fun β0=>ptr 3 b3 1) [] rfl (fun β β' hb=>rfl) (fun β0 _ _ _ _ gq gh kq=>fP (gq.1.trans rfl) T.fld25_1 kq) ?_
  refine stv (d:=55) (fun β0=>sl 2 stateE s.states) [3] rfl (fun β β' hb=>rfl) (fun β0 _ _ _ _ gq gh kq=>lP (gq.1.trans rfl) (gh.1.trans rfl) rfl T.one23 kq) ?_
  refine stv (d:=56) (fun β0=>int x) [] rfl (fun β β' hb=>rfl) (fun β0 _ _ _ _ gq gh kq=>mv' (gq.1.trans rfl) kq) ?_
  refine stv (d:=57) (fun β0=>fp [sl 1 intE ((ix s.states x.toNat).accept),sl 1 intE ((ix s.states x.toNat).next)]) [] rfl (fun β β' hb=>rfl) (fun β0 _ _ _ _ gq gh kq=>iF (gq.1.trans rfl) (gq.2.1.trans rfl) T.sl23 (by omega) (by first|exact gN (by omega)|exact gI (by omega) (by omega)) kq) ?_
  refine stv (d:=58) (fun β0=>agg [sl 1 intE ((ix s.states x.toNat).accept),sl 1 intE ((ix s.states x.toNat).next)]) [] rfl (fun β β' hb=>rfl) (fun β0 _ _ _ _ gq gh kq=>lFA (gq.1.trans rfl) T.agg72 (Nat.le_of_ble_eq_true rfl) kq) ?_
  refine stv (d:=59) (fun β0=>int u) [] rfl (fun β β' hb=>rfl) (fun β0 _ _ _ _ gq gh kq=>mv' (gq.1.trans rfl) kq) ?_
  refine stv (d:=60) (fun β0=>bl (decide (u∈(ix s.states x.toNat).accept))) [] rfl (fun β β' hb=>rfl) (fun β0 _ _ _ _ gq gh kq=>cal0 (φs:= [agg [sl 1 intE ((ix s.states x.toNat).accept),sl 1 intE ((ix s.states x.toNat).next)],int u]) (φ:=bl (decide (u∈(ix s.states x.toNat).accept))) ⟨(gq.1.trans rfl),(gq.2.1.trans rfl),trivial⟩ (search.Accepts_ok (ix s.states x.toNat) hxe.rise u) T.ent92 kq) ?_
  refine stv (d:=6) (fun β0=>osl 8 (sv (β0 5))) [] rfl (fun β β' hb=>by first|rw[hb 5 rfl]|(dsimp only;rw[hb 5 rfl])) (fun β0 _ _ _ _ gq gh kq=>ag' (gq.1.trans rfl) kq) ?_
  refine stv (d:=7) (fun β0=>bl (decide (u∈(ix s.states x.toNat).accept))) [] rfl (fun β β' hb=>rfl) (fun β0 _ _ _ _ gq gh kq=>ag' (gq.1.trans rfl) kq) ?_
  refine pnH fun β0=>(nl (th (rt ?_)))
  refine fzA 8 6 rfl rfl ?_
  have hr0:(out++ [(x,u)])=(pathL s w u):=by
   unfold pathL;rw[hou,hx,hkl]
  have hr1:(decide (u∈(ix s.states x.toNat).accept))=(decide (u∈acc s (goS s w).toNat)):=by
   rw[hx,hkl,xAt_all]
  have hall:∀x0 x1,(out++ [(x,u)])=x0→(decide (u∈(ix s.states x.toNat).accept))=x1→resAV [sl 2 pairE (out++ [(x,u)]),bl (decide (u∈(ix s.states x.toNat).accept))]=resAV [sl 2 pairE x0,bl x1]:=by rintro _ _ rfl rfl;rfl
  exact rE () [.tmp 6,.tmp 7] rfl [sl 2 pairE (out++ [(x,u)]),bl (decide (u∈(ix s.states x.toNat).accept))] ⟨.tmp rfl,.tmp rfl,trivial⟩ (hall _ _ hr0 hr1) trivial (by first|exact .inr rfl|exact .inl rfl)
theorem Fine_ok (s t:SSpec) (hs:smallSpec s) (ht:smallSpec t):
 Fn0 Tryz.prog 50 [spec s,spec t] (int (fineE s t)):=by
 refine fnI Tryz.func50 rfl rfl (fun w0 F0=> ?_)
 refine fcC (inhS 0 rfl) (fun hS0=> ?_)
 obtain⟨hsa0,hss0,hse0⟩:=spec_lens hS0
 refine fcC (inhS 1 rfl) (fun hS1=> ?_)
 obtain⟨hsa1,hss1,hse1⟩:=spec_lens hS1
 refine sq (rg (bx (key:=2) (cs:= [sl 1 strE s.actions,sl 2 stateE s.states]) rfl fun b2=>(bx (key:=3) (cs:= [sl 1 strE t.actions,sl 2 stateE t.states]) rfl fun b3=>(ag (nl (th (sq (bk (sq (rg (lPA rfl rfl T.agg25 rfl (cal0 (φs:= [agg [sl 1 strE s.actions,sl 2 stateE s.states]]) (φ:=bl (specOK s)) ⟨rfl,trivial⟩ (prog2.Valid_ok s (by assumption)) T.ent79 (no rfl (mv ?_))))))))))))))
 apply gOr (t:=9) (pd:=13) rfl
 rotate_left
 ·intro hg0 fin
  have hg0':=hg0
  try simp at hg0'
  exact gy rfl rfl rfl hg0 (lPA rfl rfl T.agg25 rfl (gy rfl rfl rfl hg0 (cal0 (φs:= [agg [sl 1 strE t.actions,sl 2 stateE t.states]]) (φ:=bl (specOK t)) ⟨rfl,trivial⟩ (prog2.Valid_ok t (by assumption)) T.ent79 (gy rfl rfl rfl hg0 (no rfl (pkF rfl hg0 rfl (drp (X:= [(12,_),(11,_),(10,_)]) ⟨rfl,rfl,rfl,trivial⟩ (fin))))))))
 ·intro hg0 fin
  exact gn rfl rfl rfl hg0 rfl rfl (gn rfl rfl rfl hg0 rfl rfl (gn rfl rfl rfl hg0 rfl rfl (pkT rfl hg0 rfl (drp (X:= [(12,_),(11,_),(10,_)]) ⟨rfl,rfl,rfl,trivial⟩ (fin)))))
 refine ag (nl (th ?_))
 refine cd rfl (fun hc0=> ?_) (fun hc0=> ?_)
 ·try simp at hc0
  refine sq (rg (ag (nl (th (rt (rb (rt_ ?_)))))))
  have hr0:(30:Int)=(fineE s t):=by
   unfold fineE;rw[if_neg (by rintro⟨a,b⟩;simp[a,b] at hc0)]
  have hall:∀x0,30=x0→resAV [int 30]=resAV [int x0]:=by rintro _ rfl;rfl
  exact rE () [.tmp 4] rfl [int 30] ⟨.tmp rfl,trivial⟩ (hall _ hr0) trivial (by first|exact .inr rfl|exact .inl rfl)
 ·try simp at hc0
  refine sq (rg (fP rfl T.fld25_0 (lP rfl rfl rfl T.one22 (fP rfl T.fld25_0 (lP rfl rfl rfl T.one22 (cal0 (φs:= [sl 1 strE s.actions,sl 1 strE t.actions]) (φ:=bl (decide (s.actions=t.actions))) ⟨rfl,rfl,trivial⟩ (prog.sEqualstrE_ok _ _) T.ent60 (no rfl (ag (nl (th ?_))))))))))
  refine cd rfl (fun hc1=> ?_) (fun hc1=> ?_)
  ·try simp at hc1
   refine sq (rg (ag (nl (th (rt (rb (rt_ ?_)))))))
   have hr0:(10:Int)=(fineE s t):=by
    unfold fineE;rw[if_pos (by simpa using hc0),if_neg hc1]
   have hall:∀x0,10=x0→resAV [int 10]=resAV [int x0]:=by rintro _ rfl;rfl
   exact rE () [.tmp 4] rfl [int 10] ⟨.tmp rfl,trivial⟩ (hall _ hr0) trivial (by first|exact .inr rfl|exact .inl rfl)
  ·try simp at hc1
   refine sk (eb (th (sq (rg (ag (nl (th (rt ?_))))))))
   have hr0:(0:Int)=(fineE s t):=by
    unfold fineE;rw[if_pos (by simpa using hc0),if_pos hc1]
   have hall:∀x0,0=x0→resAV [int 0]=resAV [int x0]:=by rintro _ rfl;rfl
   exact rE () [.tmp 4] rfl [int 0] ⟨.tmp rfl,trivial⟩ (hall _ hr0) trivial (by first|exact .inr rfl|exact .inl rfl)
end judg
end Go.Proofs.YtcjemmihcplgdaaGreat
namespace Go.Proofs.YtcjemmihcplgdaaGreat
open AL ref01 ref03 ref04 ref06 Part Rungs LeftM TrimM Itoa Keys RoundM MergeM BisM BisM2 BisM3 BisM4 BisM5 TurnM
set_option linter.all false
namespace BisM6
structure SatR (off:Nat→Int) (ed:Nat→List (Nat × Nat)) (t:SSpec) (R:Nat→Nat→Prop):Prop where
 bd:∀{x y},R x y→y<t.states.length
 acc:∀{x y},R x y→off x∈BisM.acc t y
 len:∀{x y},R x y→∀e∈ed x,e.1<(nxt t y).length
 nxt:∀{x y},R x y→∀e∈ed x,0≤ix (nxt t y) e.1∧R e.2 (ix (nxt t y) e.1).toNat
def Sat (off:Nat→Int) (ed:Nat→List (Nat × Nat)) (t:SSpec) (x y:Nat):Prop:=∃R,SatR off ed t R∧R x y
def OffOK (off:Nat→Int) (ed:Nat→List (Nat × Nat)):Prop:=∀x (a:Nat),has (off x) (a:Int)=true↔∃e∈ed x,e.1=a
variable {off:Nat→Int} {ed:Nat→List (Nat × Nat)}
theorem sat_not {s:SSpec} (hs:okSpec s) (ho:OffOK off ed) {R:Nat→Nat→Prop} (hR:SatR off ed s R) {x y:Nat} (h:R x y):ix (hollow s) y=false:=by
 have hy:=hR.bd h
 cases hv:ix (hollow s) y with
 |false=>rfl
 |true=>
  exfalso
  refine(hollow_ix hy).1 hv (fun y=> ∀x,¬R x y) (fun y hy hc x hxy=> ?_) x h
  obtain⟨i,hi,e⟩:=mem_ix (hR.acc hxy)
  obtain⟨a,ha,_,hh,hH⟩:=hc i hi
  have e':ix (ix s.states y).accept i=off x:=e
  rw[e'] at hh
  obtain⟨e,he,rfl⟩:=(ho x a).1 hh
  exact hH _ (hR.nxt hxy e he).2
theorem sat_keep {s:SSpec} (hs:okSpec s) (ho:OffOK off ed) {R:Nat→Nat→Prop} (hR:SatR off ed s R) {x y:Nat} (h:R x y):off x∈keep s y:=by
 rw[keep_filter (sat_not hs ho hR h),List.mem_filter]
 refine⟨hR.acc h,?_⟩
 rw[Bool.not_eq_true']
 cases hf:falls (ix s.states y) (off x) (hollow s) with
 |false=>rfl
 |true=>
  obtain⟨a,_,_,hh,hv⟩:=falls_iff.1 hf
  obtain⟨e,he,rfl⟩:=(ho x a).1 hh
  have:=sat_not hs ho hR (hR.nxt h e he).2
  have hv':ix (hollow s) (ix (nxt s y) e.1).toNat=true:=hv
  rw[this] at hv';cases hv'
theorem sat_solid {s:SSpec} (hs:okSpec s) (ho:OffOK off ed) {x y:Nat}:Sat off ed s x y↔Sat off ed (solid s) x y:=by
 constructor
 ·rintro⟨R,hR,h⟩
  refine⟨R,⟨fun h=>by rw[solid_len];exact hR.bd h,fun h=> ?_,fun {a b} h e he=> ?_,fun {a b} h e he=> ?_⟩,h⟩
  ·rw[solid_acc (hR.bd h)];exact sat_keep hs ho hR h
  ·have hb:=hR.bd h
   rw[solid_nlen hs hb]
   have:=hR.len h e he
   have hl:(nxt s b).length=s.actions.length:=(hs.st b hb).len
   omega
  ·have hb:=hR.bd h
   have hl:(nxt s b).length=s.actions.length:=(hs.st b hb).len
   have he1:=hR.len h e he
   have hh:has (orAll (keep s b)) (e.1:Int)=true:=(orAll_has _ _).2 ⟨off a,sat_keep hs ho hR h,(ho a e.1).2 ⟨e,he,rfl⟩⟩
   rw[solid_ix hs hb (by omega),if_pos hh]
   exact hR.nxt h e he
 ·rintro⟨R,hR,h⟩
  have hk:∀{a b},R a b→b<s.states.length∧off a∈keep s b:=fun {a b} h=>by
   have hb:=hR.bd h
   rw[solid_len] at hb
   have:=hR.acc h
   rw[solid_acc hb] at this
   exact⟨hb,this⟩
  refine⟨R,⟨fun h=>(hk h).1,fun h=>(List.mem_filter.1 (hk h).2).1,fun {a b} h e he=> ?_,fun {a b} h e he=> ?_⟩,h⟩
  ·obtain⟨hb,_⟩:=hk h
   have:=hR.len h e he
   rw[solid_nlen hs hb] at this
   show e.1<(ix s.states b).next.length
   rw[(hs.st b hb).len];exact this
  ·obtain⟨hb,hm⟩:=hk h
   have hl:=hR.len h e he
   rw[solid_nlen hs hb] at hl
   have hh:has (orAll (keep s b)) (e.1:Int)=true:=(orAll_has _ _).2 ⟨off a,hm,(ho a e.1).2 ⟨e,he,rfl⟩⟩
   have:=hR.nxt h e he
   rw[solid_ix hs hb hl,if_pos hh] at this
   exact this
theorem acc_in {T:SSpec} {x:Nat} {u:Int} (h:u∈acc T x):x<T.states.length:=by
 rcases Nat.lt_or_ge x T.states.length with h1|h1
 ·exact h1
 ·exfalso
  have e:ix T.states x=default:=by unfold ix;rw[List.getD_eq_getElem?_getD,List.getElem?_eq_none h1];rfl
  have h2:u∈(ix T.states x).accept:=h
  rw[e] at h2
  cases h2
theorem sat_sim {T U:SSpec} {x y z:Nat} (h:Sat off ed T x y) (hs:Sim2 T U y z):Sat off ed U x z:=by
 obtain⟨R,hR,hxy⟩:=h
 have hbis:=sim_bis T U
 have hm:∀{a b c},R a b→Sim2 T U b c→off a∈acc U c:=fun h hS=>by rw[←hbis.acc hS];exact hR.acc h
 refine⟨fun a c=> ∃b,R a b∧Sim2 T U b c,⟨fun⟨b,h,hS⟩=>acc_in (hm h hS),fun⟨b,h,hS⟩=>hm h hS,fun⟨b,h,hS⟩ e he=> ?_,fun {a c} ⟨b,h,hS⟩ e he=> ?_⟩,y,hxy,hs⟩
 ·rw[←hbis.len hS];exact hR.len h e he
 ·obtain⟨n0,n1⟩:=hR.nxt h e he
  obtain⟨g1,g2⟩:=hbis.nxt hS e.1 (hR.len h e he)
  exact⟨by omega,_,n1,g2 n0⟩
theorem any_cong {α:Type} {p q:α→Bool}:∀{l:List α},(∀a∈l,p a=q a)→l.any p=l.any q
 | [],_=>rfl
 |a::l,h=>by rw[List.any_cons,List.any_cons,h a (by simp),any_cong (fun b hb=>h b (List.mem_cons_of_mem _ hb))]
end BisM6
end Go.Proofs.YtcjemmihcplgdaaGreat
