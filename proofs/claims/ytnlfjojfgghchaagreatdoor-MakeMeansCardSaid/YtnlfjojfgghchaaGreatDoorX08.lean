/- The walks of the functions and the plain laws. Own texts of this claim, packed: Mkjudg, MkBisM6. -/
import Derived.Test.YtnlfjojfgghchaaGreatDoorX06
import Derived.Test.YtnlfjojfgghchaaGreatDoorX07
set_option linter.all false
namespace Go.Proofs.YtnlfjojfgghchaaGreatDoor
open AL Go
set_option maxRecDepth 100000
section
open ref01 ref03 ref04 ref06 prog prog2 prog3 prog4 prog5 prog6 prog13 prog15 starts search Part Rungs LeftM TrimM RoundM BisM BisM5 WalkM StepM refw
def wI (xs ys:List Int) (k:Nat):Prop:=ys.length=xs.length∧∀m,m<xs.length→ix ys m=if m<k∨xs.length≤m+k then ix xs (xs.length- 1- m) else ix xs m
theorem Po {xs ys:List Int} {k:Nat} {j:Int} (h:wI xs ys k) (hj:j=(xs.length:Int)- 1- (k:Int)) (hk:(k:Int)<j):wI xs ((ys.set k (ix ys j.toNat)).set j.toNat (ix ys k)) (k+1):=by
 obtain⟨h1,h2⟩:=h
 refine⟨by simp[h1],fun m hm=> ?_⟩
 have e1:ix ys j.toNat=ix xs j.toNat:=by rw[h2 _ O,if_neg O]
 have e2:ix ys k=ix xs k:=by rw[h2 _ O,if_neg O]
 rw[mC (by simp;omega),mC O,e1,e2]
 by_cases g1:m=j.toNat
 ·rw[if_pos g1,if_pos O];congr 1;omega
 ·rw[if_neg g1]
  by_cases g2:m=k
  ·rw[if_pos g2,if_pos O];congr 1;omega
  ·rw[if_neg g2,h2 m hm]
   by_cases g3:m<k∨xs.length≤m+k
   ·rw[if_pos g3,if_pos O]
   ·rw[if_neg g3,if_neg O]
theorem Pp {xs ys:List Int} {k:Nat} {j:Int} (h:wI xs ys k) (hj:j=(xs.length:Int)- 1- (k:Int)) (hk:¬(k:Int)<j):ys=xs.reverse:=by
 obtain⟨h1,h2⟩:=h
 apply List.ext_getElem
 ·simp[h1]
 ·intro m g1 g2
  have hm:m<xs.length:=by omega
  have:=h2 m hm
  rw[aG g1] at this
  rw[this,List.getElem_reverse]
  by_cases g3:m<k∨xs.length≤m+k
  ·rw[if_pos g3,aG O]
  ·rw[if_neg g3,aG hm];congr 1;omega
theorem MB {q:List Mt} {n:Nat} {j:Int} {out:List Int} {L:List Int} (h:out++upF q n j.toNat=L) (hn:j.toNat<n) (hb:0≤(ix q j.toNat).before):(out++ [(ix q j.toNat).action])++upF q (n- 1) (ix q j.toNat).before.toNat=L:=by
 obtain⟨m,rfl⟩:∃m,n=m+1:=⟨n- 1,O⟩
 rw[upF,if_pos hb] at h
 rw[List.append_assoc];exact h
theorem Jf {q:List Mt} {n:Nat} {j:Int} {out:List Int} {L:List Int} (h:out++upF q n j.toNat=L) (hn:j.toNat<n) (hb:¬0≤(ix q j.toNat).before):out=L:=by
 obtain⟨m,rfl⟩:∃m,n=m+1:=⟨n- 1,O⟩
 rw[upF,if_neg hb,List.append_nil] at h
 exact h
noncomputable def hO (s t:SS):Int:=if cC s=true∧cC t=true then(if s.aC=t.aC then 0 else 10) else 30
theorem Pq {u a:Int} (ha:0≤a):has u a=decide (((u.toNat>>>a.toNat&&&1:Nat):Int)=1):=by unfold has;rw[has_eq]
def lN (x:SA) (a:Int):Int:=if mN x a=true then Ci x a else 0
namespace T
theorem Vy:Ent Tryz.prog 192:=aR kR
theorem Vz:Ent Tryz.prog 193:=aR kR
theorem VA:Ent Tryz.prog 191:=aR kR
theorem VB:Ent Tryz.prog 157:=aR kR
theorem zH:fY Tryz.prog 213 [(0,1),(1,1)] [.int .i64 0,.int .i64 0]:=fG kR kR
theorem wJ:dW Tryz.prog 177 213 2 16 [.int .i64 0,.int .i64 0]:=gP kR kR
theorem EZ:Ent Tryz.prog 97:=aR kR
theorem Fa:Ent Tryz.prog 67:=aR kR
theorem zI:Ent Tryz.prog 68:=aR kR
end T
namespace judg
theorem Pr (l:List Int) (x:Int):
 Fn0 Tryz.prog 193 [ints l,int x] (int (iH (fun y=>decide (x=y)) l)):=by
 refine fnI Tryz.func193 rfl rfl (fun w0 F0=> ?_)
 refine fcC (bL 0 J) (fun hm0=> ?_)
 refine sq (rg (ag (nl (th (sq (sq (rg (mv (lnF J T.aT (mv (nl (th (bk ?_)))))))))))))
 have hI0_0:0≤l.length:=by
  first|omega|simp
 have hI0_1:∀j,j<0→x≠ix l j:=by
  intro j hj;omega
 refine lp (κ:=Nat) (fun p=> [(0,sl 1 nE l),(1,int x),(7,int (l.length:Int)),(8,int (p:Int))]) (fun p=> []) (fun p=>(p≤l.length)∧(∀j,j<p→x≠ix l j)) (fun p=>l.length- p) 0 ⟨hI0_0,hI0_1⟩ ⟨id,id,id,id,tV⟩ trivial ?_
 intro k hG0
 obtain⟨hk0,hI0⟩:(k≤l.length)∧(∀j,j<k→x≠ix l j):=hG0
 refine sq (rg (bi J J aZ (nl (th (sq ?_)))))
 refine cd J (fun hc0=> ?_) (fun hc0=> ?_)
 ·try simp at hc0
  refine sk (th (sq (bk (sq (rg (mv (ag (nl (th (sq (rg (mv (mv (mv (iF J J T.aT O gB (lF J J T.aH (bi J J gF (nl (th ?_)))))))))))))))))))
  refine cd J (fun hc1=> ?_) (fun hc1=> ?_)
  ·try simp at hc1
   refine sq (rg (mv (ag (nl (th (rt (rb (rt_ (rt_ (rb (rt_ ?_)))))))))))
   have hr0:((k:Int):Int)=(iH (fun y=>decide (x=y)) l):=by
    exact(Gd O (decide_eq_true hc1) (fun j hj=>decide_eq_false (hI0 j hj))).symm
   exact rE () [.tmp 4] J [int (k:Int)] ⟨.tmp J,tV⟩ (cA1 (fun x0=>rV [int x0]) hr0) trivial eX
  ·try simp at hc1
   refine sk (eb (th (rg (bi J J (aM i6) (mv (nl ?_))))))
   have hN0:(k+1)≤l.length:=by
    first|omega|simp_all
   have hN1:∀j,j<(k+1)→x≠ix l j:=by
    intro j hj
    by_cases e:j=k
    ·subst e;exact hc1
    ·exact hI0 j O
   exact ln (k+1) ⟨hN0,hN1⟩ dO ⟨id,id,id,id,tV⟩ trivial
 ·try simp at hc0
  refine ex (xt_ (xt_ (xb (th (sq (rg (ag (nl (th (rt ?_))))))))))
  have hr0:((-1):Int)=(iH (fun y=>decide (x=y)) l):=by
   exact(Gc (fun j hj=>decide_eq_false (hI0 j O))).symm
  exact rE () [.tmp 4] J [int (-1)] ⟨.tmp J,tV⟩ (cA1 (fun x0=>rV [int x0]) hr0) trivial eX
theorem Ij (l:List Int) (x:Int):
 Fn0 Tryz.prog 158 [ints l,int x] (bl (decide (x∈l))):=by
 refine fnI Tryz.func158 rfl rfl (fun w0 F0=> ?_)
 refine fcC (bL 0 J) (fun hm0=> ?_)
 refine sq (rg (ag (nl (th (sq (rg (mv (mv (bI (φs:= [sl 1 nE l,int x]) (φ:=int (iH (fun y=>decide (x=y)) l)) ⟨J,J,tV⟩ (judg.Pr _ _) T.Vz (bi J J jG (ag (nl (th (rt ?_))))))))))))))
 have hr0:(decide (0≤(iH (fun y=>decide (x=y)) l)))=(decide (x∈l)):=by
  rw[Dk,Bool.eq_iff_iff,List.any_eq_true];simp
 exact rE () [.tmp 4] J [bl (decide (0≤(iH (fun y=>decide (x=y)) l)))] ⟨.tmp J,tV⟩ (cA1 (fun x0=>rV [bl x0]) hr0) trivial eX
theorem Ck (v:Value) (xs:List Int) (hl:xs.length≤1000000000):
 AL.Fn Tryz.prog 148 [osl 5 v] [(5,own v 3 1 nE xs)] (ι:=Unit) (fun _ _=>tup []) (fun _=> [(5,own v 3 1 nE xs.reverse)]):=by
 refine fnI Tryz.func148 rfl rfl (fun w0 F0=> ?_)
 refine sq (rg (mv (lnO J J T.aT (bi J J (mI i6) (ag (ag (nl (th (bk ?_)))))))))
 have hI0_0:((xs.length:Int)- 1)=(xs.length:Int)- 1- (0:Int)∧wI xs xs 0:=by
  exact⟨O,rfl,fun m hm=>by rw[if_neg O]⟩
 refine lp (κ:=Nat × Int × (List Int)) (fun p=> [(0,osl 5 v),(2,int (p.1:Int)),(3,int p.2.1)]) (fun p=> [(5,own v 3 1 nE p.2.2)]) (fun p=>p.2.1=(xs.length:Int)- 1- (p.1:Int)∧wI xs p.2.2 p.1) (fun p=>xs.length- p.1) ⟨0,(xs.length:Int)- 1,xs⟩ hI0_0 ⟨id,id,id,tV⟩ ⟨rI,tV⟩ ?_
 intro⟨k,j,ys⟩ hG0
 obtain⟨hj,hR⟩:j=(xs.length:Int)- 1- (k:Int)∧wI xs ys k:=hG0
 show Ct _ _ _ _ [(0,osl 5 v),(2,int (k:Int)),(3,int j)] [(5,own v 3 1 nE ys)] _
 refine sq (sq (rg (mv (mv (bi J J aZ (nl (th ?_)))))))
 refine cd J (fun hc0=> ?_) (fun hc0=> ?_)
 ·try simp at hc0
  have hyl:=hR.1
  refine sk (th (sq (bk ?_)))
  refine drH (nh:=16) [0,0,0,0,0,0,48,112,0,0,768,1792,4083,8179,16383,32767] [(none,[]),(none,[]),(none,[]),(none,[]),(none,[]),(none,[]),(none,[5]),(none,[5]),(none,[]),(none,[]),(none,[5]),(none,[5]),(none,[5]),(some 5,[5]),(none,[5]),(some 5,[5])] T.mixed kR kR ?_
  refine stv (d:=14) (fun β0=>osl 5 v) [] J bH (fun β0 _ _ _ _ gq gh kq=>mv' (gq.1.trans J) kq) ?_
  refine stv (d:=15) (fun β0=>int (k:Int)) [] J bH (fun β0 _ _ _ _ gq gh kq=>mv' (gq.1.trans J) kq) ?_
  refine stv (d:=16) (fun β0=>osl 5 v) [] J bH (fun β0 _ _ _ _ gq gh kq=>mv' (gq.1.trans J) kq) ?_
  refine stv (d:=17) (fun β0=>int j) [] J bH (fun β0 _ _ _ _ gq gh kq=>mv' (gq.1.trans J) kq) ?_
  refine stv (d:=18) (fun β0=>osl 5 v) [] J bH (fun β0 _ _ _ _ gq gh kq=>mv' (gq.1.trans J) kq) ?_
  refine stv (d:=19) (fun β0=>int j) [] J bH (fun β0 _ _ _ _ gq gh kq=>mv' (gq.1.trans J) kq) ?_
  refine stv (d:=20) (fun β0=>dL 5 v 1 j.toNat 0) [5] J bH (fun β0 _ _ _ _ gq gh kq=>iO (gq.1.trans J) (gh.1.trans J) (gq.2.1.trans J) T.aT O O kq) ?_
  refine stv (d:=21) (fun β0=>int (ix ys j.toNat)) [5] J bH (fun β0 _ _ _ _ gq gh kq=>lO (gq.1.trans J) (gh.1.trans J) (gI O O) J T.aH kq) ?_
  refine stv (d:=22) (fun β0=>osl 5 v) [] J bH (fun β0 _ _ _ _ gq gh kq=>mv' (gq.1.trans J) kq) ?_
  refine stv (d:=23) (fun β0=>int (k:Int)) [] J bH (fun β0 _ _ _ _ gq gh kq=>mv' (gq.1.trans J) kq) ?_
  refine stv (d:=24) (fun β0=>dL 5 v 1 k 0) [5] J bH (fun β0 _ _ _ _ gq gh kq=>iO (gq.1.trans J) (gh.1.trans J) (gq.2.1.trans J) T.aT O O kq) ?_
  refine stv (d:=25) (fun β0=>int (ix ys k)) [5] J bH (fun β0 _ _ _ _ gq gh kq=>lO (gq.1.trans J) (gh.1.trans J) (gN O) J T.aH kq) ?_
  refine stv (d:=26) (fun β0=>dL 5 v 1 k 0) [5] J bH (fun β0 _ _ _ _ gq gh kq=>iO (gq.1.trans J) (gh.1.trans J) (gq.2.1.trans J) T.aT O O kq) ?_
  refine stw 5 (fun β0=>own v 3 1 nE (ys.set k (ix ys j.toNat))) [5] J bH (fun β0 _ _ _ _ gq gh kq=>sO (φ:=int (ix ys j.toNat)) (gq.1.trans J) (gh.1.trans J) (gq.2.1.trans J) T.aH (by first|exact gN O|exact gI O (by simp;omega)) J (y':=(ix ys j.toNat)) J kq) ?_
  refine stv (d:=27) (fun β0=>dL 5 v 1 j.toNat 0) [5] J bH (fun β0 _ _ _ _ gq gh kq=>iO (gq.1.trans J) (gh.1.trans J) (gq.2.1.trans J) T.aT O (by simp;omega) kq) ?_
  refine stw 5 (fun β0=>own v 3 1 nE ((ys.set k (ix ys j.toNat)).set j.toNat (ix ys k))) [5] J bH (fun β0 _ _ _ _ gq gh kq=>sO (φ:=int (ix ys k)) (gq.1.trans J) (gh.1.trans J) (gq.2.1.trans J) T.aH (by first|exact gN O|exact gI O (by simp;omega)) J (y':=(ix ys k)) J kq) ?_
  refine pnH fun β0=>(nl (eb (th (rg (mv (bi J J (aM i6) (mv (bi J J (mI i6) (ag (ag (nl ?_)))))))))))
  have hN0:(j- 1)=(xs.length:Int)- 1- ((k+1):Int)∧wI xs ((ys.set k (ix ys j.toNat)).set j.toNat (ix ys k)) (k+1):=by
   exact⟨O,Po hR hj hc0⟩
  exact ln (⟨k+1,j- 1,(ys.set k (ix ys j.toNat)).set j.toNat (ix ys k)⟩:Nat × Int × (List Int)) hN0 dO ⟨id,id,id,tV⟩ ⟨rI,tV⟩
 ·try simp at hc0
  refine ex (xt_ (xt_ (xb ?_)))
  obtain rfl:ys=xs.reverse:=Pp hR hj O
  exact rE () [] J [] trivial J ⟨rI,tV⟩ eX
theorem Ps (u a:Int) (hu:0≤u∧u<256) (ha:0≤a∧a<64):
 Fn0 Tryz.prog 192 [int u,fp [int a]] (bl (has u a)):=by
 refine fnI Tryz.func192 rfl rfl (fun w0 F0=> ?_)
 refine sq (rg (ag (nl (th (sq (rg (mv (lF J J T.aH (bi J J (Bt O O O) (bi J J (FB (m:=(u.toNat>>>a.toNat)) (Nat.lt_of_le_of_lt (Nat.shiftRight_le _ _) O)) (bi J J gF (ag (nl (th (rt ?_)))))))))))))))
 have hr0:(decide ((((u.toNat>>>a.toNat)&&&1:Nat):Int)=1))=(has u a):=by
  rw[Pq ha.1]
 exact rE () [.tmp 3] J [bl (decide ((((u.toNat>>>a.toNat)&&&1:Nat):Int)=1))] ⟨.tmp J,tV⟩ (cA1 (fun x0=>rV [bl x0]) hr0) trivial eX
theorem EQ (l:List Int) (dom:Int→Prop) (pq:Int→Bool) (hd:∀k,k<l.length→dom (ix l k)):
 Fn0 Tryz.prog 191 [ints l,pf Tryz.prog dom nE (fun x=>bl (pq x))] (int (iH pq l)):=by
 refine fnI Tryz.func191 rfl rfl (fun w0 F0=> ?_)
 refine fcC (bL 0 J) (fun hm0=> ?_)
 refine sq (rg (ag (nl (th (sq (sq (rg (mv (lnF J T.aT (mv (nl (th (bk ?_)))))))))))))
 have hI0_0:0≤l.length:=by
  first|omega|simp
 have hI0_1:∀j,j<0→pq (ix l j)=false:=by
  intro j hj;omega
 refine lp (κ:=Nat) (fun p=> [(0,sl 1 nE l),(1,pf Tryz.prog dom nE (fun x=>bl (pq x))),(7,int (l.length:Int)),(8,int (p:Int))]) (fun p=> []) (fun p=>(p≤l.length)∧(∀j,j<p→pq (ix l j)=false)) (fun p=>l.length- p) 0 ⟨hI0_0,hI0_1⟩ ⟨id,id,id,id,tV⟩ trivial ?_
 intro k hG0
 obtain⟨hk0,hI0⟩:(k≤l.length)∧(∀j,j<k→pq (ix l j)=false):=hG0
 refine sq (rg (bi J J aZ (nl (th (sq ?_)))))
 refine cd J (fun hc0=> ?_) (fun hc0=> ?_)
 ·try simp at hc0
  refine sk (th (sq (bk (sq (rg (mv (ag (nl (th (sq (rg (mv (mv (mv (iF J J T.aT O gB (lF J J T.aH (Rq J (ix l k) (hd k O) J (nl (th ?_)))))))))))))))))))
  refine cd J (fun hc1=> ?_) (fun hc1=> ?_)
  ·try simp at hc1
   refine sq (rg (mv (ag (nl (th (rt (rb (rt_ (rt_ (rb (rt_ ?_)))))))))))
   have hr0:((k:Int):Int)=(iH pq l):=by
    exact(Gd O hc1 hI0).symm
   exact rE () [.tmp 4] J [int (k:Int)] ⟨.tmp J,tV⟩ (cA1 (fun x0=>rV [int x0]) hr0) trivial eX
  ·try simp at hc1
   refine sk (eb (th (rg (bi J J (aM i6) (mv (nl ?_))))))
   have hN0:(k+1)≤l.length:=by
    first|omega|simp_all
   have hN1:∀j,j<(k+1)→pq (ix l j)=false:=by
    intro j hj
    by_cases e:j=k
    ·subst e;simpa using hc1
    ·exact hI0 j O
   exact ln (k+1) ⟨hN0,hN1⟩ dO ⟨id,id,id,id,tV⟩ trivial
 ·try simp at hc0
  refine ex (xt_ (xt_ (xb (th (sq (rg (ag (nl (th (rt ?_))))))))))
  have hr0:((-1):Int)=(iH pq l):=by
   exact(Gc (fun j hj=>hI0 j O)).symm
  exact rE () [.tmp 4] J [int (-1)] ⟨.tmp J,tV⟩ (cA1 (fun x0=>rV [int x0]) hr0) trivial eX
theorem Pt (l:List Int) (hl:∀k,k<l.length→0≤ix l k∧ix l k<256) (a:Int) (ha:0≤a∧a<64):Fn0 Tryz.prog 191 [ints l,clo 192 [fp [int a]]] (int (iH (fun u=>has u a) l)):=by
 refine IR (fun {w F vs} h=> ?_) (EQ l (fun u=>0≤u∧u<256) (fun u=>has u a) hl)
 match vs,h with
 | [_,_],⟨h1,h2,_⟩=>exact⟨h1,Lz T.Vy (fun u hu=>Ps u a hu ha) h2,tV⟩
theorem SJ (x:SA) (hx:∀i,i<x.aP.length→0≤ix x.aP i∧ix x.aP i<256) (a:Int) (h0:0≤a) (ha:a<64):
 Fn0 Tryz.prog 157 [state x,int a] (tup [int (lN x a),bl (mN x a)]):=by
 refine fnI Tryz.func157 rfl rfl (fun w0 F0=> ?_)
 refine fcC (bW 0 J) (fun hS0=> ?_)
 obtain⟨hxa0,hxn0⟩:=BL hS0
 refine sq (rg (bx (key:=2) (cs:= [sl 1 nE x.aP,sl 1 nE x.next]) J fun b2=>(bx1 (key:=3) (φ:=int a) J fun b3=>(ag (ag (nl (th (sq (rg (fP J T.cY (lP J J J T.bF (fzv 3 3 J J (mkf (bI (φs:= [sl 1 nE x.aP,clo 192 [fp [int a]]]) (φ:=int (iH (fun u=>has u a) x.aP)) ⟨J,J,tV⟩ (Pt x.aP hx a ⟨h0,ha⟩) T.VA (ag (nl (th (sq (sq (rg (mv (bi J J aZ (nl (th ?_))))))))))))))))))))))))
 refine cd J (fun hc0=> ?_) (fun hc0=> ?_)
 ·try simp at hc0
  have hlb:mN x a=false:=by
   have:=Dk (p:=(fun u=>has u a)) (l:=x.aP)
   rw[decide_eq_false O] at this
   exact this.symm
  refine sq (rg (ag (ag (nl (th (rt (rt_ ?_)))))))
  have hr0:(0:Int)=(lN x a):=by
   unfold lN;rw[if_neg (by simp[hlb])]
  have hr1:false=(mN x a):=by
   exact hlb.symm
  exact rE () [.tmp 4,.tmp 5] J [int 0,bl false] ⟨.tmp J,.tmp J,tV⟩ (cA2 (fun x0 x1=>rV [int x0,bl x1]) hr0 hr1) trivial eX
 ·try simp at hc0
  have hlb:mN x a=true:=by
   have:=Dk (p:=(fun u=>has u a)) (l:=x.aP)
   rw[decide_eq_true O] at this
   exact this.symm
  obtain⟨hi0,hi1,_⟩:=Jd hlb
  refine sk (th (sq (rg (fP J T.cY (lP J J J T.bF (mv (iF J J T.aT O gB (lF J J T.aH (ag (ag (nl (th (rt ?_)))))))))))))
  have hr0:((ix x.aP (iH (fun u=>has u a) x.aP).toNat):Int)=(lN x a):=by
   unfold lN;rw[if_pos hlb];rfl
  have hr1:true=(mN x a):=by
   exact hlb.symm
  exact rE () [.tmp 4,.tmp 5] J [int (ix x.aP (iH (fun u=>has u a) x.aP).toNat),bl true] ⟨.tmp J,.tmp J,tV⟩ (cA2 (fun x0 x1=>rV [int x0,bl x1]) hr0 hr1) trivial eX
theorem SK (s:SS) (hT:oK s) (w:List Int) (hw:zG s w) (u:Int) (hlw:w.length≤1000000000):
 Fn0 Tryz.prog 131 [spec s,ints w,int u] (tup [sl 2 pE (kM s w u),bl (decide (u∈acc s (goS s w).toNat))]):=by
 refine fnI Tryz.func131 rfl rfl (fun w0 F0=> ?_)
 have hf1:=hT.few1;have hn8:=hT.n8
 refine fcC (bW 0 J) (fun hS0=> ?_)
 obtain⟨hsa0,hss0,hse0⟩:=sLn hS0
 refine fcC (bL 1 J) (fun hm1=> ?_)
 refine sq (rg (bx (key:=3) (cs:= [sl 1 rE_ s.aC,sl 2 sE s.sT]) J fun b3=>(ag (ag (nl (th (sq (rg (nw 8 213 2 pE (ag (rtg (key:=8) 8 J (nl (th (sq (rg (ag (nl (th (sq (sq (rg (mv (lnF J T.aT (mv (nl (th (bk ?_)))))))))))))))))))))))))))
 have hI0_0:0≤w.length:=by
  first|omega|simp
 have hI0_1:(0:Int)=xAt s w 0∧([]:List (Int × Int))=(List.range 0).map (jR s w):=by
  exact⟨(Ge s w).symm,rfl⟩
 refine lp (κ:=Nat × Int × Value × (List (Int × Int))) (fun p=> [(2,int u),(3,ptr 3 b3 0),(8,osl 8 p.2.2.1),(9,int p.2.1),(14,sl 1 nE w),(15,int (w.length:Int)),(16,int (p.1:Int))]) (fun p=> [(3,cell b3 [sl 1 rE_ s.aC,sl 2 sE s.sT]),(8,own p.2.2.1 213 2 pE p.2.2.2)]) (fun p=>(p.1≤w.length)∧(p.2.1=xAt s w p.1∧p.2.2.2=(List.range p.1).map (jR s w))) (fun p=>w.length- p.1) ⟨0,(0:Int),(.slice none 0 0),([]:List (Int × Int))⟩ ⟨hI0_0,hI0_1⟩ ⟨id,id,id,id,id,id,id,tV⟩ ⟨rI,rI,tV⟩ ?_
 intro⟨k,x,v8,out⟩ hG0
 obtain⟨hk0,⟨hx,hou⟩⟩:(k≤w.length)∧(x=xAt s w k∧out=(List.range k).map (jR s w)):=hG0
 show Ct _ _ _ _ [(2,int u),(3,ptr 3 b3 0),(8,osl 8 v8),(9,int x),(14,sl 1 nE w),(15,int (w.length:Int)),(16,int (k:Int))] [(3,cell b3 [sl 1 rE_ s.aC,sl 2 sE s.sT]),(8,own v8 213 2 pE out)] _
 have hol:out.length=k:=by rw[hou];simp
 refine sq (rg (bi J J aZ (nl (th (sq ?_)))))
 refine cd J (fun hc0=> ?_) (fun hc0=> ?_)
 ·try simp at hc0
  have hxb:=wH hT hw k O
  have hab:=My hT hw hc0
  obtain⟨_,_,na,hna,hha⟩:=hw k hc0
  rw[←hx] at hxb hha
  have hxo:=hT.st x.toNat O
  have hxl:=hxo.len
  have hxac:=hxo.ac
  have hlb:mN (ix s.sT x.toNat) (ix w k)=true:=by rw[hna];exact Gi hha
  refine sk (th (sq (bk (sq (rg (iF J J T.aT O gB (lF J J T.aH (ag (nl (th (sq (rg (fP J T.bO (lP J J J T.cM (mv (iF J J T.dB O gB (lFA J T.eO (Nat.le_of_ble_eq_true J) (mv (bI (φs:= [agg [sl 1 nE (ix s.sT x.toNat).aP,sl 1 nE (ix s.sT x.toNat).next],int (ix w k)]) (φ:=tup [int (lN (ix s.sT x.toNat) (ix w k)),bl (mN (ix s.sT x.toNat) (ix w k))]) ⟨J,J,tV⟩ (judg.SJ (ix s.sT x.toNat) aS (ix w k) O O) T.VB (mv (xt J J (xt J J (ag (ag (nl (th (sq (sq (rg (mv (no J (nl (th ?_)))))))))))))))))))))))))))))))))
  refine cd J (fun hc1=> ?_) (fun hc1=> ?_)
  ·try simp at hc1
   exact absurd hlb (by simp[hc1])
  ·try simp at hc1
   refine sk (th (sq (rg (mv (mv (mv (bd (css:= [(0,_),(1,_)]) T.zH (eC (eC eZ)) ⟨J,J,p1 (φ:=int x) J,⟨J,J,p1 (φ:=int (lN (ix s.sT x.toNat) (ix w k))) J,tV⟩⟩ (bs (css:= [[int x,int (lN (ix s.sT x.toNat) (ix w k))]]) T.wJ ⟨J,J,pA (cs:= [int x,int (lN (ix s.sT x.toNat) (ix w k))]) J,tV⟩ J J J (ap (key:=8) (zs:= [(x,lN (ix s.sT x.toNat) (ix w k))]) cB J J J T.wJ (by unfold aN at*;simp;omega) (by unfold aN at*;simp;omega) fun v37=>(ag (nl (th (rg (fP J T.bO (lP J J J T.cM (mv (iF J J T.dB O gB (fF J T.eM (lF J J T.bF (mv (iF J J T.aT O gB (lF J J T.aH (ag (nl (eb (th (rg (bi J J (aM i6) (mv (nl ?_))))))))))))))))))))))))))))))
   have hN0:(k+1)≤w.length:=by
    first|omega|simp_all
   have hN1:(ix (ix s.sT x.toNat).next (ix w k).toNat)=xAt s w (k+1)∧(out++ [(x,lN (ix s.sT x.toNat) (ix w k))])=(List.range (k+1)).map (jR s w):=by
    refine⟨?_,?_⟩
    ·rw[Gf hc0,←hx]
     unfold pU;rw[if_neg O]
    ·rw[List.range_succ,List.map_append,←hou]
     congr 1
     show [_]= [jR s w k]
     unfold jR lN
     rw[←hx,if_pos hlb]
   exact ln (⟨k+1,ix (ix s.sT x.toNat).next (ix w k).toNat,v37,out++ [(x,lN (ix s.sT x.toNat) (ix w k))]⟩:Nat × Int × Value × (List (Int × Int))) ⟨hN0,hN1⟩ dO ⟨id,id,id,id,id,id,id,tV⟩ ⟨rI,rI,tV⟩
 ·try simp at hc0
  have hkl:k=w.length:=by omega
  have hxb:=wH hT hw k O
  rw[←hx] at hxb
  have hxe:=hT.st x.toNat O
  refine ex (xt_ (xt_ (xb (th (sq ?_)))))
  refine drH (nh:=15) [0,0,0,6,14,31,0,64,0,448,960,0,4095,8191,16383] [(none,[]),(none,[]),(none,[]),(none,[]),(none,[]),(some 8,[8]),(none,[]),(none,[3]),(none,[]),(none,[]),(none,[]),(none,[]),(none,[]),(none,[]),(none,[])] T.mixed kR kR ?_
  refine stv (d:=48) (fun β0=>osl 8 v8) [] J bH (fun β0 _ _ _ _ gq gh kq=>mv' (gq.1.trans J) kq) ?_
  refine stv (d:=49) (fun β0=>int x) [] J bH (fun β0 _ _ _ _ gq gh kq=>mv' (gq.1.trans J) kq) ?_
  refine stv (d:=50) (fun β0=>int u) [] J bH (fun β0 _ _ _ _ gq gh kq=>mv' (gq.1.trans J) kq) ?_
  refine stv (d:=51) (fun β0=>agg [int x,int u]) [] J bH (fun β0 _ _ _ _ gq gh kq=>bd (css:= [(0,_),(1,_)]) T.zH (eC (eC eZ)) ⟨J,J,p1 (φ:=int x) (by exact(gq.1.trans J)),⟨J,J,p1 (φ:=int u) (by exact(gq.2.1.trans J)),tV⟩⟩ kq) ?_
  refine stv (d:=52) (fun β0=>sl 2 id [[int x,int u]]) [] J bH (fun β0 _ _ _ _ gq gh kq=>bs (css:= [[int x,int u]]) T.wJ ⟨J,J,pA (cs:= [int x,int u]) (by exact(gq.1.trans J)),tV⟩ J J J kq) ?_
  refine stc (d:=53) (e:=213) (n:=2) (enc:=pE) (xs:=out++ [(x,u)]) 8 [8] rfl (fun β0 _ _ _ _ gq gh kq=>ap (key:=8) (zs:= [(x,u)]) (fun h=>Vx (gq.1.trans rfl) h) (gh.1.trans rfl) (gq.2.1.trans rfl) rfl T.wJ (by unfold aN at*;simp;omega) (by unfold aN at*;simp;omega) fun v=>kq v) ?_
  refine stv (d:=54) (fun β0=>ptr 3 b3 1) [] J bH (fun β0 _ _ _ _ gq gh kq=>fP (gq.1.trans J) T.bO kq) ?_
  refine stv (d:=55) (fun β0=>sl 2 sE s.sT) [3] J bH (fun β0 _ _ _ _ gq gh kq=>lP (gq.1.trans J) (gh.1.trans J) J T.cM kq) ?_
  refine stv (d:=56) (fun β0=>int x) [] J bH (fun β0 _ _ _ _ gq gh kq=>mv' (gq.1.trans J) kq) ?_
  refine stv (d:=57) (fun β0=>fp [sl 1 nE (ix s.sT x.toNat).aP,sl 1 nE (ix s.sT x.toNat).next]) [] J bH (fun β0 _ _ _ _ gq gh kq=>iF (gq.1.trans J) (gq.2.1.trans J) T.dB O gB kq) ?_
  refine stv (d:=58) (fun β0=>agg [sl 1 nE (ix s.sT x.toNat).aP,sl 1 nE (ix s.sT x.toNat).next]) [] J bH (fun β0 _ _ _ _ gq gh kq=>lFA (gq.1.trans J) T.eO (Nat.le_of_ble_eq_true J) kq) ?_
  refine stv (d:=59) (fun β0=>int u) [] J bH (fun β0 _ _ _ _ gq gh kq=>mv' (gq.1.trans J) kq) ?_
  refine stv (d:=60) (fun β0=>bl (decide (u∈(ix s.sT x.toNat).aP))) [] J bH (fun β0 _ _ _ _ gq gh kq=>bI (φs:= [agg [sl 1 nE (ix s.sT x.toNat).aP,sl 1 nE (ix s.sT x.toNat).next],int u]) (φ:=bl (decide (u∈(ix s.sT x.toNat).aP))) ⟨(gq.1.trans J),(gq.2.1.trans J),tV⟩ (search.rC (ix s.sT x.toNat) hxe.rise u) T.EZ kq) ?_
  refine stv (d:=6) (fun β0=>osl 8 (sv (β0 5))) [] J (fun β β' hb=>by first|rw[hb 5 J]|(dsimp only;rw[hb 5 J])) (fun β0 _ _ _ _ gq gh kq=>ag' (gq.1.trans J) kq) ?_
  refine stv (d:=7) (fun β0=>bl (decide (u∈(ix s.sT x.toNat).aP))) [] J bH (fun β0 _ _ _ _ gq gh kq=>ag' (gq.1.trans J) kq) ?_
  refine pnH fun β0=>(nl (th (rt ?_)))
  refine fzA 8 6 rfl rfl ?_
  have hr0:(out++ [(x,u)])=(kM s w u):=by
   unfold kM;rw[hou,hx,hkl]
  have hr1:(decide (u∈(ix s.sT x.toNat).aP))=(decide (u∈acc s (goS s w).toNat)):=by
   rw[hx,hkl,Dl]
  exact rE () [.tmp 6,.tmp 7] J [sl 2 pE (out++ [(x,u)]),bl (decide (u∈(ix s.sT x.toNat).aP))] ⟨.tmp J,.tmp J,tV⟩ (cA2 (fun x0 x1=>rV [sl 2 pE x0,bl x1]) hr0 hr1) trivial eX
theorem vA (s t:SS) (hs:dH s) (ht:dH t):
 Fn0 Tryz.prog 83 [spec s,spec t] (int (hO s t)):=by
 refine fnI Tryz.func83 rfl rfl (fun w0 F0=> ?_)
 refine fcC (bW 0 J) (fun hS0=> ?_)
 obtain⟨hsa0,hss0,hse0⟩:=sLn hS0
 refine fcC (bW 1 J) (fun hS1=> ?_)
 obtain⟨hsa1,hss1,hse1⟩:=sLn hS1
 refine sq (rg (bx (key:=2) (cs:= [sl 1 rE_ s.aC,sl 2 sE s.sT]) J fun b2=>(bx (key:=3) (cs:= [sl 1 rE_ t.aC,sl 2 sE t.sT]) J fun b3=>(ag (nl (th (sq (bk (sq (rg (lPA J J T.bA J (bI (φs:= [agg [sl 1 rE_ s.aC,sl 2 sE s.sT]]) (φ:=bl (cC s)) ⟨J,tV⟩ (prog2.iB s aS) T.Fa (no J (mv ?_))))))))))))))
 apply gOr (t:=9) (pd:=13) rfl
 rotate_left
 ·intro hg0 fin
  have hg0':=hg0
  try simp at hg0'
  exact gy J J J hg0 (lPA J J T.bA J (gy J J J hg0 (bI (φs:= [agg [sl 1 rE_ t.aC,sl 2 sE t.sT]]) (φ:=bl (cC t)) ⟨J,tV⟩ (prog2.iB t aS) T.Fa (gy J J J hg0 (no J (pkF J hg0 J (drp (X:= [(12,_),(11,_),(10,_)]) ⟨J,J,J,tV⟩ fin)))))))
 ·intro hg0 fin
  exact gn J J J hg0 J J (gn J J J hg0 J J (gn J J J hg0 J J (pkT J hg0 J (drp (X:= [(12,_),(11,_),(10,_)]) ⟨J,J,J,tV⟩ fin))))
 refine ag (nl (th ?_))
 refine cd J (fun hc0=> ?_) (fun hc0=> ?_)
 ·try simp at hc0
  refine sq (rg (ag (nl (th (rt (rb (rt_ ?_)))))))
  have hr0:(30:Int)=(hO s t):=by
   unfold hO;rw[if_neg (by rintro⟨a,b⟩;simp[a,b] at hc0)]
  exact rE () [.tmp 4] J [int 30] ⟨.tmp J,tV⟩ (cA1 (fun x0=>rV [int x0]) hr0) trivial eX
 ·try simp at hc0
  refine sq (rg (fP J T.eD (lP J J J T.dE (fP J T.eD (lP J J J T.dE (bI (φs:= [sl 1 rE_ s.aC,sl 1 rE_ t.aC]) (φ:=bl (decide (s.aC=t.aC))) ⟨J,J,tV⟩ (prog.iY _ _) T.zI (no J (ag (nl (th ?_))))))))))
  refine cd J (fun hc1=> ?_) (fun hc1=> ?_)
  ·try simp at hc1
   refine sq (rg (ag (nl (th (rt (rb (rt_ ?_)))))))
   have hr0:(10:Int)=(hO s t):=by
    unfold hO;rw[if_pos (by simpa using hc0),if_neg hc1]
   exact rE () [.tmp 4] J [int 10] ⟨.tmp J,tV⟩ (cA1 (fun x0=>rV [int x0]) hr0) trivial eX
  ·try simp at hc1
   refine sk (eb (th (sq (rg (ag (nl (th (rt ?_))))))))
   have hr0:(0:Int)=(hO s t):=by
    unfold hO;rw[if_pos (by simpa using hc0),if_pos hc1]
   exact rE () [.tmp 4] J [int 0] ⟨.tmp J,tV⟩ (cA1 (fun x0=>rV [int x0]) hr0) trivial eX
end judg
end
section
open ref01 ref03 ref04 ref06 Part Rungs LeftM TrimM Itoa Keys RoundM MergeM BisM BisM2 BisM3 BisM4 BisM5 TurnM
namespace BisM6
structure KD (off:Nat→Int) (ed:Nat→List (Nat × Nat)) (t:SS) (R:Nat→Nat→Prop):Prop where
 bd:∀{x y},R x y→y<t.sT.length
 acc:∀{x y},R x y→off x∈BisM.acc t y
 len:∀{x y},R x y→∀e∈ed x,e.1<(nxt t y).length
 nxt:∀{x y},R x y→∀e∈ed x,0≤ix (nxt t y) e.1∧R e.2 (ix (nxt t y) e.1).toNat
def Sat (off:Nat→Int) (ed:Nat→List (Nat × Nat)) (t:SS) (x y:Nat):Prop:=∃R,KD off ed t R∧R x y
def Fc (off:Nat→Int) (ed:Nat→List (Nat × Nat)):Prop:=∀x (a:Nat),has (off x) (a:Int)=true↔∃e∈ed x,e.1=a
variable {off:Nat→Int} {ed:Nat→List (Nat × Nat)}
theorem zJ {s:SS} (hs:oK s) (ho:Fc off ed) {R:Nat→Nat→Prop} (hR:KD off ed s R) {x y:Nat} (h:R x y):ix (hOl s) y=false:=by
 have hy:=hR.bd h
 cases hv:ix (hOl s) y with
 |false=>rfl
 |true=>
  exfalso
  refine(kU hy).1 hv (fun y=> ∀x,¬R x y) (fun y hy hc x hxy=> ?_) x h
  obtain⟨i,hi,e⟩:=mD (hR.acc hxy)
  obtain⟨a,ha,_,hh,hH⟩:=hc i hi
  have e':ix (ix s.sT y).aP i=off x:=e
  rw[e'] at hh
  obtain⟨e,he,rfl⟩:=(ho x a).1 hh
  exact hH _ (hR.nxt hxy e he).2
theorem Gk {s:SS} (hs:oK s) (ho:Fc off ed) {R:Nat→Nat→Prop} (hR:KD off ed s R) {x y:Nat} (h:R x y):off x∈keep s y:=by
 rw[kC (zJ hs ho hR h),List.mem_filter]
 refine⟨hR.acc h,?_⟩
 rw[Bool.not_eq_true']
 cases hf:iP (ix s.sT y) (off x) (hOl s) with
 |false=>rfl
 |true=>
  obtain⟨a,_,_,hh,hv⟩:=kQ.1 hf
  obtain⟨e,he,rfl⟩:=(ho x a).1 hh
  have:=zJ hs ho hR (hR.nxt h e he).2
  have hv':ix (hOl s) (ix (nxt s y) e.1).toNat=true:=hv
  rw[this] at hv';cases hv'
theorem nK {s:SS} (hs:oK s) (ho:Fc off ed) {x y:Nat}:Sat off ed s x y↔Sat off ed (aQ s) x y:=by
 constructor
 ·rintro⟨R,hR,h⟩
  refine⟨R,⟨fun h=>by rw[gC];exact hR.bd h,fun h=> ?_,fun {a b} h e he=> ?_,fun {a b} h e he=> ?_⟩,h⟩
  ·rw[jL (hR.bd h)];exact Gk hs ho hR h
  ·have hb:=hR.bd h
   rw[jQ hs hb]
   have:=hR.len h e he
   have hl:(nxt s b).length=s.aC.length:=(hs.st b hb).len
   omega
  ·have hb:=hR.bd h
   have hl:(nxt s b).length=s.aC.length:=(hs.st b hb).len
   have he1:=hR.len h e he
   have hh:has (aV (keep s b)) (e.1:Int)=true:=(cO _ _).2 ⟨off a,Gk hs ho hR h,(ho a e.1).2 ⟨e,he,rfl⟩⟩
   rw[oX hs hb O,if_pos hh]
   exact hR.nxt h e he
 ·rintro⟨R,hR,h⟩
  have hk:∀{a b},R a b→b<s.sT.length∧off a∈keep s b:=fun {a b} h=>by
   have hb:=hR.bd h
   rw[gC] at hb
   have:=hR.acc h
   rw[jL hb] at this
   exact⟨hb,this⟩
  refine⟨R,⟨fun h=>(hk h).1,fun h=>(List.mem_filter.1 (hk h).2).1,fun {a b} h e he=> ?_,fun {a b} h e he=> ?_⟩,h⟩
  ·obtain⟨hb,_⟩:=hk h
   have:=hR.len h e he
   rw[jQ hs hb] at this
   show e.1<(ix s.sT b).next.length
   rw[(hs.st b hb).len];exact this
  ·obtain⟨hb,hm⟩:=hk h
   have hl:=hR.len h e he
   rw[jQ hs hb] at hl
   have hh:has (aV (keep s b)) (e.1:Int)=true:=(cO _ _).2 ⟨off a,hm,(ho a e.1).2 ⟨e,he,rfl⟩⟩
   have:=hR.nxt h e he
   rw[oX hs hb hl,if_pos hh] at this
   exact this
theorem VC {T:SS} {x:Nat} {u:Int} (h:u∈acc T x):x<T.sT.length:=by
 rcases Nat.lt_or_ge x T.sT.length with h1|h1
 ·exact h1
 ·exfalso
  have e:ix T.sT x=default:=by unfold ix;rw[List.getD_eq_getElem?_getD,List.getElem?_eq_none h1];rfl
  have h2:u∈(ix T.sT x).aP:=h
  rw[e] at h2
  cases h2
theorem vB {T U:SS} {x y z:Nat} (h:Sat off ed T x y) (hs:Sim2 T U y z):Sat off ed U x z:=by
 obtain⟨R,hR,hxy⟩:=h
 have hbis:=Di T U
 have hm:∀{a b c},R a b→Sim2 T U b c→off a∈acc U c:=fun h hS=>by rw[←hbis.acc hS];exact hR.acc h
 refine⟨fun a c=> ∃b,R a b∧Sim2 T U b c,⟨fun⟨b,h,hS⟩=>VC (hm h hS),fun⟨b,h,hS⟩=>hm h hS,fun⟨b,h,hS⟩ e he=> ?_,fun {a c} ⟨b,h,hS⟩ e he=> ?_⟩,y,hxy,hs⟩
 ·rw[←hbis.len hS];exact hR.len h e he
 ·obtain⟨n0,n1⟩:=hR.nxt h e he
  obtain⟨g1,g2⟩:=hbis.nxt hS e.1 (hR.len h e he)
  exact⟨O,_,n1,g2 n0⟩
end BisM6
end
end Go.Proofs.YtnlfjojfgghchaaGreatDoor
