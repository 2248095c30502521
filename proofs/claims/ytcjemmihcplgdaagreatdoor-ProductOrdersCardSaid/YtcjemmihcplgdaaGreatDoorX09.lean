/- The walks of the functions and the plain laws. Own texts of this claim, packed: Zdjudg, ZdBisM6. -/
import Derived.Test.YtcjemmihcplgdaaGreatDoorX07
import Derived.Test.YtcjemmihcplgdaaGreatDoorX08
set_option linter.all false
namespace Go.Proofs.YtcjemmihcplgdaaGreatDoor
open AL Go
set_option maxRecDepth 100000
section
open ref01 ref03 ref04 ref06 prog prog2 prog3 prog4 prog5 prog6 prog13 prog15 starts search Part Rungs LeftM TrimM RoundM BisM BisM5 WalkM StepM refw
def wB (xs ys:List Int) (k:Nat):Prop:=ys.length=xs.length∧∀m,m<xs.length→ix ys m=if m<k∨xs.length≤m+k then ix xs (xs.length- 1- m) else ix xs m
theorem Pn {xs ys:List Int} {k:Nat} {j:Int} (h:wB xs ys k) (hj:j=(xs.length:Int)- 1- (k:Int)) (hk:(k:Int)<j):wB xs ((ys.set k (ix ys j.toNat)).set j.toNat (ix ys k)) (k+1):=by
 obtain⟨h1,h2⟩:=h
 refine⟨by simp[h1],fun m hm=> ?_⟩
 have e1:ix ys j.toNat=ix xs j.toNat:=by rw[h2 _ O,if_neg O]
 have e2:ix ys k=ix xs k:=by rw[h2 _ O,if_neg O]
 rw[lN (by simp;omega),lN O,e1,e2]
 by_cases g1:m=j.toNat
 ·rw[if_pos g1,if_pos O];congr 1;omega
 ·rw[if_neg g1]
  by_cases g2:m=k
  ·rw[if_pos g2,if_pos O];congr 1;omega
  ·rw[if_neg g2,h2 m hm]
   by_cases g3:m<k∨xs.length≤m+k
   ·rw[if_pos g3,if_pos O]
   ·rw[if_neg g3,if_neg O]
theorem Po {xs ys:List Int} {k:Nat} {j:Int} (h:wB xs ys k) (hj:j=(xs.length:Int)- 1- (k:Int)) (hk:¬(k:Int)<j):ys=xs.reverse:=by
 obtain⟨h1,h2⟩:=h
 apply List.ext_getElem
 ·simp[h1]
 ·intro m g1 g2
  have hm:m<xs.length:=by omega
  have:=h2 m hm
  rw[aJ g1] at this
  rw[this,List.getElem_reverse]
  by_cases g3:m<k∨xs.length≤m+k
  ·rw[if_pos g3,aJ O]
  ·rw[if_neg g3,aJ hm];congr 1;omega
theorem MJ {q:List Mt} {n:Nat} {j:Int} {out:List Int} {L:List Int} (h:out++upF q n j.toNat=L) (hn:j.toNat<n) (hb:0≤(ix q j.toNat).before):(out++ [(ix q j.toNat).action])++upF q (n- 1) (ix q j.toNat).before.toNat=L:=by
 obtain⟨m,rfl⟩:∃m,n=m+1:=⟨n- 1,O⟩
 rw[upF,if_pos hb] at h
 rw[List.append_assoc];exact h
theorem Jh {q:List Mt} {n:Nat} {j:Int} {out:List Int} {L:List Int} (h:out++upF q n j.toNat=L) (hn:j.toNat<n) (hb:¬0≤(ix q j.toNat).before):out=L:=by
 obtain⟨m,rfl⟩:∃m,n=m+1:=⟨n- 1,O⟩
 rw[upF,if_neg hb,List.append_nil] at h
 exact h
noncomputable def bN (s t:SS):Int:=if aX s=true∧aX t=true then(if s.aC=t.aC then 0 else 10) else 30
theorem Pp {u a:Int} (ha:0≤a):has u a=decide (((u.toNat>>>a.toNat&&&1:Nat):Int)=1):=by unfold has;rw[has_eq]
def mR (x:SA) (a:Int):Int:=if mQ x a=true then rT x a else 0
namespace T
theorem UN:Ent Tryz.prog 163:=aG kR
theorem UO:Ent Tryz.prog 165:=aG kR
theorem GF:cW Tryz.prog 237 1 2:=cB kR
theorem Pq:cW Tryz.prog 237 2 3:=cB kR
theorem MK:Ent Tryz.prog 173:=aG kR
theorem xZ:Ent Tryz.prog 111:=aG kR
theorem UQ:Ent Tryz.prog 125:=aG kR
theorem zE:fW Tryz.prog 162 [(0,1),(1,1)] [.int .i64 0,.int .i64 0]:=fI kR kR
theorem Bf:eG Tryz.prog 95 162 2 16 [.int .i64 0,.int .i64 0]:=fU kR kR
theorem GG:Ent Tryz.prog 112:=aG kR
end T
namespace judg
theorem AH (l:List Int) (x:Int):
 Fn0 Tryz.prog 165 [ints l,int x] (int (gJ (fun y=>decide (x=y)) l)):=by
 refine fnI Tryz.func165 rfl rfl (fun w0 F0=> ?_)
 refine fcC (aL 0 J) (fun hm0=> ?_)
 refine sq (rg (ag (nl (th (sq (sq (rg (mv (lnF J T.aM (mv (nl (th (bk ?_)))))))))))))
 have hI0_0:0≤l.length:=by
  first|omega|simp
 have hI0_1:∀j,j<0→x≠ix l j:=by
  intro j hj;omega
 refine lp (κ:=Nat) (fun p=> [(0,sl 1 nE l),(1,int x),(7,int (l.length:Int)),(8,int (p:Int))]) (fun p=> []) (fun p=>(p≤l.length)∧(∀j,j<p→x≠ix l j)) (fun p=>l.length- p) 0 ⟨hI0_0,hI0_1⟩ ⟨id,id,id,id,tV⟩ trivial ?_
 intro k hG0
 obtain⟨hk0,hI0⟩:(k≤l.length)∧(∀j,j<k→x≠ix l j):=hG0
 refine sq (rg (bi J J aN (nl (th (sq ?_)))))
 refine cd J (fun hc0=> ?_) (fun hc0=> ?_)
 ·try simp at hc0
  refine sk (th (sq (bk (sq (rg (mv (ag (nl (th (sq (rg (mv (mv (mv (iF J J T.aM O gB (lF J J T.aF (bi J J eF (nl (th ?_)))))))))))))))))))
  refine cd J (fun hc1=> ?_) (fun hc1=> ?_)
  ·try simp at hc1
   refine sq (rg (mv (ag (nl (th (rt (rb (rt_ (rt_ (rb (rt_ ?_)))))))))))
   have hr0:((k:Int):Int)=(gJ (fun y=>decide (x=y)) l):=by
    exact(Ba O (decide_eq_true hc1) (fun j hj=>decide_eq_false (hI0 j hj))).symm
   exact rE () [.tmp 4] J [int (k:Int)] ⟨.tmp J,tV⟩ (cA1 (fun x0=>rV [int x0]) hr0) trivial eX
  ·try simp at hc1
   refine sk (eb (th (rg (bi J J (aK i6) (mv (nl ?_))))))
   have hN0:(k+1)≤l.length:=by
    first|omega|simp_all
   have hN1:∀j,j<(k+1)→x≠ix l j:=by
    intro j hj
    by_cases e:j=k
    ·subst e;exact hc1
    ·exact hI0 j O
   exact ln (k+1) ⟨hN0,hN1⟩ dO ⟨id,id,id,id,tV⟩ trivial
 ·try simp at hc0
  refine ex (xt_ (xt_ (xb (th (sq (rg (ag (nl (th (rt ?_))))))))))
  have hr0:((-1):Int)=(gJ (fun y=>decide (x=y)) l):=by
   exact(AZ (fun j hj=>decide_eq_false (hI0 j O))).symm
  exact rE () [.tmp 4] J [int (-1)] ⟨.tmp J,tV⟩ (cA1 (fun x0=>rV [int x0]) hr0) trivial eX
theorem Iy (l:List Int) (x:Int):
 Fn0 Tryz.prog 127 [ints l,int x] (bl (decide (x∈l))):=by
 refine fnI Tryz.func127 rfl rfl (fun w0 F0=> ?_)
 refine fcC (aL 0 J) (fun hm0=> ?_)
 refine sq (rg (ag (nl (th (sq (rg (mv (mv (aO (φs:= [sl 1 nE l,int x]) (φ:=int (gJ (fun y=>decide (x=y)) l)) ⟨J,J,tV⟩ (judg.AH _ _) T.UO (bi J J eT (ag (nl (th (rt ?_))))))))))))))
 have hr0:(decide (0≤(gJ (fun y=>decide (x=y)) l)))=(decide (x∈l)):=by
  rw[zD,Bool.eq_iff_iff,List.any_eq_true];simp
 exact rE () [.tmp 4] J [bl (decide (0≤(gJ (fun y=>decide (x=y)) l)))] ⟨.tmp J,tV⟩ (cA1 (fun x0=>rV [bl x0]) hr0) trivial eX
theorem CG (v:Value) (xs:List Int) (hl:xs.length≤1000000000):
 AL.Fn Tryz.prog 173 [osl 5 v] [(5,own v 3 1 nE xs)] (ι:=Unit) (fun _ _=>tup []) (fun _=> [(5,own v 3 1 nE xs.reverse)]):=by
 refine fnI Tryz.func173 rfl rfl (fun w0 F0=> ?_)
 refine sq (rg (mv (lnO J J T.aM (bi J J (qE i6) (ag (ag (nl (th (bk ?_)))))))))
 have hI0_0:((xs.length:Int)- 1)=(xs.length:Int)- 1- (0:Int)∧wB xs xs 0:=by
  exact⟨O,rfl,fun m hm=>by rw[if_neg O]⟩
 refine lp (κ:=Nat × Int × (List Int)) (fun p=> [(0,osl 5 v),(2,int (p.1:Int)),(3,int p.2.1)]) (fun p=> [(5,own v 3 1 nE p.2.2)]) (fun p=>p.2.1=(xs.length:Int)- 1- (p.1:Int)∧wB xs p.2.2 p.1) (fun p=>xs.length- p.1) ⟨0,(xs.length:Int)- 1,xs⟩ hI0_0 ⟨id,id,id,tV⟩ ⟨rI,tV⟩ ?_
 intro⟨k,j,ys⟩ hG0
 obtain⟨hj,hR⟩:j=(xs.length:Int)- 1- (k:Int)∧wB xs ys k:=hG0
 show Ct _ _ _ _ [(0,osl 5 v),(2,int (k:Int)),(3,int j)] [(5,own v 3 1 nE ys)] _
 refine sq (sq (rg (mv (mv (bi J J aN (nl (th ?_)))))))
 refine cd J (fun hc0=> ?_) (fun hc0=> ?_)
 ·try simp at hc0
  have hyl:=hR.1
  refine sk (th (sq (bk ?_)))
  refine drH (nh:=16) [0,0,0,0,0,0,48,112,0,0,768,1792,4083,8179,16383,32767] [(none,[]),(none,[]),(none,[]),(none,[]),(none,[]),(none,[]),(none,[5]),(none,[5]),(none,[]),(none,[]),(none,[5]),(none,[5]),(none,[5]),(some 5,[5]),(none,[5]),(some 5,[5])] T.mixed kR kR ?_
  refine stv (d:=14) (fun β0=>osl 5 v) [] J bH (fun β0 _ _ _ _ gq gh kq=>mv' (gq.1.trans J) kq) ?_
  refine stv (d:=15) (fun β0=>int (k:Int)) [] J bH (fun β0 _ _ _ _ gq gh kq=>mv' (gq.1.trans J) kq) ?_
  refine stv (d:=16) (fun β0=>osl 5 v) [] J bH (fun β0 _ _ _ _ gq gh kq=>mv' (gq.1.trans J) kq) ?_
  refine stv (d:=17) (fun β0=>int j) [] J bH (fun β0 _ _ _ _ gq gh kq=>mv' (gq.1.trans J) kq) ?_
  refine stv (d:=18) (fun β0=>osl 5 v) [] J bH (fun β0 _ _ _ _ gq gh kq=>mv' (gq.1.trans J) kq) ?_
  refine stv (d:=19) (fun β0=>int j) [] J bH (fun β0 _ _ _ _ gq gh kq=>mv' (gq.1.trans J) kq) ?_
  refine stv (d:=20) (fun β0=>eK 5 v 1 j.toNat 0) [5] J bH (fun β0 _ _ _ _ gq gh kq=>iO (gq.1.trans J) (gh.1.trans J) (gq.2.1.trans J) T.aM O O kq) ?_
  refine stv (d:=21) (fun β0=>int (ix ys j.toNat)) [5] J bH (fun β0 _ _ _ _ gq gh kq=>lO (gq.1.trans J) (gh.1.trans J) (gI O O) J T.aF kq) ?_
  refine stv (d:=22) (fun β0=>osl 5 v) [] J bH (fun β0 _ _ _ _ gq gh kq=>mv' (gq.1.trans J) kq) ?_
  refine stv (d:=23) (fun β0=>int (k:Int)) [] J bH (fun β0 _ _ _ _ gq gh kq=>mv' (gq.1.trans J) kq) ?_
  refine stv (d:=24) (fun β0=>eK 5 v 1 k 0) [5] J bH (fun β0 _ _ _ _ gq gh kq=>iO (gq.1.trans J) (gh.1.trans J) (gq.2.1.trans J) T.aM O O kq) ?_
  refine stv (d:=25) (fun β0=>int (ix ys k)) [5] J bH (fun β0 _ _ _ _ gq gh kq=>lO (gq.1.trans J) (gh.1.trans J) (gN O) J T.aF kq) ?_
  refine stv (d:=26) (fun β0=>eK 5 v 1 k 0) [5] J bH (fun β0 _ _ _ _ gq gh kq=>iO (gq.1.trans J) (gh.1.trans J) (gq.2.1.trans J) T.aM O O kq) ?_
  refine stw 5 (fun β0=>own v 3 1 nE (ys.set k (ix ys j.toNat))) [5] J bH (fun β0 _ _ _ _ gq gh kq=>sO (φ:=int (ix ys j.toNat)) (gq.1.trans J) (gh.1.trans J) (gq.2.1.trans J) T.aF (by first|exact gN O|exact gI O (by simp;omega)) J (y':=(ix ys j.toNat)) J kq) ?_
  refine stv (d:=27) (fun β0=>eK 5 v 1 j.toNat 0) [5] J bH (fun β0 _ _ _ _ gq gh kq=>iO (gq.1.trans J) (gh.1.trans J) (gq.2.1.trans J) T.aM O (by simp;omega) kq) ?_
  refine stw 5 (fun β0=>own v 3 1 nE ((ys.set k (ix ys j.toNat)).set j.toNat (ix ys k))) [5] J bH (fun β0 _ _ _ _ gq gh kq=>sO (φ:=int (ix ys k)) (gq.1.trans J) (gh.1.trans J) (gq.2.1.trans J) T.aF (by first|exact gN O|exact gI O (by simp;omega)) J (y':=(ix ys k)) J kq) ?_
  refine pnH fun β0=>(nl (eb (th (rg (mv (bi J J (aK i6) (mv (bi J J (qE i6) (ag (ag (nl ?_)))))))))))
  have hN0:(j- 1)=(xs.length:Int)- 1- ((k+1):Int)∧wB xs ((ys.set k (ix ys j.toNat)).set j.toNat (ix ys k)) (k+1):=by
   exact⟨O,Pn hR hj hc0⟩
  exact ln (⟨k+1,j- 1,(ys.set k (ix ys j.toNat)).set j.toNat (ix ys k)⟩:Nat × Int × (List Int)) hN0 dO ⟨id,id,id,tV⟩ ⟨rI,tV⟩
 ·try simp at hc0
  refine ex (xt_ (xt_ (xb ?_)))
  obtain rfl:ys=xs.reverse:=Po hR hj O
  exact rE () [] J [] trivial J ⟨rI,tV⟩ eX
theorem Sq (q:List Mt) (hb:tE q) (i:Nat) (hi:i<q.length) (hq:q.length≤1000000000:=by omega):
 Fn0 Tryz.prog 191 [sl 4 kS q,int (i:Int)] (ints (eD q i)):=by
 refine fnI Tryz.func191 rfl rfl (fun w0 F0=> ?_)
 refine fcC (aL 0 J) (fun hm0=> ?_)
 refine sq (rg (ag (nl (th (sq (rg (nw 5 3 1 nE (ag (rtg (key:=5) 5 J (nl (th (sq (bk ?_)))))))))))))
 have hI0_0:0≤(i:Int)∧(i:Int)<(q.length:Int)∧([]:List Int)++upF q (i+1) (i:Int).toNat=upF q (i+1) i∧(i:Int).toNat<(i+1)∧([]:List Int).length+(i:Int).toNat≤i:=by
  exact⟨O,O,by rw[Int.toNat_natCast];rfl,O,by simp⟩
 refine lp (κ:=Nat × Int × Value × (List Int)) (fun p=> [(0,sl 4 kS q),(1,int p.2.1),(4,eqv (.slice none 0 0)),(5,osl 5 p.2.2.1)]) (fun p=> [(5,own p.2.2.1 3 1 nE p.2.2.2)]) (fun p=>0≤p.2.1∧p.2.1<(q.length:Int)∧p.2.2.2++upF q p.1 p.2.1.toNat=upF q (i+1) i∧p.2.1.toNat<p.1∧p.2.2.2.length+p.2.1.toNat≤i) (fun p=>p.2.1.toNat) ⟨i+1,(i:Int),(.slice none 0 0),([]:List Int)⟩ hI0_0 ⟨id,id,id,id,tV⟩ ⟨rI,tV⟩ ?_
 intro⟨n,j,v5,out⟩ hG0
 obtain⟨hj0,hjl,hou,hjn,hol⟩:0≤j∧j<(q.length:Int)∧out++upF q n j.toNat=upF q (i+1) i∧j.toNat<n∧out.length+j.toNat≤i:=hG0
 show Ct _ _ _ _ [(0,sl 4 kS q),(1,int j),(4,eqv (.slice none 0 0)),(5,osl 5 v5)] [(5,own v5 3 1 nE out)] _
 have hbk:=hb j.toNat O
 refine sq (sq (rg (mv (mv (iF J J T.vY O gB (fF J T.GF (lF J J T.aF (bi J J eT (nl (th ?_))))))))))
 refine cd J (fun hc0=> ?_) (fun hc0=> ?_)
 ·try simp at hc0
  refine sk (th (sq (bk (rg (mv (mv (mv (iF J J T.vY O gB (fF J T.Pq (lF J J T.aF (bsE (enc:=nE) (xs:= [(ix q j.toNat).action]) (css:= [[int (ix q j.toNat).action]]) T.cE ⟨J,J,p1 (φ:=int (ix q j.toNat).action) J,tV⟩ J J J J (ap (key:=5) (zs:= [(ix q j.toNat).action]) cH J J J T.cE (by unfold aU at*;simp;omega) (by unfold aU at*;simp;omega) fun v24=>(ag (nl (eb (th (rg (mv (mv (iF J J T.vY O gB (fF J T.GF (lF J J T.aF (ag (nl ?_))))))))))))))))))))))))
  have hN0:0≤(ix q j.toNat).before∧(ix q j.toNat).before<(q.length:Int)∧(out++ [(ix q j.toNat).action])++upF q (n- 1) (ix q j.toNat).before.toNat=upF q (i+1) i∧(ix q j.toNat).before.toNat<(n- 1)∧(out++ [(ix q j.toNat).action]).length+(ix q j.toNat).before.toNat≤i:=by
   have hbk2:=hbk hc0
   exact⟨hc0,O,MJ hou hjn hc0,O,by simp;omega⟩
  exact ln (⟨n- 1,(ix q j.toNat).before,v24,out++ [(ix q j.toNat).action]⟩:Nat × Int × Value × (List Int)) hN0 (by have hbk2:=hbk hc0;show(ix q j.toNat).before.toNat<j.toNat;omega) ⟨id,id,id,id,tV⟩ ⟨rI,tV⟩
 ·try simp at hc0
  refine ex (xt_ (xt_ (xb (th (sq (rg (mv (cal (Hi:= [(5,own v5 3 1 nE out)]) (φs:= [osl 5 v5]) ⟨J,tV⟩ (judg.CG v5 out O) T.MK ⟨rI,tV⟩ fun _ _=>(nl (th (sq (rg (mv (ag (nl (th (rt ?_)))))))))))))))))
  refine fzA 5 4 rfl rfl ?_
  have hr0:out.reverse=(eD q i):=by
   rw[Jh hou hjn O];rfl
  exact rE () [.tmp 4] J [sl 1 nE out.reverse] ⟨.tmp J,tV⟩ (cA1 (fun x0=>rV [sl 1 nE x0]) hr0) trivial eX
theorem ML (s:SS) (hsm:bK s):
 Fn0 Tryz.prog 189 [spec s] (tup [ints (if aX s=true then cK s else []),int (errOf s)]):=by
 refine fnI Tryz.func189 rfl rfl (fun w0 F0=> ?_)
 refine fcC (bO 0 J) (fun hS0=> ?_)
 obtain⟨hsa0,hss0,hse0⟩:=sLn hS0
 refine sq (rg (bx (key:=1) (cs:= [sl 1 rE_ s.aC,sl 2 sE s.sT]) J fun b1=>(ag (ag (nl (th (sq (sq (rg (lPA J J T.aD J (aO (φs:= [agg [sl 1 rE_ s.aC,sl 2 sE s.sT]]) (φ:=bl (aX s)) ⟨J,tV⟩ (prog2.nP s aS) T.xZ (no J (nl (th ?_))))))))))))))
 refine cd J (fun hc0=> ?_) (fun hc0=> ?_)
 ·try simp at hc0
  refine sq (rg (ag (ag (nl (th (rt (rt_ ?_)))))))
  refine knA 2 (sl 1 nE []) rfl bT ?_
  have hr0: []=(if aX s=true then cK s else []):=by
   rw[if_neg (by simp[hc0])]
  have hr1:(30:Int)=(errOf s):=by
   unfold errOf;rw[if_neg (by simp[hc0])]
  exact rE () [.tmp 2,.tmp 3] J [sl 1 nE [],int 30] ⟨.tmp J,.tmp J,tV⟩ (cA2 (fun x0 x1=>rV [sl 1 nE x0,int x1]) hr0 hr1) trivial eX
 ·try simp at hc0
  have hs:=bW hc0
  refine sk (th (sq (rg (lPA J J T.aD J (aO (φs:= [agg [sl 1 rE_ s.aC,sl 2 sE s.sT]]) (φ:=sl 1 nE (cK s)) ⟨J,tV⟩ (prog6.Ga s aS) T.Mn (ag (ag (nl (th (rt ?_))))))))))
  have hr0:(cK s)=(if aX s=true then cK s else []):=by
   rw[if_pos hc0]
  have hr1:(0:Int)=(errOf s):=by
   unfold errOf;rw[if_pos hc0]
  exact rE () [.tmp 2,.tmp 3] J [sl 1 nE (cK s),int 0] ⟨.tmp J,.tmp J,tV⟩ (cA2 (fun x0 x1=>rV [sl 1 nE x0,int x1]) hr0 hr1) trivial eX
theorem Pr (u a:Int) (hu:0≤u∧u<256) (ha:0≤a∧a<64):
 Fn0 Tryz.prog 163 [int u,fp [int a]] (bl (has u a)):=by
 refine fnI Tryz.func163 rfl rfl (fun w0 F0=> ?_)
 refine sq (rg (ag (nl (th (sq (rg (mv (lF J J T.aF (bi J J (wY O O O) (bi J J (Cc (m:=(u.toNat>>>a.toNat)) (Nat.lt_of_le_of_lt (Nat.shiftRight_le _ _) O)) (bi J J eF (ag (nl (th (rt ?_)))))))))))))))
 have hr0:(decide ((((u.toNat>>>a.toNat)&&&1:Nat):Int)=1))=(has u a):=by
  rw[Pp ha.1]
 exact rE () [.tmp 3] J [bl (decide ((((u.toNat>>>a.toNat)&&&1:Nat):Int)=1))] ⟨.tmp J,tV⟩ (cA1 (fun x0=>rV [bl x0]) hr0) trivial eX
theorem EY (l:List Int) (dom:Int→Prop) (pq:Int→Bool) (hd:∀k,k<l.length→dom (ix l k)):
 Fn0 Tryz.prog 158 [ints l,pf Tryz.prog dom nE (fun x=>bl (pq x))] (int (gJ pq l)):=by
 refine fnI Tryz.func158 rfl rfl (fun w0 F0=> ?_)
 refine fcC (aL 0 J) (fun hm0=> ?_)
 refine sq (rg (ag (nl (th (sq (sq (rg (mv (lnF J T.aM (mv (nl (th (bk ?_)))))))))))))
 have hI0_0:0≤l.length:=by
  first|omega|simp
 have hI0_1:∀j,j<0→pq (ix l j)=false:=by
  intro j hj;omega
 refine lp (κ:=Nat) (fun p=> [(0,sl 1 nE l),(1,pf Tryz.prog dom nE (fun x=>bl (pq x))),(7,int (l.length:Int)),(8,int (p:Int))]) (fun p=> []) (fun p=>(p≤l.length)∧(∀j,j<p→pq (ix l j)=false)) (fun p=>l.length- p) 0 ⟨hI0_0,hI0_1⟩ ⟨id,id,id,id,tV⟩ trivial ?_
 intro k hG0
 obtain⟨hk0,hI0⟩:(k≤l.length)∧(∀j,j<k→pq (ix l j)=false):=hG0
 refine sq (rg (bi J J aN (nl (th (sq ?_)))))
 refine cd J (fun hc0=> ?_) (fun hc0=> ?_)
 ·try simp at hc0
  refine sk (th (sq (bk (sq (rg (mv (ag (nl (th (sq (rg (mv (mv (mv (iF J J T.aM O gB (lF J J T.aF (Kb J (ix l k) (hd k O) J (nl (th ?_)))))))))))))))))))
  refine cd J (fun hc1=> ?_) (fun hc1=> ?_)
  ·try simp at hc1
   refine sq (rg (mv (ag (nl (th (rt (rb (rt_ (rt_ (rb (rt_ ?_)))))))))))
   have hr0:((k:Int):Int)=(gJ pq l):=by
    exact(Ba O hc1 hI0).symm
   exact rE () [.tmp 4] J [int (k:Int)] ⟨.tmp J,tV⟩ (cA1 (fun x0=>rV [int x0]) hr0) trivial eX
  ·try simp at hc1
   refine sk (eb (th (rg (bi J J (aK i6) (mv (nl ?_))))))
   have hN0:(k+1)≤l.length:=by
    first|omega|simp_all
   have hN1:∀j,j<(k+1)→pq (ix l j)=false:=by
    intro j hj
    by_cases e:j=k
    ·subst e;simpa using hc1
    ·exact hI0 j O
   exact ln (k+1) ⟨hN0,hN1⟩ dO ⟨id,id,id,id,tV⟩ trivial
 ·try simp at hc0
  refine ex (xt_ (xt_ (xb (th (sq (rg (ag (nl (th (rt ?_))))))))))
  have hr0:((-1):Int)=(gJ pq l):=by
   exact(AZ (fun j hj=>hI0 j O)).symm
  exact rE () [.tmp 4] J [int (-1)] ⟨.tmp J,tV⟩ (cA1 (fun x0=>rV [int x0]) hr0) trivial eX
theorem Ps (l:List Int) (hl:∀k,k<l.length→0≤ix l k∧ix l k<256) (a:Int) (ha:0≤a∧a<64):Fn0 Tryz.prog 158 [ints l,clo 163 [fp [int a]]] (int (gJ (fun u=>has u a) l)):=by
 refine pO (fun {w F vs} h=> ?_) (EY l (fun u=>0≤u∧u<256) (fun u=>has u a) hl)
 match vs,h with
 | [_,_],⟨h1,h2,_⟩=>exact⟨h1,Ce T.UN (fun u hu=>Pr u a hu ha) h2,tV⟩
theorem Sr (x:SA) (hx:∀i,i<x.aP.length→0≤ix x.aP i∧ix x.aP i<256) (a:Int) (h0:0≤a) (ha:a<64):
 Fn0 Tryz.prog 125 [state x,int a] (tup [int (mR x a),bl (mQ x a)]):=by
 refine fnI Tryz.func125 rfl rfl (fun w0 F0=> ?_)
 refine fcC (bO 0 J) (fun hS0=> ?_)
 obtain⟨hxa0,hxn0⟩:=kZ hS0
 refine sq (rg (bx (key:=2) (cs:= [sl 1 nE x.aP,sl 1 nE x.next]) J fun b2=>(bx1 (key:=3) (φ:=int a) J fun b3=>(ag (ag (nl (th (sq (rg (fP J T.cM (lP J J J T.aV (fzv 3 3 J J (mkf (aO (φs:= [sl 1 nE x.aP,clo 163 [fp [int a]]]) (φ:=int (gJ (fun u=>has u a) x.aP)) ⟨J,J,tV⟩ (Ps x.aP hx a ⟨h0,ha⟩) T.MH (ag (nl (th (sq (sq (rg (mv (bi J J aN (nl (th ?_))))))))))))))))))))))))
 refine cd J (fun hc0=> ?_) (fun hc0=> ?_)
 ·try simp at hc0
  have hlb:mQ x a=false:=by
   have:=zD (p:=(fun u=>has u a)) (l:=x.aP)
   rw[decide_eq_false O] at this
   exact this.symm
  refine sq (rg (ag (ag (nl (th (rt (rt_ ?_)))))))
  have hr0:(0:Int)=(mR x a):=by
   unfold mR;rw[if_neg (by simp[hlb])]
  have hr1:false=(mQ x a):=by
   exact hlb.symm
  exact rE () [.tmp 4,.tmp 5] J [int 0,bl false] ⟨.tmp J,.tmp J,tV⟩ (cA2 (fun x0 x1=>rV [int x0,bl x1]) hr0 hr1) trivial eX
 ·try simp at hc0
  have hlb:mQ x a=true:=by
   have:=zD (p:=(fun u=>has u a)) (l:=x.aP)
   rw[decide_eq_true O] at this
   exact this.symm
  obtain⟨hi0,hi1,_⟩:=Dt hlb
  refine sk (th (sq (rg (fP J T.cM (lP J J J T.aV (mv (iF J J T.aM O gB (lF J J T.aF (ag (ag (nl (th (rt ?_)))))))))))))
  have hr0:((ix x.aP (gJ (fun u=>has u a) x.aP).toNat):Int)=(mR x a):=by
   unfold mR;rw[if_pos hlb];rfl
  have hr1:true=(mQ x a):=by
   exact hlb.symm
  exact rE () [.tmp 4,.tmp 5] J [int (ix x.aP (gJ (fun u=>has u a) x.aP).toNat),bl true] ⟨.tmp J,.tmp J,tV⟩ (cA2 (fun x0 x1=>rV [int x0,bl x1]) hr0 hr1) trivial eX
theorem Du (s:SS) (hT:oK s) (w:List Int) (hw:uE s w) (u:Int) (hlw:w.length≤1000000000):
 Fn0 Tryz.prog 70 [spec s,ints w,int u] (tup [sl 2 pE (bS s w u),bl (decide (u∈acc s (goS s w).toNat))]):=by
 refine fnI Tryz.func70 rfl rfl (fun w0 F0=> ?_)
 have hf1:=hT.few1;have hn8:=hT.n8
 refine fcC (bO 0 J) (fun hS0=> ?_)
 obtain⟨hsa0,hss0,hse0⟩:=sLn hS0
 refine fcC (aL 1 J) (fun hm1=> ?_)
 refine sq (rg (bx (key:=3) (cs:= [sl 1 rE_ s.aC,sl 2 sE s.sT]) J fun b3=>(ag (ag (nl (th (sq (rg (nw 8 162 2 pE (ag (rtg (key:=8) 8 J (nl (th (sq (rg (ag (nl (th (sq (sq (rg (mv (lnF J T.aM (mv (nl (th (bk ?_)))))))))))))))))))))))))))
 have hI0_0:0≤w.length:=by
  first|omega|simp
 have hI0_1:(0:Int)=xAt s w 0∧([]:List (Int × Int))=(List.range 0).map (kB s w):=by
  exact⟨(vZ s w).symm,rfl⟩
 refine lp (κ:=Nat × Int × Value × (List (Int × Int))) (fun p=> [(2,int u),(3,ptr 3 b3 0),(8,osl 8 p.2.2.1),(9,int p.2.1),(14,sl 1 nE w),(15,int (w.length:Int)),(16,int (p.1:Int))]) (fun p=> [(3,cell b3 [sl 1 rE_ s.aC,sl 2 sE s.sT]),(8,own p.2.2.1 162 2 pE p.2.2.2)]) (fun p=>(p.1≤w.length)∧(p.2.1=xAt s w p.1∧p.2.2.2=(List.range p.1).map (kB s w))) (fun p=>w.length- p.1) ⟨0,(0:Int),(.slice none 0 0),([]:List (Int × Int))⟩ ⟨hI0_0,hI0_1⟩ ⟨id,id,id,id,id,id,id,tV⟩ ⟨rI,rI,tV⟩ ?_
 intro⟨k,x,v8,out⟩ hG0
 obtain⟨hk0,⟨hx,hou⟩⟩:(k≤w.length)∧(x=xAt s w k∧out=(List.range k).map (kB s w)):=hG0
 show Ct _ _ _ _ [(2,int u),(3,ptr 3 b3 0),(8,osl 8 v8),(9,int x),(14,sl 1 nE w),(15,int (w.length:Int)),(16,int (k:Int))] [(3,cell b3 [sl 1 rE_ s.aC,sl 2 sE s.sT]),(8,own v8 162 2 pE out)] _
 have hol:out.length=k:=by rw[hou];simp
 refine sq (rg (bi J J aN (nl (th (sq ?_)))))
 refine cd J (fun hc0=> ?_) (fun hc0=> ?_)
 ·try simp at hc0
  have hxb:=wA hT hw k O
  have hab:=Eu hT hw hc0
  obtain⟨_,_,na,hna,hha⟩:=hw k hc0
  rw[←hx] at hxb hha
  have hxo:=hT.st x.toNat O
  have hxl:=hxo.len
  have hxac:=hxo.ac
  have hlb:mQ (ix s.sT x.toNat) (ix w k)=true:=by rw[hna];exact Bd hha
  refine sk (th (sq (bk (sq (rg (iF J J T.aM O gB (lF J J T.aF (ag (nl (th (sq (rg (fP J T.aY (lP J J J T.bI (mv (iF J J T.bU O gB (lFA J T.cP (Nat.le_of_ble_eq_true J) (mv (aO (φs:= [agg [sl 1 nE (ix s.sT x.toNat).aP,sl 1 nE (ix s.sT x.toNat).next],int (ix w k)]) (φ:=tup [int (mR (ix s.sT x.toNat) (ix w k)),bl (mQ (ix s.sT x.toNat) (ix w k))]) ⟨J,J,tV⟩ (judg.Sr (ix s.sT x.toNat) aS (ix w k) O O) T.UQ (mv (xt J J (xt J J (ag (ag (nl (th (sq (sq (rg (mv (no J (nl (th ?_)))))))))))))))))))))))))))))))))
  refine cd J (fun hc1=> ?_) (fun hc1=> ?_)
  ·try simp at hc1
   exact absurd hlb (by simp[hc1])
  ·try simp at hc1
   refine sk (th (sq (rg (mv (mv (mv (bd (css:= [(0,_),(1,_)]) T.zE (eC (eC eZ)) ⟨J,J,p1 (φ:=int x) J,⟨J,J,p1 (φ:=int (mR (ix s.sT x.toNat) (ix w k))) J,tV⟩⟩ (bs (css:= [[int x,int (mR (ix s.sT x.toNat) (ix w k))]]) T.Bf ⟨J,J,pA (cs:= [int x,int (mR (ix s.sT x.toNat) (ix w k))]) J,tV⟩ J J J (ap (key:=8) (zs:= [(x,mR (ix s.sT x.toNat) (ix w k))]) cH J J J T.Bf (by unfold aU at*;simp;omega) (by unfold aU at*;simp;omega) fun v37=>(ag (nl (th (rg (fP J T.aY (lP J J J T.bI (mv (iF J J T.bU O gB (fF J T.bQ (lF J J T.aV (mv (iF J J T.aM O gB (lF J J T.aF (ag (nl (eb (th (rg (bi J J (aK i6) (mv (nl ?_))))))))))))))))))))))))))))))
   have hN0:(k+1)≤w.length:=by
    first|omega|simp_all
   have hN1:(ix (ix s.sT x.toNat).next (ix w k).toNat)=xAt s w (k+1)∧(out++ [(x,mR (ix s.sT x.toNat) (ix w k))])=(List.range (k+1)).map (kB s w):=by
    refine⟨?_,?_⟩
    ·rw[Bb hc0,←hx]
     unfold stepS;rw[if_neg O]
    ·rw[List.range_succ,List.map_append,←hou]
     congr 1
     show [_]= [kB s w k]
     unfold kB mR
     rw[←hx,if_pos hlb]
   exact ln (⟨k+1,ix (ix s.sT x.toNat).next (ix w k).toNat,v37,out++ [(x,mR (ix s.sT x.toNat) (ix w k))]⟩:Nat × Int × Value × (List (Int × Int))) ⟨hN0,hN1⟩ dO ⟨id,id,id,id,id,id,id,tV⟩ ⟨rI,rI,tV⟩
 ·try simp at hc0
  have hkl:k=w.length:=by omega
  have hxb:=wA hT hw k O
  rw[←hx] at hxb
  have hxe:=hT.st x.toNat O
  refine ex (xt_ (xt_ (xb (th (sq ?_)))))
  refine drH (nh:=15) [0,0,0,6,14,31,0,64,0,448,960,0,4095,8191,16383] [(none,[]),(none,[]),(none,[]),(none,[]),(none,[]),(some 8,[8]),(none,[]),(none,[3]),(none,[]),(none,[]),(none,[]),(none,[]),(none,[]),(none,[]),(none,[])] T.mixed kR kR ?_
  refine stv (d:=48) (fun β0=>osl 8 v8) [] J bH (fun β0 _ _ _ _ gq gh kq=>mv' (gq.1.trans J) kq) ?_
  refine stv (d:=49) (fun β0=>int x) [] J bH (fun β0 _ _ _ _ gq gh kq=>mv' (gq.1.trans J) kq) ?_
  refine stv (d:=50) (fun β0=>int u) [] J bH (fun β0 _ _ _ _ gq gh kq=>mv' (gq.1.trans J) kq) ?_
  refine stv (d:=51) (fun β0=>agg [int x,int u]) [] J bH (fun β0 _ _ _ _ gq gh kq=>bd (css:= [(0,_),(1,_)]) T.zE (eC (eC eZ)) ⟨J,J,p1 (φ:=int x) (by exact(gq.1.trans J)),⟨J,J,p1 (φ:=int u) (by exact(gq.2.1.trans J)),tV⟩⟩ kq) ?_
  refine stv (d:=52) (fun β0=>sl 2 id [[int x,int u]]) [] J bH (fun β0 _ _ _ _ gq gh kq=>bs (css:= [[int x,int u]]) T.Bf ⟨J,J,pA (cs:= [int x,int u]) (by exact(gq.1.trans J)),tV⟩ J J J kq) ?_
  refine stc (d:=53) (e:=162) (n:=2) (enc:=pE) (xs:=out++ [(x,u)]) 8 [8] rfl (fun β0 _ _ _ _ gq gh kq=>ap (key:=8) (zs:= [(x,u)]) (fun h=>MI (gq.1.trans rfl) h) (gh.1.trans rfl) (gq.2.1.trans rfl) rfl T.Bf (by unfold aU at*;simp;omega) (by unfold aU at*;simp;omega) fun v=>kq v) ?_
  refine stv (d:=54) (fun β0=>ptr 3 b3 1) [] J bH (fun β0 _ _ _ _ gq gh kq=>fP (gq.1.trans J) T.aY kq) ?_
  refine stv (d:=55) (fun β0=>sl 2 sE s.sT) [3] J bH (fun β0 _ _ _ _ gq gh kq=>lP (gq.1.trans J) (gh.1.trans J) J T.bI kq) ?_
  refine stv (d:=56) (fun β0=>int x) [] J bH (fun β0 _ _ _ _ gq gh kq=>mv' (gq.1.trans J) kq) ?_
  refine stv (d:=57) (fun β0=>fp [sl 1 nE (ix s.sT x.toNat).aP,sl 1 nE (ix s.sT x.toNat).next]) [] J bH (fun β0 _ _ _ _ gq gh kq=>iF (gq.1.trans J) (gq.2.1.trans J) T.bU O gB kq) ?_
  refine stv (d:=58) (fun β0=>agg [sl 1 nE (ix s.sT x.toNat).aP,sl 1 nE (ix s.sT x.toNat).next]) [] J bH (fun β0 _ _ _ _ gq gh kq=>lFA (gq.1.trans J) T.cP (Nat.le_of_ble_eq_true J) kq) ?_
  refine stv (d:=59) (fun β0=>int u) [] J bH (fun β0 _ _ _ _ gq gh kq=>mv' (gq.1.trans J) kq) ?_
  refine stv (d:=60) (fun β0=>bl (decide (u∈(ix s.sT x.toNat).aP))) [] J bH (fun β0 _ _ _ _ gq gh kq=>aO (φs:= [agg [sl 1 nE (ix s.sT x.toNat).aP,sl 1 nE (ix s.sT x.toNat).next],int u]) (φ:=bl (decide (u∈(ix s.sT x.toNat).aP))) ⟨(gq.1.trans J),(gq.2.1.trans J),tV⟩ (search.oZ (ix s.sT x.toNat) hxe.rise u) T.Gs kq) ?_
  refine stv (d:=6) (fun β0=>osl 8 (sv (β0 5))) [] J (fun β β' hb=>by first|rw[hb 5 J]|(dsimp only;rw[hb 5 J])) (fun β0 _ _ _ _ gq gh kq=>ag' (gq.1.trans J) kq) ?_
  refine stv (d:=7) (fun β0=>bl (decide (u∈(ix s.sT x.toNat).aP))) [] J bH (fun β0 _ _ _ _ gq gh kq=>ag' (gq.1.trans J) kq) ?_
  refine pnH fun β0=>(nl (th (rt ?_)))
  refine fzA 8 6 rfl rfl ?_
  have hr0:(out++ [(x,u)])=(bS s w u):=by
   unfold bS;rw[hou,hx,hkl]
  have hr1:(decide (u∈(ix s.sT x.toNat).aP))=(decide (u∈acc s (goS s w).toNat)):=by
   rw[hx,hkl,Dr]
  exact rE () [.tmp 6,.tmp 7] J [sl 2 pE (out++ [(x,u)]),bl (decide (u∈(ix s.sT x.toNat).aP))] ⟨.tmp J,.tmp J,tV⟩ (cA2 (fun x0 x1=>rV [sl 2 pE x0,bl x1]) hr0 hr1) trivial eX
theorem mS (s t:SS) (hs:bK s) (ht:bK t):
 Fn0 Tryz.prog 61 [spec s,spec t] (int (bN s t)):=by
 refine fnI Tryz.func61 rfl rfl (fun w0 F0=> ?_)
 refine fcC (bO 0 J) (fun hS0=> ?_)
 obtain⟨hsa0,hss0,hse0⟩:=sLn hS0
 refine fcC (bO 1 J) (fun hS1=> ?_)
 obtain⟨hsa1,hss1,hse1⟩:=sLn hS1
 refine sq (rg (bx (key:=2) (cs:= [sl 1 rE_ s.aC,sl 2 sE s.sT]) J fun b2=>(bx (key:=3) (cs:= [sl 1 rE_ t.aC,sl 2 sE t.sT]) J fun b3=>(ag (nl (th (sq (bk (sq (rg (lPA J J T.aD J (aO (φs:= [agg [sl 1 rE_ s.aC,sl 2 sE s.sT]]) (φ:=bl (aX s)) ⟨J,tV⟩ (prog2.nP s aS) T.xZ (no J (mv ?_))))))))))))))
 apply gOr (t:=9) (pd:=13) rfl
 rotate_left
 ·intro hg0 fin
  have hg0':=hg0
  try simp at hg0'
  exact gy J J J hg0 (lPA J J T.aD J (gy J J J hg0 (aO (φs:= [agg [sl 1 rE_ t.aC,sl 2 sE t.sT]]) (φ:=bl (aX t)) ⟨J,tV⟩ (prog2.nP t aS) T.xZ (gy J J J hg0 (no J (pkF J hg0 J (drp (X:= [(12,_),(11,_),(10,_)]) ⟨J,J,J,tV⟩ fin)))))))
 ·intro hg0 fin
  exact gn J J J hg0 J J (gn J J J hg0 J J (gn J J J hg0 J J (pkT J hg0 J (drp (X:= [(12,_),(11,_),(10,_)]) ⟨J,J,J,tV⟩ fin))))
 refine ag (nl (th ?_))
 refine cd J (fun hc0=> ?_) (fun hc0=> ?_)
 ·try simp at hc0
  refine sq (rg (ag (nl (th (rt (rb (rt_ ?_)))))))
  have hr0:(30:Int)=(bN s t):=by
   unfold bN;rw[if_neg (by rintro⟨a,b⟩;simp[a,b] at hc0)]
  exact rE () [.tmp 4] J [int 30] ⟨.tmp J,tV⟩ (cA1 (fun x0=>rV [int x0]) hr0) trivial eX
 ·try simp at hc0
  refine sq (rg (fP J T.cR (lP J J J T.cV (fP J T.cR (lP J J J T.cV (aO (φs:= [sl 1 rE_ s.aC,sl 1 rE_ t.aC]) (φ:=bl (decide (s.aC=t.aC))) ⟨J,J,tV⟩ (prog.rG _ _) T.GG (no J (ag (nl (th ?_))))))))))
  refine cd J (fun hc1=> ?_) (fun hc1=> ?_)
  ·try simp at hc1
   refine sq (rg (ag (nl (th (rt (rb (rt_ ?_)))))))
   have hr0:(10:Int)=(bN s t):=by
    unfold bN;rw[if_pos (by simpa using hc0),if_neg hc1]
   exact rE () [.tmp 4] J [int 10] ⟨.tmp J,tV⟩ (cA1 (fun x0=>rV [int x0]) hr0) trivial eX
  ·try simp at hc1
   refine sk (eb (th (sq (rg (ag (nl (th (rt ?_))))))))
   have hr0:(0:Int)=(bN s t):=by
    unfold bN;rw[if_pos (by simpa using hc0),if_pos hc1]
   exact rE () [.tmp 4] J [int 0] ⟨.tmp J,tV⟩ (cA1 (fun x0=>rV [int x0]) hr0) trivial eX
end judg
end
section
open ref01 ref03 ref04 ref06 Part Rungs LeftM TrimM Itoa Keys RoundM MergeM BisM BisM2 BisM3 BisM4 BisM5 TurnM
namespace BisM6
structure KE (off:Nat→Int) (ed:Nat→List (Nat × Nat)) (t:SS) (R:Nat→Nat→Prop):Prop where
 bd:∀{x y},R x y→y<t.sT.length
 acc:∀{x y},R x y→off x∈BisM.acc t y
 len:∀{x y},R x y→∀e∈ed x,e.1<(nxt t y).length
 nxt:∀{x y},R x y→∀e∈ed x,0≤ix (nxt t y) e.1∧R e.2 (ix (nxt t y) e.1).toNat
def Sat (off:Nat→Int) (ed:Nat→List (Nat × Nat)) (t:SS) (x y:Nat):Prop:=∃R,KE off ed t R∧R x y
def Ff (off:Nat→Int) (ed:Nat→List (Nat × Nat)):Prop:=∀x (a:Nat),has (off x) (a:Int)=true↔∃e∈ed x,e.1=a
variable {off:Nat→Int} {ed:Nat→List (Nat × Nat)}
theorem Dv {s:SS} (hs:oK s) (ho:Ff off ed) {R:Nat→Nat→Prop} (hR:KE off ed s R) {x y:Nat} (h:R x y):ix (hOl s) y=false:=by
 have hy:=hR.bd h
 cases hv:ix (hOl s) y with
 |false=>rfl
 |true=>
  exfalso
  refine(iK hy).1 hv (fun y=> ∀x,¬R x y) (fun y hy hc x hxy=> ?_) x h
  obtain⟨i,hi,e⟩:=oT (hR.acc hxy)
  obtain⟨a,ha,_,hh,hH⟩:=hc i hi
  have e':ix (ix s.sT y).aP i=off x:=e
  rw[e'] at hh
  obtain⟨e,he,rfl⟩:=(ho x a).1 hh
  exact hH _ (hR.nxt hxy e he).2
theorem GH {s:SS} (hs:oK s) (ho:Ff off ed) {R:Nat→Nat→Prop} (hR:KE off ed s R) {x y:Nat} (h:R x y):off x∈keep s y:=by
 rw[jL (Dv hs ho hR h),List.mem_filter]
 refine⟨hR.acc h,?_⟩
 rw[Bool.not_eq_true']
 cases hf:falls (ix s.sT y) (off x) (hOl s) with
 |false=>rfl
 |true=>
  obtain⟨a,_,_,hh,hv⟩:=iI.1 hf
  obtain⟨e,he,rfl⟩:=(ho x a).1 hh
  have:=Dv hs ho hR (hR.nxt h e he).2
  have hv':ix (hOl s) (ix (nxt s y) e.1).toNat=true:=hv
  rw[this] at hv';cases hv'
theorem uF {s:SS} (hs:oK s) (ho:Ff off ed) {x y:Nat}:Sat off ed s x y↔Sat off ed (aB s) x y:=by
 constructor
 ·rintro⟨R,hR,h⟩
  refine⟨R,⟨fun h=>by rw[fZ];exact hR.bd h,fun h=> ?_,fun {a b} h e he=> ?_,fun {a b} h e he=> ?_⟩,h⟩
  ·rw[gU (hR.bd h)];exact GH hs ho hR h
  ·have hb:=hR.bd h
   rw[gT hs hb]
   have:=hR.len h e he
   have hl:(nxt s b).length=s.aC.length:=(hs.st b hb).len
   omega
  ·have hb:=hR.bd h
   have hl:(nxt s b).length=s.aC.length:=(hs.st b hb).len
   have he1:=hR.len h e he
   have hh:has (aT (keep s b)) (e.1:Int)=true:=(bR _ _).2 ⟨off a,GH hs ho hR h,(ho a e.1).2 ⟨e,he,rfl⟩⟩
   rw[kI hs hb O,if_pos hh]
   exact hR.nxt h e he
 ·rintro⟨R,hR,h⟩
  have hk:∀{a b},R a b→b<s.sT.length∧off a∈keep s b:=fun {a b} h=>by
   have hb:=hR.bd h
   rw[fZ] at hb
   have:=hR.acc h
   rw[gU hb] at this
   exact⟨hb,this⟩
  refine⟨R,⟨fun h=>(hk h).1,fun h=>(List.mem_filter.1 (hk h).2).1,fun {a b} h e he=> ?_,fun {a b} h e he=> ?_⟩,h⟩
  ·obtain⟨hb,_⟩:=hk h
   have:=hR.len h e he
   rw[gT hs hb] at this
   show e.1<(ix s.sT b).next.length
   rw[(hs.st b hb).len];exact this
  ·obtain⟨hb,hm⟩:=hk h
   have hl:=hR.len h e he
   rw[gT hs hb] at hl
   have hh:has (aT (keep s b)) (e.1:Int)=true:=(bR _ _).2 ⟨off a,hm,(ho a e.1).2 ⟨e,he,rfl⟩⟩
   have:=hR.nxt h e he
   rw[kI hs hb hl,if_pos hh] at this
   exact this
theorem MM {T:SS} {x:Nat} {u:Int} (h:u∈acc T x):x<T.sT.length:=by
 rcases Nat.lt_or_ge x T.sT.length with h1|h1
 ·exact h1
 ·exfalso
  have e:ix T.sT x=default:=by unfold ix;rw[List.getD_eq_getElem?_getD,List.getElem?_eq_none h1];rfl
  have h2:u∈(ix T.sT x).aP:=h
  rw[e] at h2
  cases h2
theorem Ji {T U:SS} {x y z:Nat} (h:Sat off ed T x y) (hs:Sim2 T U y z):Sat off ed U x z:=by
 obtain⟨R,hR,hxy⟩:=h
 have hbis:=sI T U
 have hm:∀{a b c},R a b→Sim2 T U b c→off a∈acc U c:=fun h hS=>by rw[←hbis.acc hS];exact hR.acc h
 refine⟨fun a c=> ∃b,R a b∧Sim2 T U b c,⟨fun⟨b,h,hS⟩=>MM (hm h hS),fun⟨b,h,hS⟩=>hm h hS,fun⟨b,h,hS⟩ e he=> ?_,fun {a c} ⟨b,h,hS⟩ e he=> ?_⟩,y,hxy,hs⟩
 ·rw[←hbis.len hS];exact hR.len h e he
 ·obtain⟨n0,n1⟩:=hR.nxt h e he
  obtain⟨g1,g2⟩:=hbis.nxt hS e.1 (hR.len h e he)
  exact⟨O,_,n1,g2 n0⟩
theorem GI {α:Type} {p q:α→Bool}:∀{l:List α},(∀a∈l,p a=q a)→l.any p=l.any q
 | [],_=>rfl
 |a::l,h=>by rw[List.any_cons,List.any_cons,h a (by simp),GI (fun b hb=>h b (List.mem_cons_of_mem _ hb))]
end BisM6
end
end Go.Proofs.YtcjemmihcplgdaaGreatDoor
