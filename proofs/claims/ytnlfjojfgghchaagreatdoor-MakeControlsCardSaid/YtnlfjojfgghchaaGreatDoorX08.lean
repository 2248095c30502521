/- The walks of the functions and the plain laws. Own texts of this claim, packed: Mkjudg, MkBisM6. -/
import Derived.Test.YtnlfjojfgghchaaGreatDoorX06
import Derived.Test.YtnlfjojfgghchaaGreatDoorX07
set_option linter.all false
namespace Go.Proofs.YtnlfjojfgghchaaGreatDoor
open AL Go
set_option maxRecDepth 100000
section
open ref01 ref03 ref04 ref06 prog prog2 prog3 prog4 prog5 prog6 prog13 prog15 starts search Part Rungs LeftM TrimM RoundM BisM BisM5 WalkM StepM refw
def wA (xs ys:List Int) (k:Nat):Prop:=ys.length=xs.length∧∀m,m<xs.length→ix ys m=if m<k∨xs.length≤m+k then ix xs (xs.length- 1- m) else ix xs m
theorem Oq {xs ys:List Int} {k:Nat} {j:Int} (h:wA xs ys k) (hj:j=(xs.length:Int)- 1- (k:Int)) (hk:(k:Int)<j):wA xs ((ys.set k (ix ys j.toNat)).set j.toNat (ix ys k)) (k+1):=by
 obtain⟨h1,h2⟩:=h
 refine⟨by simp[h1],fun m hm=> ?_⟩
 have e1:ix ys j.toNat=ix xs j.toNat:=by rw[h2 _ O,if_neg O]
 have e2:ix ys k=ix xs k:=by rw[h2 _ O,if_neg O]
 rw[kA (by simp;omega),kA O,e1,e2]
 by_cases g1:m=j.toNat
 ·rw[if_pos g1,if_pos O];congr 1;omega
 ·rw[if_neg g1]
  by_cases g2:m=k
  ·rw[if_pos g2,if_pos O];congr 1;omega
  ·rw[if_neg g2,h2 m hm]
   by_cases g3:m<k∨xs.length≤m+k
   ·rw[if_pos g3,if_pos O]
   ·rw[if_neg g3,if_neg O]
theorem Ot {xs ys:List Int} {k:Nat} {j:Int} (h:wA xs ys k) (hj:j=(xs.length:Int)- 1- (k:Int)) (hk:¬(k:Int)<j):ys=xs.reverse:=by
 obtain⟨h1,h2⟩:=h
 apply List.ext_getElem
 ·simp[h1]
 ·intro m g1 g2
  have hm:m<xs.length:=by omega
  have:=h2 m hm
  rw[aD g1] at this
  rw[this,List.getElem_reverse]
  by_cases g3:m<k∨xs.length≤m+k
  ·rw[if_pos g3,aD O]
  ·rw[if_neg g3,aD hm];congr 1;omega
theorem Vo {q:List Mt} {n:Nat} {j:Int} {out:List Int} {L:List Int} (h:out++upF q n j.toNat=L) (hn:j.toNat<n) (hb:0≤(ix q j.toNat).before):(out++ [(ix q j.toNat).action])++upF q (n- 1) (ix q j.toNat).before.toNat=L:=by
 obtain⟨m,rfl⟩:∃m,n=m+1:=⟨n- 1,O⟩
 rw[upF,if_pos hb] at h
 rw[List.append_assoc];exact h
theorem Sk {q:List Mt} {n:Nat} {j:Int} {out:List Int} {L:List Int} (h:out++upF q n j.toNat=L) (hn:j.toNat<n) (hb:¬0≤(ix q j.toNat).before):out=L:=by
 obtain⟨m,rfl⟩:∃m,n=m+1:=⟨n- 1,O⟩
 rw[upF,if_neg hb,List.append_nil] at h
 exact h
noncomputable def Eu (s t:SS):Int:=if cE s=true∧cE t=true then(if s.aC=t.aC then 0 else 10) else 30
namespace judg
theorem JO (v:Value) (xs:List Int) (hl:xs.length≤1000000000):
 AL.Fn Tryz.prog 148 [osl 5 v] [(5,own v 3 1 nE xs)] (ι:=Unit) (fun _ _=>tup []) (fun _=> [(5,own v 3 1 nE xs.reverse)]):=by
 refine fnI Tryz.func148 rfl rfl (fun w0 F0=> ?_)
 refine sq (rg (mv (lnO J J T.aX (bi J J (kQ i6) (ag (ag (nl (th (bk ?_)))))))))
 have hI0_0:((xs.length:Int)- 1)=(xs.length:Int)- 1- (0:Int)∧wA xs xs 0:=by
  exact⟨O,rfl,fun m hm=>by rw[if_neg O]⟩
 refine lp (κ:=Nat × Int × (List Int)) (fun p=> [(0,osl 5 v),(2,int (p.1:Int)),(3,int p.2.1)]) (fun p=> [(5,own v 3 1 nE p.2.2)]) (fun p=>p.2.1=(xs.length:Int)- 1- (p.1:Int)∧wA xs p.2.2 p.1) (fun p=>xs.length- p.1) ⟨0,(xs.length:Int)- 1,xs⟩ hI0_0 ⟨id,id,id,tV⟩ ⟨rI,tV⟩ ?_
 intro⟨k,j,ys⟩ hG0
 obtain⟨hj,hR⟩:j=(xs.length:Int)- 1- (k:Int)∧wA xs ys k:=hG0
 show Ct _ _ _ _ [(0,osl 5 v),(2,int (k:Int)),(3,int j)] [(5,own v 3 1 nE ys)] _
 refine sq (sq (rg (mv (mv (bi J J aO (nl (th ?_)))))))
 refine cd J (fun hc0=> ?_) (fun hc0=> ?_)
 ·try simp at hc0
  have hyl:=hR.1
  refine sk (th (sq (bk ?_)))
  refine drH (nh:=16) [0,0,0,0,0,0,48,112,0,0,768,1792,4083,8179,16383,32767] [(none,[]),(none,[]),(none,[]),(none,[]),(none,[]),(none,[]),(none,[5]),(none,[5]),(none,[]),(none,[]),(none,[5]),(none,[5]),(none,[5]),(some 5,[5]),(none,[5]),(some 5,[5])] T.mixed kR kR ?_
  refine stv (d:=14) (fun β0=>osl 5 v) [] J bH (fun β0 _ _ _ _ gq gh kq=>mv' (gq.1.trans J) kq) ?_
  refine stv (d:=15) (fun β0=>int (k:Int)) [] J bH (fun β0 _ _ _ _ gq gh kq=>mv' (gq.1.trans J) kq) ?_
  refine stv (d:=16) (fun β0=>osl 5 v) [] J bH (fun β0 _ _ _ _ gq gh kq=>mv' (gq.1.trans J) kq) ?_
  refine stv (d:=17) (fun β0=>int j) [] J bH (fun β0 _ _ _ _ gq gh kq=>mv' (gq.1.trans J) kq) ?_
  refine stv (d:=18) (fun β0=>osl 5 v) [] J bH (fun β0 _ _ _ _ gq gh kq=>mv' (gq.1.trans J) kq) ?_
  refine stv (d:=19) (fun β0=>int j) [] J bH (fun β0 _ _ _ _ gq gh kq=>mv' (gq.1.trans J) kq) ?_
  refine stv (d:=20) (fun β0=>dP 5 v 1 j.toNat 0) [5] J bH (fun β0 _ _ _ _ gq gh kq=>iO (gq.1.trans J) (gh.1.trans J) (gq.2.1.trans J) T.aX O O kq) ?_
  refine stv (d:=21) (fun β0=>int (ix ys j.toNat)) [5] J bH (fun β0 _ _ _ _ gq gh kq=>lO (gq.1.trans J) (gh.1.trans J) (gI O O) J T.aF kq) ?_
  refine stv (d:=22) (fun β0=>osl 5 v) [] J bH (fun β0 _ _ _ _ gq gh kq=>mv' (gq.1.trans J) kq) ?_
  refine stv (d:=23) (fun β0=>int (k:Int)) [] J bH (fun β0 _ _ _ _ gq gh kq=>mv' (gq.1.trans J) kq) ?_
  refine stv (d:=24) (fun β0=>dP 5 v 1 k 0) [5] J bH (fun β0 _ _ _ _ gq gh kq=>iO (gq.1.trans J) (gh.1.trans J) (gq.2.1.trans J) T.aX O O kq) ?_
  refine stv (d:=25) (fun β0=>int (ix ys k)) [5] J bH (fun β0 _ _ _ _ gq gh kq=>lO (gq.1.trans J) (gh.1.trans J) (gN O) J T.aF kq) ?_
  refine stv (d:=26) (fun β0=>dP 5 v 1 k 0) [5] J bH (fun β0 _ _ _ _ gq gh kq=>iO (gq.1.trans J) (gh.1.trans J) (gq.2.1.trans J) T.aX O O kq) ?_
  refine stw 5 (fun β0=>own v 3 1 nE (ys.set k (ix ys j.toNat))) [5] J bH (fun β0 _ _ _ _ gq gh kq=>sO (φ:=int (ix ys j.toNat)) (gq.1.trans J) (gh.1.trans J) (gq.2.1.trans J) T.aF (by first|exact gN O|exact gI O (by simp;omega)) J (y':=(ix ys j.toNat)) J kq) ?_
  refine stv (d:=27) (fun β0=>dP 5 v 1 j.toNat 0) [5] J bH (fun β0 _ _ _ _ gq gh kq=>iO (gq.1.trans J) (gh.1.trans J) (gq.2.1.trans J) T.aX O (by simp;omega) kq) ?_
  refine stw 5 (fun β0=>own v 3 1 nE ((ys.set k (ix ys j.toNat)).set j.toNat (ix ys k))) [5] J bH (fun β0 _ _ _ _ gq gh kq=>sO (φ:=int (ix ys k)) (gq.1.trans J) (gh.1.trans J) (gq.2.1.trans J) T.aF (by first|exact gN O|exact gI O (by simp;omega)) J (y':=(ix ys k)) J kq) ?_
  refine pnH fun β0=>(nl (eb (th (rg (mv (bi J J (aG i6) (mv (bi J J (kQ i6) (ag (ag (nl ?_)))))))))))
  have hN0:(j- 1)=(xs.length:Int)- 1- ((k+1):Int)∧wA xs ((ys.set k (ix ys j.toNat)).set j.toNat (ix ys k)) (k+1):=by
   exact⟨O,Oq hR hj hc0⟩
  exact ln (⟨k+1,j- 1,(ys.set k (ix ys j.toNat)).set j.toNat (ix ys k)⟩:Nat × Int × (List Int)) hN0 dO ⟨id,id,id,tV⟩ ⟨rI,tV⟩
 ·try simp at hc0
  refine ex (xt_ (xt_ (xb ?_)))
  obtain rfl:ys=xs.reverse:=Ot hR hj O
  exact rE () [] J [] trivial J ⟨rI,tV⟩ eX
end judg
end
section
open ref01 ref03 ref04 ref06 Part Rungs LeftM TrimM Itoa Keys RoundM MergeM BisM BisM2 BisM3 BisM4 BisM5 TurnM
namespace BisM6
structure JP (off:Nat→Int) (ed:Nat→List (Nat × Nat)) (t:SS) (R:Nat→Nat→Prop):Prop where
 bd:∀{x y},R x y→y<t.sT.length
 acc:∀{x y},R x y→off x∈BisM.acc t y
 len:∀{x y},R x y→∀e∈ed x,e.1<(nxt t y).length
 nxt:∀{x y},R x y→∀e∈ed x,0≤ix (nxt t y) e.1∧R e.2 (ix (nxt t y) e.1).toNat
def Sat (off:Nat→Int) (ed:Nat→List (Nat × Nat)) (t:SS) (x y:Nat):Prop:=∃R,JP off ed t R∧R x y
def Ev (off:Nat→Int) (ed:Nat→List (Nat × Nat)):Prop:=∀x (a:Nat),has (off x) (a:Int)=true↔∃e∈ed x,e.1=a
variable {off:Nat→Int} {ed:Nat→List (Nat × Nat)}
theorem CG {s:SS} (hs:oK s) (ho:Ev off ed) {R:Nat→Nat→Prop} (hR:JP off ed s R) {x y:Nat} (h:R x y):ix (hOl s) y=false:=by
 have hy:=hR.bd h
 cases hv:ix (hOl s) y with
 |false=>rfl
 |true=>
  exfalso
  refine(jJ hy).1 hv (fun y=> ∀x,¬R x y) (fun y hy hc x hxy=> ?_) x h
  obtain⟨i,hi,e⟩:=pX (hR.acc hxy)
  obtain⟨a,ha,_,hh,hH⟩:=hc i hi
  have e':ix (ix s.sT y).aP i=off x:=e
  rw[e'] at hh
  obtain⟨e,he,rfl⟩:=(ho x a).1 hh
  exact hH _ (hR.nxt hxy e he).2
theorem FD {s:SS} (hs:oK s) (ho:Ev off ed) {R:Nat→Nat→Prop} (hR:JP off ed s R) {x y:Nat} (h:R x y):off x∈keep s y:=by
 rw[kF (CG hs ho hR h),List.mem_filter]
 refine⟨hR.acc h,?_⟩
 rw[Bool.not_eq_true']
 cases hf:eH (ix s.sT y) (off x) (hOl s) with
 |false=>rfl
 |true=>
  obtain⟨a,_,_,hh,hv⟩:=jG.1 hf
  obtain⟨e,he,rfl⟩:=(ho x a).1 hh
  have:=CG hs ho hR (hR.nxt h e he).2
  have hv':ix (hOl s) (ix (nxt s y) e.1).toNat=true:=hv
  rw[this] at hv';cases hv'
theorem nJ {s:SS} (hs:oK s) (ho:Ev off ed) {x y:Nat}:Sat off ed s x y↔Sat off ed (aW s) x y:=by
 constructor
 ·rintro⟨R,hR,h⟩
  refine⟨R,⟨fun h=>by rw[gH];exact hR.bd h,fun h=> ?_,fun {a b} h e he=> ?_,fun {a b} h e he=> ?_⟩,h⟩
  ·rw[iN (hR.bd h)];exact FD hs ho hR h
  ·have hb:=hR.bd h
   rw[hO hs hb]
   have:=hR.len h e he
   have hl:(nxt s b).length=s.aC.length:=(hs.st b hb).len
   omega
  ·have hb:=hR.bd h
   have hl:(nxt s b).length=s.aC.length:=(hs.st b hb).len
   have he1:=hR.len h e he
   have hh:has (aZ (keep s b)) (e.1:Int)=true:=(dE _ _).2 ⟨off a,FD hs ho hR h,(ho a e.1).2 ⟨e,he,rfl⟩⟩
   rw[kW hs hb O,if_pos hh]
   exact hR.nxt h e he
 ·rintro⟨R,hR,h⟩
  have hk:∀{a b},R a b→b<s.sT.length∧off a∈keep s b:=fun {a b} h=>by
   have hb:=hR.bd h
   rw[gH] at hb
   have:=hR.acc h
   rw[iN hb] at this
   exact⟨hb,this⟩
  refine⟨R,⟨fun h=>(hk h).1,fun h=>(List.mem_filter.1 (hk h).2).1,fun {a b} h e he=> ?_,fun {a b} h e he=> ?_⟩,h⟩
  ·obtain⟨hb,_⟩:=hk h
   have:=hR.len h e he
   rw[hO hs hb] at this
   show e.1<(ix s.sT b).next.length
   rw[(hs.st b hb).len];exact this
  ·obtain⟨hb,hm⟩:=hk h
   have hl:=hR.len h e he
   rw[hO hs hb] at hl
   have hh:has (aZ (keep s b)) (e.1:Int)=true:=(dE _ _).2 ⟨off a,hm,(ho a e.1).2 ⟨e,he,rfl⟩⟩
   have:=hR.nxt h e he
   rw[kW hs hb hl,if_pos hh] at this
   exact this
theorem Vp {T:SS} {x:Nat} {u:Int} (h:u∈acc T x):x<T.sT.length:=by
 rcases Nat.lt_or_ge x T.sT.length with h1|h1
 ·exact h1
 ·exfalso
  have e:ix T.sT x=default:=by unfold ix;rw[List.getD_eq_getElem?_getD,List.getElem?_eq_none h1];rfl
  have h2:u∈(ix T.sT x).aP:=h
  rw[e] at h2
  cases h2
theorem rH {T U:SS} {x y z:Nat} (h:Sat off ed T x y) (hs:Sim2 T U y z):Sat off ed U x z:=by
 obtain⟨R,hR,hxy⟩:=h
 have hbis:=CC T U
 have hm:∀{a b c},R a b→Sim2 T U b c→off a∈acc U c:=fun h hS=>by rw[←hbis.acc hS];exact hR.acc h
 refine⟨fun a c=> ∃b,R a b∧Sim2 T U b c,⟨fun⟨b,h,hS⟩=>Vp (hm h hS),fun⟨b,h,hS⟩=>hm h hS,fun⟨b,h,hS⟩ e he=> ?_,fun {a c} ⟨b,h,hS⟩ e he=> ?_⟩,y,hxy,hs⟩
 ·rw[←hbis.len hS];exact hR.len h e he
 ·obtain⟨n0,n1⟩:=hR.nxt h e he
  obtain⟨g1,g2⟩:=hbis.nxt hS e.1 (hR.len h e he)
  exact⟨O,_,n1,g2 n0⟩
theorem FE {α:Type} {p q:α→Bool}:∀{l:List α},(∀a∈l,p a=q a)→l.any p=l.any q
 | [],_=>rfl
 |a::l,h=>by rw[List.any_cons,List.any_cons,h a (by simp),FE (fun b hb=>h b (List.mem_cons_of_mem _ hb))]
end BisM6
end
end Go.Proofs.YtnlfjojfgghchaaGreatDoor
