/- The walks of the functions and the plain laws. Own texts of this claim, packed: Zddivp, Zdprodm, ZdFitM, ZdPartM, ZdCompP, ZdEncM, Zdprodp, Zdsatj, ZdBesM, Zdprodb. -/
import Derived.Test.YtcjemmihcplgdaaGreatDoorX15
import Derived.Test.YtcjemmihcplgdaaGreatDoorX16
import Derived.Test.YtcjemmihcplgdaaGreatDoorX23
import Derived.Test.YtcjemmihcplgdaaGreatDoorX22
import Derived.Test.YtcjemmihcplgdaaGreatDoorX18
import Derived.Test.YtcjemmihcplgdaaGreatDoorX21
import Derived.Test.YtcjemmihcplgdaaGreatDoorX19
import Derived.Test.YtcjemmihcplgdaaGreatDoorX11
import Derived.Test.YtcjemmihcplgdaaGreatDoorX07
import Derived.Test.YtcjemmihcplgdaaGreatDoorX13
set_option linter.all false
namespace Go.Proofs.YtcjemmihcplgdaaGreatDoor
open AL Go
set_option maxRecDepth 100000
section
open ref01 ref03 ref04 ref06 prog prog2 prog3 prog6 Part Rungs LeftM QuoM
namespace divp
end divp
end
section
open ref01 ref03 ref04 ref06 prog prog2 prog3 prog4 prog5 prog6 prog7 prog8 prog9 prog13 starts Part Rungs LeftM TrimM Itoa Keys RoundM MergeM BisM BisM4 BisM5 WalkM StepM WitM JudgM JudgM2 refw judg wit refj sysw divr divs divd dive divg divw divv LevM LevM2 ChsM TrimI QuoM FailM DivM RefM GenW CompM CrossM prodc divp
theorem or_bdC {l:List Int} (h:∀u∈l,0≤u∧u<256):0≤orAll l∧orAll l<256:=by
 revert h
 refine snoc_ind (p:=fun l=>(∀u∈l,0≤u∧u<256)→0≤orAll l∧orAll l<256) ?_ (fun l a ih=> ?_) l
 ·intro _;exact⟨by decide,by decide⟩
 ·intro h
  rw[orAll_snoc]
  have h1:=ih fun u hu=>h u (List.mem_append_left _ hu)
  have h2:=h a (by simp)
  exact⟨O,or_lt256 h1.2 h2.2⟩
namespace T
theorem ent81:Ent Tryz.prog 81:=ent_of kR
end T
namespace prodm
theorem Put_ok (l:List Int) (hr:l.Pairwise (· < ·)) (x:Int) (hl:l.length≤1000000):
 Fn0 Tryz.prog 81 [ints l,int x] (ints (putS l x)):=by
 refine fnI Tryz.func81 rfl rfl (fun w0 F0=> ?_)
 refine fcC (slenI 0 J) (fun hm0=> ?_)
 refine sq (rg (ag (nl (th (sq (rg (ag (nl (th (sq (bk ?_)))))))))))
 have hI0_0:0≤l.length∧∀j,j<0→ix l j<x:=by
  exact⟨O,fun j hj=>by omega⟩
 refine lp (κ:=Nat) (fun p=> [(0,sl 1 nE l),(1,int x),(4,eqv (.slice none 0 0)),(5,int (p:Int))]) (fun p=> []) (fun p=>p≤l.length∧∀j,j<p→ix l j<x) (fun p=>l.length- p) 0 hI0_0 ⟨id,id,id,id,tV⟩ trivial ?_
 intro i hG0
 obtain⟨hil,hlt⟩:i≤l.length∧∀j,j<i→ix l j<x:=hG0
 refine sq (sq (rg (mv (mv (lnF J T.sl36 (bi J J b_lss (mv ?_)))))))
 apply gAnd (t:=10) (pd:=17) rfl
 rotate_left
 ·intro hg0 fin
  have hg0':=hg0
  try simp at hg0'
  exact gy J J J hg0 (mv (gy J J J hg0 (mv (gy J J J hg0 (iF J J T.sl36 O gB (gy J J J hg0 (lF J J T.one3 (gy J J J hg0 (mv (gy J J J hg0 (bi J J b_lss (pkT J hg0 J (drp (X:= [(16,_),(15,_),(14,_),(13,_),(12,_),(11,_)]) ⟨J,J,J,J,J,J,tV⟩ fin)))))))))))))
 ·intro hg0 fin
  exact gn J J J hg0 J J (gn J J J hg0 J J (gn J J J hg0 J J (gn J J J hg0 J J (gn J J J hg0 J J (gn J J J hg0 J J (pkF J hg0 J (drp (X:= [(16,_),(15,_),(14,_),(13,_),(12,_),(11,_)]) ⟨J,J,J,J,J,J,tV⟩ fin)))))))
 refine nl (th ?_)
 refine cd J (fun hc0=> ?_) (fun hc0=> ?_)
 ·try simp at hc0
  refine sk (th (bk (rg (mv (bi J J (b_add i6) (ag (nl (eb ?_))))))))
  have hN0:(i+1)≤l.length∧∀j,j<(i+1)→ix l j<x:=by
   refine⟨O,fun j hj=> ?_⟩
   by_cases e:j=i
   ·subst e;exact hc0.2
   ·exact hlt j O
  exact ln (i+1) hN0 dO ⟨id,id,id,id,tV⟩ trivial
 ·try simp at hc0
  refine ex (xt_ (xt_ (xb (th (sq (sq (rg (mv (mv (lnF J T.sl36 (bi J J b_lss (mv ?_))))))))))))
  apply gAnd (t:=24) (pd:=31) rfl
  rotate_left
  ·intro hg1 fin
   have hg1':=hg1
   try simp at hg1'
   exact gy J J J hg1 (mv (gy J J J hg1 (mv (gy J J J hg1 (iF J J T.sl36 O gB (gy J J J hg1 (lF J J T.one3 (gy J J J hg1 (mv (gy J J J hg1 (bi J J b_eql (pkT J hg1 J (drp (X:= [(30,_),(29,_),(28,_),(27,_),(26,_),(25,_)]) ⟨J,J,J,J,J,J,tV⟩ fin)))))))))))))
  ·intro hg1 fin
   exact gn J J J hg1 J J (gn J J J hg1 J J (gn J J J hg1 J J (gn J J J hg1 J J (gn J J J hg1 J J (gn J J J hg1 J J (pkF J hg1 J (drp (X:= [(30,_),(29,_),(28,_),(27,_),(26,_),(25,_)]) ⟨J,J,J,J,J,J,tV⟩ fin)))))))
  refine nl (th ?_)
  refine cd J (fun hc1=> ?_) (fun hc1=> ?_)
  ·try simp at hc1
   refine sq (rg (mv (ag (nl (th (rt (rt_ ?_)))))))
   have hr0:l=(putS l x):=by
    exact(put_old hc1.1 hc1.2).symm
   exact rE () [.tmp 4] J [sl 1 nE l] ⟨.tmp J,tV⟩ (cA1 (fun x0=>rV [sl 1 nE x0]) hr0) trivial eX
  ·try simp at hc1
   have htk:(l.take i).length≤1000000:=by rw[List.length_take];omega
   have htl:=put_tail hr (x:=x) (k:=i) (fun h=>by have h1:=hc0 h;have h2:=hc1 h;omega)
   refine sk (th (sq ?_))
   refine drH (nh:=12) [0,0,3,7,0,16,63,0,0,384,1023,2047] [(none,[]),(none,[]),(none,[]),(some 360,[]),(none,[]),(none,[]),(some 360,[360]),(none,[]),(none,[]),(none,[]),(some 360,[360]),(none,[])] T.mixed kR kR ?_
   refine stv (d:=33) (fun β0=>sl 1 nE l) [] J (fun β β' hb=>J) (fun β0 _ _ _ _ gq gh kq=>mv' (gq.1.trans J) kq) ?_
   refine stv (d:=34) (fun β0=>int (i:Int)) [] J (fun β β' hb=>J) (fun β0 _ _ _ _ gq gh kq=>mv' (gq.1.trans J) kq) ?_
   refine stv (d:=35) (fun β0=>sl 1 nE (l.take i)) [] J (fun β β' hb=>J) (fun β0 _ _ _ _ gq gh kq=>sliceF (l:=0) (m:=i) (gq.1.trans J) T.sl36 J (gq.2.1.trans J) O O kq) ?_
   refine stc (d:=36) (e:=3) (n:=1) (enc:=nE) (xs:=l.take i) 360 [] rfl (fun β0 _ _ _ _ gq gh kq=>apO 360 (gq.1.trans rfl) rfl T.mk36 (by unfold maxL at*;omega) (by unfold maxL at*;omega) fun v=>kq v) ?_
   refine stv (d:=37) (fun β0=>int x) [] J (fun β β' hb=>J) (fun β0 _ _ _ _ gq gh kq=>mv' (gq.1.trans J) kq) ?_
   refine stv (d:=38) (fun β0=>sl 1 nE [x]) [] J (fun β β' hb=>J) (fun β0 _ _ _ _ gq gh kq=>bsE (enc:=nE) (xs:= [x]) (css:= [[int x]]) T.mk36 ⟨J,J,p1 (φ:=int x) (by exact(gq.1.trans J)),tV⟩ J J J J kq) ?_
   refine stc (d:=39) (e:=3) (n:=1) (enc:=nE) (xs:=(l.take i)++ [x]) 360 [360] rfl (fun β0 _ _ _ _ gq gh kq=>ap (key:=360) (zs:= [x]) (fun h=>osl_of (gq.1.trans rfl) h) (gh.1.trans rfl) (gq.2.1.trans rfl) rfl T.mk36 (by unfold maxL at*;simp;omega) (by unfold maxL at*;simp;omega) fun v=>kq v) ?_
   refine stv (d:=40) (fun β0=>sl 1 nE l) [] J (fun β β' hb=>J) (fun β0 _ _ _ _ gq gh kq=>mv' (gq.1.trans J) kq) ?_
   refine stv (d:=41) (fun β0=>int (i:Int)) [] J (fun β β' hb=>J) (fun β0 _ _ _ _ gq gh kq=>mv' (gq.1.trans J) kq) ?_
   refine stv (d:=42) (fun β0=>sl 1 nE ((l.take l.length).drop i)) [] J (fun β β' hb=>J) (fun β0 _ _ _ _ gq gh kq=>sliceF (l:=i) (m:=l.length) (gq.1.trans J) T.sl36 (gq.2.1.trans J) J O O kq) ?_
   refine stc (d:=43) (e:=3) (n:=1) (enc:=nE) (xs:=((l.take i)++ [x])++((l.take l.length).drop i)) 360 [360] rfl (fun β0 _ _ _ _ gq gh kq=>ap (key:=360) (zs:=(l.take l.length).drop i) (fun h=>osl_of (gq.1.trans rfl) h) (gh.1.trans rfl) (gq.2.1.trans rfl) rfl T.mk36 (by unfold maxL at*;simp;omega) (by unfold maxL at*;simp;omega) fun v=>kq v) ?_
   refine stv (d:=4) (fun β0=>osl 360 (sv (β0 10))) [] J (fun β β' hb=>by first|rw[hb 10 J]|(dsimp only;rw[hb 10 J])) (fun β0 _ _ _ _ gq gh kq=>ag' (gq.1.trans J) kq) ?_
   refine pnH fun β0=>(nl (th (rt ?_)))
   refine fzA 360 4 rfl rfl ?_
   have hr0:(((l.take i)++ [x])++((l.take l.length).drop i))=(putS l x):=by
    rw[put_new hr hil hlt htl,List.take_length]
   exact rE () [.tmp 4] J [sl 1 nE (((l.take i)++ [x])++((l.take l.length).drop i))] ⟨.tmp J,tV⟩ (cA1 (fun x0=>rV [sl 1 nE x0]) hr0) trivial eX
theorem bothR_ok (a b:List Int) (ha:∀k,k<a.length→0≤ix a k∧ix a k<256) (hb:∀k,k<b.length→0≤ix b k∧ix b k<256) (hal:a.length≤256) (hbl:b.length≤256):
 Fn0 Tryz.prog 57 [ints a,ints b] (ints (crossL a b)):=by
 refine fnI Tryz.func57 rfl rfl (fun w0 F0=> ?_)
 refine fcC (slenI 0 J) (fun hm0=> ?_)
 refine fcC (slenI 1 J) (fun hm1=> ?_)
 refine sq (rg (ag (nl (th (sq (rg (ag (kn 5 (sl 1 nE []) J slnil (nl (th (sq (sq (rg (mv (lnF J T.sl36 (mv (nl (th (bk ?_)))))))))))))))))))
 have hI0_0:0≤a.length:=by
  first|omega|simp
 have hI0_1:BothI a b 0 0 ([]:List Int):=by
  exact both_zero a b
 refine lp (κ:=Nat × (List Int)) (fun p=> [(1,sl 1 nE b),(4,eqv (.slice none 0 0)),(5,sl 1 nE p.2),(10,sl 1 nE a),(11,int (a.length:Int)),(12,int (p.1:Int))]) (fun p=> []) (fun p=>(p.1≤a.length)∧(BothI a b p.1 0 p.2)) (fun p=>a.length- p.1) ⟨0,([]:List Int)⟩ ⟨hI0_0,hI0_1⟩ ⟨id,id,id,id,id,id,tV⟩ trivial ?_
 intro⟨k,out⟩ hG0
 obtain⟨hk0,hI0⟩:(k≤a.length)∧(BothI a b k 0 out):=hG0
 show Ct _ _ _ _ [(1,sl 1 nE b),(4,eqv (.slice none 0 0)),(5,sl 1 nE out),(10,sl 1 nE a),(11,int (a.length:Int)),(12,int (k:Int))] [] _
 refine sq (rg (bi J J b_lss (nl (th (sq ?_)))))
 refine cd J (fun hc0=> ?_) (fun hc0=> ?_)
 ·try simp at hc0
  have hak:=ha k O
  refine sk (th (sq (bk (sq (rg (iF J J T.sl36 O gB (lF J J T.one3 (ag (nl (th (sq (rg (mv (lnF J T.sl36 (mv (nl (th (bk ?_))))))))))))))))))
  have hI1_0:0≤b.length:=by
   first|omega|simp
  have hI1_1:BothI a b k 0 out:=by
   exact hI0
  refine lp (κ:=Nat × (List Int)) (fun p=> [(1,sl 1 nE b),(4,eqv (.slice none 0 0)),(5,sl 1 nE p.2),(7,int (ix a k)),(10,sl 1 nE a),(11,int (a.length:Int)),(12,int (k:Int)),(16,sl 1 nE b),(17,int (b.length:Int)),(18,int (p.1:Int))]) (fun p=> []) (fun p=>(p.1≤b.length)∧(BothI a b k p.1 p.2)) (fun p=>b.length- p.1) ⟨0,out⟩ ⟨hI1_0,hI1_1⟩ ⟨id,id,id,id,id,id,id,id,id,id,tV⟩ trivial ?_
  intro⟨k1,ou2⟩ hG1
  obtain⟨hk1,hI1⟩:(k1≤b.length)∧(BothI a b k k1 ou2):=hG1
  show Ct _ _ _ _ [(1,sl 1 nE b),(4,eqv (.slice none 0 0)),(5,sl 1 nE ou2),(7,int (ix a k)),(10,sl 1 nE a),(11,int (a.length:Int)),(12,int (k:Int)),(16,sl 1 nE b),(17,int (b.length:Int)),(18,int (k1:Int))] [] _
  refine sq (rg (bi J J b_lss (nl (th (sq ?_)))))
  refine cd J (fun hc1=> ?_) (fun hc1=> ?_)
  ·try simp at hc1
   have hbk:=hb k1 O
   have hrs:=hI1.rise
   have hol:=rise_len hrs (both_bd hI1 (all_bd ha) O (fun _=>by omega))
   refine sk (th (sq (bk (sq (rg (iF J J T.sl36 O gB (lF J J T.one3 (ag (nl (th (rg (mv (mv (mv (bi J J (b_andI O O O O) (cal0 (φs:= [sl 1 nE ou2,int (((ix a k).toNat&&&(ix b k1).toNat:Nat):Int)]) (φ:=sl 1 nE (putS ou2 (((ix a k).toNat&&&(ix b k1).toNat:Nat):Int))) ⟨J,J,tV⟩ (prodm.Put_ok ou2 aS (((ix a k).toNat&&&(ix b k1).toNat:Nat):Int) O) T.ent81 (ag (nl (eb (th (rg (bi J J (b_add i6) (mv (nl ?_))))))))))))))))))))))))
   have hN0:(k1+1)≤b.length:=by
    first|omega|simp_all
   have hN1:BothI a b k (k1+1) (putS ou2 (((ix a k).toNat&&&(ix b k1).toNat:Nat):Int)):=by
    exact both_step hI1
   exact ln (⟨k1+1,putS ou2 (((ix a k).toNat&&&(ix b k1).toNat:Nat):Int)⟩:Nat × (List Int)) ⟨hN0,hN1⟩ dO ⟨id,id,id,id,id,id,id,id,id,id,tV⟩ trivial
  ·try simp at hc1
   refine ex (xt_ (xt_ (xb (eb (th (rg (bi J J (b_add i6) (mv (nl ?_)))))))))
   have hN0:(k+1)≤a.length:=by
    first|omega|simp_all
   have hN1:BothI a b (k+1) 0 ou2:=by
    rw[show k1=b.length by omega] at hI1
    exact both_next hI1
   exact ln (⟨k+1,ou2⟩:Nat × (List Int)) ⟨hN0,hN1⟩ dO ⟨id,id,id,id,id,id,tV⟩ trivial
 ·try simp at hc0
  refine ex (xt_ (xt_ (xb (th (sq (rg (mv (ag (nl (th (rt ?_)))))))))))
  have hr0:out=(crossL a b):=by
   rw[show k=a.length by omega] at hI0
   exact both_done hI0 (all_bd ha)
  exact rE () [.tmp 4] J [sl 1 nE out] ⟨.tmp J,tV⟩ (cA1 (fun x0=>rV [sl 1 nE x0]) hr0) trivial eX
theorem union_ok (l:List Int) (hl:∀u∈l,0≤u∧u<256):
 Fn0 Tryz.prog 58 [ints l] (int (orAll l)):=by
 refine fnI Tryz.func58 rfl rfl (fun w0 F0=> ?_)
 refine fcC (slenI 0 J) (fun hm0=> ?_)
 refine sq (rg (ag (nl (th (sq (rg (ag (nl (th (sq (sq (rg (mv (lnF J T.sl36 (mv (nl (th (bk ?_))))))))))))))))))
 have hI0_0:0≤l.length:=by
  first|omega|simp
 have hI0_1:(0:Int)=orAll (l.take 0)∧0≤(0:Int)∧(0:Int)<256:=by
  exact⟨rfl,O,O⟩
 refine lp (κ:=Nat × Int) (fun p=> [(2,int 0),(3,int p.2),(6,sl 1 nE l),(7,int (l.length:Int)),(8,int (p.1:Int))]) (fun p=> []) (fun p=>(p.1≤l.length)∧(p.2=orAll (l.take p.1)∧0≤p.2∧p.2<256)) (fun p=>l.length- p.1) ⟨0,(0:Int)⟩ ⟨hI0_0,hI0_1⟩ ⟨id,id,id,id,id,tV⟩ trivial ?_
 intro⟨k,u⟩ hG0
 obtain⟨hk0,hI0⟩:(k≤l.length)∧(u=orAll (l.take k)∧0≤u∧u<256):=hG0
 show Ct _ _ _ _ [(2,int 0),(3,int u),(6,sl 1 nE l),(7,int (l.length:Int)),(8,int (k:Int))] [] _
 refine sq (rg (bi J J b_lss (nl (th (sq ?_)))))
 refine cd J (fun hc0=> ?_) (fun hc0=> ?_)
 ·try simp at hc0
  have hkb:=hl _ (ix_memS (l:=l) (i:=k) O)
  refine sk (th (sq (bk (sq (rg (iF J J T.sl36 O gB (lF J J T.one3 (ag (nl (th (rg (mv (mv (bi J J (b_orI O O O O) (ag (nl (eb (th (rg (bi J J (b_add i6) (mv (nl ?_))))))))))))))))))))))
  have hN0:(k+1)≤l.length:=by
   first|omega|simp_all
  have hN1:((u.toNat|||(ix l k).toNat:Nat):Int)=orAll (l.take (k+1))∧0≤((u.toNat|||(ix l k).toNat:Nat):Int)∧((u.toNat|||(ix l k).toNat:Nat):Int)<256:=by
   refine⟨?_,O,or_lt256 hI0.2.2 hkb.2⟩
   rw[take_s O,orAll_snoc,←hI0.1]
  exact ln (⟨k+1,((u.toNat|||(ix l k).toNat:Nat):Int)⟩:Nat × Int) ⟨hN0,hN1⟩ dO ⟨id,id,id,id,id,tV⟩ trivial
 ·try simp at hc0
  refine ex (xt_ (xt_ (xb (th (sq (rg (mv (ag (nl (th (rt ?_)))))))))))
  have hr0:(u:Int)=(orAll l):=by
   rw[hI0.1,show k=l.length by omega,List.take_length]
  exact rE () [.tmp 2] J [int u] ⟨.tmp J,tV⟩ (cA1 (fun x0=>rV [int x0]) hr0) trivial eX
end prodm
end
section
namespace FitM
open ref01 ref03 ref04 ref06 prog15 starts Part Rungs LeftM TrimM RoundM MergeM BisM BisM4 BisM5 BisM6 WalkM StepM WitM JudgM LevM LevM2 divr divs divd dive divg divw divv refj sysw ChsM BisS TrimI ValidM WitSat WitVal QuoM FailM DivM
structure JdgOK (x:SSys) (t s:SS) (v:Bool × SSys):Prop where
 yes:v.1=true→v.2=⟨[],[]⟩∧(ix (hOl s) 0=true∨Well3 x t (tR s).1)
 no:v.1=false→ix (hOl s) 0=false∧∃q i u,QF x t (tS s) q∧i<q.length∧u∈acc (tS s) (ix q i).s.toNat∧andI (offM x (ix q i).x.toNat) u∉acc t (ix q i).t.toNat∧WitOK (tS s) (pathL (tS s) (wordF q i) u) v.2
def BadT (m n:SSys) (t:SS) (p:T3):Prop:=andI (offM m p.1.toNat) (offM n p.2.1.toNat)∉acc t p.2.2.toNat
inductive RchT (m n:SSys) (t:SS):T3→Prop
 |zero:RchT m n t (0,0,0)
 |step {p:T3} {d e:PP}:RchT m n t p→¬BadT m n t p→d∈edg m p.1.toNat→e∈edg n p.2.1.toNat→d.1=e.1→RchT m n t (d.2,e.2,ix (nxt t p.2.2.toNat) d.1.toNat)
section
variable {x:SSys} {t T:SS} {q:List M5} {i:Nat} {u:Int} {m:SSys}
theorem want_zero (T:SS) (w:List Int) (u:Int):(firstW T (pathL T w u)).1=0:=by
 unfold firstW
 rw[if_pos (by rw[pathL_len];omega)]
 rcases Nat.eq_zero_or_pos w.length with e|e
 ·have h:=pathL_end (T:=T) (w:=w) (u:=u)
  rw[e] at h
  rw[h];exact xAt_zero T w
 ·rw[pathL_at e]
  show xAt T w 0=0
  exact xAt_zero T w
end
end FitM
end
section
namespace PartM
open ref01 ref03 ref04 ref06 prog15 starts Part Rungs LeftM TrimM RoundM MergeM BisM BisM4 BisM5 BisM6 WalkM StepM WitM JudgM JudgM2 divr divs divd dive divg divw divv refj sysw ChsM BisS TrimI ValidM WitSat WitVal FailM FitM
open QuoM (subs qA qN bes)
theorem path_in {T:SS} {w:List Int} {u:Int} {p:PP} (h:p∈pathL T w u):(p.2=u)∨∃j,j<w.length∧p.2=leadI (ix T.sT p.1.toNat) (ix w j):=by
 unfold pathL at h
 rcases List.mem_append.1 h with g|g
 ·obtain⟨j,hj,rfl⟩:=List.mem_map.1 g
  exact .inr ⟨j,List.mem_range.1 hj,rfl⟩
 ·rw[List.mem_singleton.1 g];exact .inl rfl
theorem sat_trim {m:SSys} {s:SS} (hs:oK s) (h:SatM m (tR s).1):SatM m s:=by
 unfold SatM at h ⊢
 rw[sat_solid (trim_ok hs) (off_ok m)] at h
 rw[sat_solid hs (off_ok m)]
 exact sat_sim h (sim_trim hs)
end PartM
end
section
namespace CompP
open ref01 ref03 ref04 ref06 prog15 starts Part Rungs LeftM TrimM RoundM MergeM BisM BisM4 BisM5 BisM6 WalkM StepM WitM JudgM JudgM2 divr divs divd dive divg divw divv refj sysw ChsM BisS TrimI ValidM WitSat WitVal FailM FitM PartM QuoM DivM RefM GenW CompM judg
open LevM (Used)
theorem runs_go {T:SS} (hT:oK T) (hU:Used T):∀(w:List Int),(∀k,k<w.length→0≤ix w k∧ix w k<(T.aC.length:Int))→0≤goS T w→Runs T w (goS T w).toNat:=by
 intro w
 refine snoc_ind (p:=fun w=>(∀k,k<w.length→0≤ix w k∧ix w k<(T.aC.length:Int))→0≤goS T w→Runs T w (goS T w).toNat) ?_ (fun w a ih=> ?_) w
 ·intro _ _;exact .nil
 ·intro hw h0
  rw[goS_snoc] at h0 ⊢
  have hx0:0≤goS T w:=by
   refine Classical.byContradiction fun hn=> ?_
   unfold stepS at h0
   rw[if_pos O] at h0
   omega
  have ha:=hw w.length (by simp)
  rw[show ix (w++ [a]) w.length=a from ixI_last] at ha
  have hr:=ih (fun k hk=>by have:=hw k (by simp;omega);rwa [ixI_left hk] at this) hx0
  have hlt:=hr.lt hT
  obtain⟨b,rfl⟩:∃b:Nat,a=(b:Int):=⟨a.toNat,O⟩
  rw[stepS_nat hx0] at h0 ⊢
  exact .snoc hr ((hU _ hlt b O).1 h0)
theorem not_hol {D:SS} (hne:∀x,x<D.sT.length→0<(acc D x).length) {x:Nat} (hx:x<D.sT.length):ix (hOl D) x=false:=by
 cases e:ix (hOl D) x with
 |false=>rfl
 |true=>
  have hH:=(hollow_ix hx).1 e
  exfalso
  refine hH (fun _=>False) (fun y hy hc=> ?_)
  obtain⟨_,_,_,_,h⟩:=hc 0 (hne y hy)
  exact h
theorem keep_all {D:SS} (hD:oK D) (hne:∀x,x<D.sT.length→0<(acc D x).length) {x:Nat} (hx:x<D.sT.length):keep D x=acc D x:=by
 rw[keep_filter (not_hol hne hx)]
 refine List.filter_eq_self.2 fun u hu=> ?_
 rw[Bool.not_eq_true']
 cases hf:falls (ix D.sT x) u (hOl D) with
 |false=>rfl
 |true=>
  obtain⟨a,ha,h0,_,hv⟩:=falls_iff.1 hf
  have hb:=((hD.st x hx).nx a (by have:=(hD.st x hx).len;omega)).2
  rw[not_hol hne O] at hv;cases hv
section
variable {S T:SS}
inductive RunsC (S T:SS):List Int→PP→Prop
 |nil:RunsC S T [] (0,0)
 |snoc {w:List Int} {p:PP} {a:Nat}:RunsC S T w p→has (orAll (cA S T p)) (a:Int)=true→RunsC S T (w++ [(a:Int)]) (cN S T p a)
end
def Both2 (s t:SS) (w:List Int) (u:Int):Prop:=¬hol2 s t∧0≤goS (tR s).1 w∧0≤goS (tR t).1 w∧∃x∈acc (tR s).1 (goS (tR s).1 w).toNat,∃y∈acc (tR t).1 (goS (tR t).1 w).toNat,andI x y=u
theorem ne_trim {s:SS} (hs:oK s) (h0:ix (hOl s) 0=false):∀x,x<(tR s).1.sT.length→0<(acc (tR s).1 x).length:=by
 rw[trimmed_not h0]
 exact fun x hx=>tS_ne hs h0 hx
theorem not_hol2 {s t:SS} (h:¬hol2 s t):ix (hOl s) 0=false∧ix (hOl t) 0=false:=by
 unfold hol2 at h
 constructor
 ·cases e:ix (hOl s) 0 with
  |false=>rfl
  |true=>exact absurd (.inl e) h
 ·cases e:ix (hOl t) 0 with
  |false=>rfl
  |true=>exact absurd (.inr e) h
def nextM (m:SSys) (l:List Int) (a:Int):List Int:=((List.range m.sT.length).filter fun(x:Nat)=>l.any fun y=>(edg m y.toNat).any fun e=>decide (e.1=a)&&decide (e.2=(x:Int))).map fun(x:Nat)=>(x:Int)
def afterM (m:SSys) (w:List Int):List Int:=w.foldl (nextM m) [0]
theorem afterM_snoc (m:SSys) (w:List Int) (a:Int):afterM m (w++ [a])=nextM m (afterM m w) a:=by unfold afterM;rw[List.foldl_append];rfl
theorem next_mem {m:SSys} {l:List Int} {a:Int} {x:Int}:x∈nextM m l a↔∃k:Nat,x=(k:Int)∧k<m.sT.length∧∃y∈l,∃e∈edg m y.toNat,e.1=a∧e.2=(k:Int):=by
 unfold nextM
 rw[List.mem_map]
 constructor
 ·rintro⟨k,hk,rfl⟩
  obtain⟨h1,h2⟩:=List.mem_filter.1 hk
  obtain⟨y,hy,h3⟩:=List.any_eq_true.1 h2
  obtain⟨e,he,h4⟩:=List.any_eq_true.1 h3
  simp only [Bool.and_eq_true,decide_eq_true_eq] at h4
  exact⟨k,rfl,List.mem_range.1 h1,y,hy,e,he,h4.1,h4.2⟩
 ·rintro⟨k,rfl,hk,y,hy,e,he,h1,h2⟩
  exact⟨k,List.mem_filter.2 ⟨List.mem_range.2 hk,List.any_eq_true.2 ⟨y,hy,List.any_eq_true.2 ⟨e,he,by simp[h1,h2]⟩⟩⟩,rfl⟩
theorem after_bd {m:SSys} (hm:0<m.sT.length) (w:List Int):∀x∈afterM m w,0≤x∧x<(m.sT.length:Int):=by
 refine snoc_ind (p:=fun w=> ∀x∈afterM m w,0≤x∧x<(m.sT.length:Int)) ?_ (fun w a ih=> ?_) w
 ·intro x hx
  rw[List.mem_singleton.1 (show x∈[(0:Int)] from hx)];omega
 ·intro x hx
  rw[afterM_snoc] at hx
  obtain⟨k,rfl,hk,_⟩:=next_mem.1 hx
  omega
theorem wit_after {T:SS} (hT:oK T) {w:List Int} {u:Int} (hal:Alive T w) (hu:u∈acc T (goS T w).toNat) (hw:Wants T (pathL T w u)) {m:SSys} (hm:WitOK T (pathL T w u) m):∃x∈afterM m w,offM m x.toNat=u:=by
 obtain⟨ss,q,mm,hs,h,_⟩:=hm
 have hml:=m_len h
 have hpl:=pathL_len T w u
 have hmem:=pathL_mem hT hal hu
 have h1:∀j,j≤w.length→(ix (pathL T w u) j).1=xAt T w j:=fun j hj=>by
  by_cases e:j<w.length
  ·rw[pathL_at e];rfl
  ·have:j=w.length:=by omega
   subst this;rw[pathL_end]
 have hinS:∀j,j≤w.length→(ix (pathL T w u) j).2∈ix ss (ix (pathL T w u) j).1.toNat:=fun j hj=>by
  have hb:=hmem _ (ix_memS (l:=pathL T w u) (i:=j) O)
  refine(hs.mem _ O _).2 (.inr ?_)
  have e:(((ix (pathL T w u) j).1.toNat:Nat):Int)=(ix (pathL T w u) j).1:=by omega
  rw[e];exact ix_memS O
 have key:∀j,j≤w.length→ix (pathL T w u) j∈q∧((q.idxOf (ix (pathL T w u) j):Nat):Int)∈afterM m (w.take j):=by
  intro j
  induction j with
  |zero=>
   intro _
   have e2:ix q 0=ix (pathL T w u) 0:=by
    rw[h.wq.hd]
    unfold firstW
    rw[if_pos O]
   have hin:ix q 0∈q:=ix_memS h.wq.ne
   rw[←e2]
   refine⟨hin,?_⟩
   have g1:=List.idxOf_lt_length_of_mem hin
   have g2:q.idxOf (ix q 0)=0:=by
    have g3:q[q.idxOf (ix q 0)]=q[0]'h.wq.ne:=by rw[List.getElem_idxOf,ix_get h.wq.ne]
    exact(List.getElem_inj h.wq.nd).1 g3
   rw[g2]
   exact List.mem_singleton.2 rfl
  |succ j ih=>
   intro hj
   have hjl:j<w.length:=by omega
   obtain⟨hin,haf⟩:=ih O
   have hi:=List.idxOf_lt_length_of_mem hin
   have hat:ix q (q.idxOf (ix (pathL T w u) j))=ix (pathL T w u) j:=by rw[ix_get hi];exact List.getElem_idxOf hi
   obtain⟨x0,x1,a,ea,hha⟩:=hal j hjl
   have hlb:leadB (ix T.sT (xAt T w j).toNat) (a:Int)=true:=leadB_of hha
   have e1:ix (pathL T w u) j=(xAt T w j,leadI (ix T.sT (xAt T w j).toNat) (a:Int)):=by rw[pathL_at hjl];unfold StepM.stepL;rw[ea]
   have h2:has (ix (pathL T w u) j).2 (a:Int)=true:=by rw[e1];exact(lead_ix hlb).2.2
   have hax:a<8:=by have:=or_go hT O hha;have:=hT.n8;omega
   have htg:tgt T (ix (pathL T w u) j) (a:Int)=(ix (pathL T w u) (j+1)).1:=by
    rw[h1 (j+1) hj,xAt_succ hjl,ea,stepS_nat x0,e1];rfl
   have hS:=hinS (j+1) hj
   have hnx:ix (pathL T w u) (j+1)∈q:=by
    have:=h.dn _ hi (a:Int) (by rw[hat];exact listOf_mem.2 ⟨a,rfl,O,h2⟩) (ix (pathL T w u) (j+1)).2 (by rw[hat,htg];exact hS)
    rw[hat,htg] at this
    exact this
   have hi2:=List.idxOf_lt_length_of_mem hnx
   refine⟨hnx,?_⟩
   rw[take_s hjl,afterM_snoc]
   refine next_mem.2 ⟨_,rfl,O,_,haf,((a:Int),((q.idxOf (ix (pathL T w u) (j+1)):Nat):Int)),?_,ea.symm,rfl⟩
   rw[Int.toNat_natCast]
   refine(edge_mem h hi).2 ⟨a,rfl,O,by rw[hat];exact h2,(ix (pathL T w u) (j+1)).2,by rw[hat,htg];exact hS,?_⟩
   rw[hat,htg]
 obtain⟨hin,haf⟩:=key w.length (Nat.le_refl _)
 have hi:=List.idxOf_lt_length_of_mem hin
 have hat:ix q (q.idxOf (ix (pathL T w u) w.length))=ix (pathL T w u) w.length:=by rw[ix_get hi];exact List.getElem_idxOf hi
 rw[List.take_length] at haf
 refine⟨_,haf,?_⟩
 rw[Int.toNat_natCast,off_eq hT hw hs h hi,hat,pathL_end]
theorem path_made {s:SS} (hs:oK s) (hl:s.sT.length≤500) (h0:ix (hOl s) 0=false) {w:List Int} (hw:∀k,k<w.length→0≤ix w k∧ix w k<(s.aC.length:Int)) (hwl:w.length≤1000000000) (hg:0≤goS (tR s).1 w) {u:Int} (hu:u∈acc (tR s).1 (goS (tR s).1 w).toNat) {m:SSys} (hm:WitOK (tR s).1 (pathL (tR s).1 w u) m):
 madeB m s=true∧∃x∈afterM m w,offM m x.toNat=u:=by
 have ets:(tR s).1=tS s:=by rw[trimmed_not h0]
 have hT:oK (tR s).1:=trim_ok hs
 have hU:Used (tR s).1:=trim_used hs
 have hne:=ne_trim hs h0
 have htl:=trim_len hs
 have hwT:∀k,k<w.length→0≤ix w k∧ix w k<((tR s).1.aC.length:Int):=fun k hk=>by rw[trim_acts];exact hw k hk
 have hal:=(runs_go hT hU w hwT hg).alive hT
 have hW:Wants (tR s).1 (pathL (tR s).1 w u):=⟨pathL_mem hT hal hu,hne,by rw[pathL_len];omega⟩
 refine⟨?_,wit_after hT hal hu hW hm⟩
 have hsat:=sat_trim hs (wit_sat hT hW (want_zero _ _ _) hm)
 have hact:m.aC=s.aC:=by obtain⟨_,_,_,_,_,ha⟩:=hm;rw[ha,trim_acts]
 have hval:sysOK m=true:=by
  obtain⟨ss,qq,mm,hss,hWI,ha⟩:=hm
  have hin:∀y,y<(tR s).1.sT.length→(ix ss y).length≤10:=fun y hy=>by
   have hsub:∀z∈ix ss y,z∈ix (acc (tR s).1 y) 0::u::(List.range 8).map fun(a:Nat)=>leadI (ix (tR s).1.sT y) (a:Int):=fun z hz=>by
    rcases(hss.mem y hy z).1 hz with g|g
    ·rw[g];exact List.mem_cons_self
    ·refine List.mem_cons_of_mem _ ?_
     rcases path_in g with g2|⟨j,hj,g2⟩
     ·have g2:z=u:=g2
      rw[g2];exact List.mem_cons_self
     ·refine List.mem_cons_of_mem _ ?_
      have g2:z=leadI (ix (tR s).1.sT (y:Int).toNat) (ix w j):=g2
      rw[Int.toNat_natCast] at g2
      have hact:=alive_act hT hal hj
      have h8:=hT.n8
      refine List.mem_map.2 ⟨(ix w j).toNat,List.mem_range.2 O,?_⟩
      rw[g2,Int.toNat_of_nonneg hact.1]
   have:=List.Nodup.length_le_of_subset (hss.nd y hy) hsub
   simpa using this
  have hqq:qq.length≤(tR s).1.sT.length*10:=by
   have:=flat_len (g:=fun(y:Nat)=>(ix ss y).map fun z=>((y:Int),z)) (c:=10) (l:=List.range (tR s).1.sT.length) (fun y hy=>by rw[List.length_map];exact hin y (List.mem_range.1 hy))
   rw[List.length_range] at this
   refine Nat.le_trans (List.Nodup.length_le_of_subset hWI.wq.nd fun p hp=> ?_) this
   obtain⟨b0,b1,b2⟩:=hWI.wq.bd p hp
   exact List.mem_flatMap.2 ⟨p.1.toNat,List.mem_range.2 O,List.mem_map.2 ⟨p.2,b2,Prod.ext (by show((p.1.toNat:Nat):Int)=p.1;omega) rfl⟩⟩
  exact wit_valid (K:=10) hT hW hss hWI ha hin O O
 unfold madeB
 rw[hval,decide_eq_true hact,satD_iff.2 hsat];rfl
end CompP
end
section
namespace EncM
def encZ (z:SSys × Int):Value:= .agg #[.agg (z.1.aC.map Value.string).toArray,.agg (z.1.sT.map fun l=>Value.agg (l.map fun e=>Value.agg #[.int .i64 e.1,.int .i64 e.2]).toArray).toArray,.int .i64 z.2]
theorem map_inj {α β:Type} {f:α→β} (hf:∀a b,f a=f b→a=b):∀{l m:List α},l.map f=m.map f→l=m
 | [],[],_=>rfl
 | [],b::m,h=>by simp at h
 |a::l,[],h=>by simp at h
 |a::l,b::m,h=>by
  rw[List.map_cons,List.map_cons] at h
  injection h with h1 h2
  rw[hf _ _ h1,map_inj hf h2]
theorem agg_inj {l m:List Value} (h:Value.agg l.toArray=Value.agg m.toArray):l=m:=by
 injection h with h
 exact congrArg Array.toList h
theorem encZ_inj {a b:SSys × Int} (h:encZ a=encZ b):a=b:=by
 obtain⟨⟨a1,a2⟩,a3⟩:=a
 obtain⟨⟨b1,b2⟩,b3⟩:=b
 have h:=agg_inj (l:= [_,_,_]) (m:= [_,_,_]) h
 simp only [List.cons.injEq,and_true] at h
 obtain⟨h1,h2,h3⟩:=h
 have e1:a1=b1:=map_inj (fun x y g=>by injection g) (agg_inj h1)
 have e2:a2=b2:=map_inj (fun x y g=>map_inj (fun p q g=>by
  have g:=agg_inj (l:= [_,_]) (m:= [_,_]) g
  simp only [List.cons.injEq,and_true,Value.int.injEq,true_and] at g
  exact Prod.ext g.1 g.2) (agg_inj g)) (agg_inj h2)
 have e3:a3=b3:=by injection h3
 rw[e1,e2,e3]
open Classical in
noncomputable def decZ (v:Value):SSys × Int:=if h:∃z,encZ z=v then Classical.choose h else default
theorem dec_enc (z:SSys × Int):decZ (encZ z)=z:=by
 have h:∃y,encZ y=encZ z:=⟨z,rfl⟩
 unfold decZ
 rw[dif_pos h]
 exact encZ_inj (Classical.choose_spec h)
end EncM
end
section
open ref01 ref03 ref04 ref06 prog prog2 prog3 prog4 prog5 prog6 prog7 prog8 prog9 prog13 prog15 starts Part Rungs LeftM TrimM Itoa Keys RoundM MergeM BisM BisM4 BisM5 WalkM StepM WitM JudgM JudgM2 refw judg wit refj sysw divr divs divd dive divg divw divv LevM LevM2 ChsM TrimI QuoM FailM DivM RefM GenW CompM CrossM CompP PartM EncM prodc divp prodm
theorem int_eqC {x y:Int} (e:x=y) {w:World} {F:Fz} {v:Value} (h:(int x).p w F v):(int y).p w F v:=by subst e;exact h
def encM (m:SSys):Value:=encZ (m,0)
noncomputable def decM (v:Value):SSys:=(decZ v).1
theorem decM_enc (m:SSys):decM (encM m)=m:=by unfold decM encM;rw[dec_enc]
noncomputable def partE (s t:SS) (w:List Int) (u:Int):Int:=if fineE s t=0 then(if wordOK (s.aC.length:Int) w=true∧isSet (s.aC.length:Int) u=true then 0 else 1) else fineE s t
abbrev noSys:SSys:=⟨[],[]⟩
structure PartsOK (s t:SS) (w:List Int) (u:Int) (z:(SSys × SSys) × Int):Prop where
 err:partE s t w u≠0→z=((noSys,noSys),partE s t w u)
 none:partE s t w u=0→¬Both2 s t w u→z=((noSys,noSys),3)
 some:partE s t w u=0→Both2 s t w u→z.2=0∧∃a b,a∈acc (tR s).1 (goS (tR s).1 w).toNat∧b∈acc (tR t).1 (goS (tR t).1 w).toNat∧andI a b=u∧WitOK (tR s).1 (pathL (tR s).1 w a) z.1.1∧WitOK (tR t).1 (pathL (tR t).1 w b) z.1.2
section
variable {s t:SS} {w:List Int} {u:Int}
theorem parts_err {e:Int} (h:partE s t w u=e) (he:e≠0):PartsOK s t w u ((noSys,noSys),e):=⟨fun _=>by rw[h],fun g=>absurd (h.symm.trans g) he,fun g=>absurd (h.symm.trans g) he⟩
theorem parts_none (h:partE s t w u=0) (hn:¬Both2 s t w u):PartsOK s t w u ((noSys,noSys),3):=⟨fun g=>absurd h g,fun _ _=>rfl,fun _ g=>absurd g hn⟩
theorem parts_some (h:partE s t w u=0) (hh:¬hol2 s t) (h1:0≤goS (tR s).1 w) (h2:0≤goS (tR t).1 w) {a b:Int} (ha:a∈acc (tR s).1 (goS (tR s).1 w).toNat) (hb:b∈acc (tR t).1 (goS (tR t).1 w).toNat) (hab:andI a b=u) {m n:SSys} (hm:WitOK (tR s).1 (pathL (tR s).1 w a) m) (hn:WitOK (tR t).1 (pathL (tR t).1 w b) n):PartsOK s t w u ((m,n),0):=
 ⟨fun g=>absurd h g,fun _ g=>absurd ⟨hh,h1,h2,a,ha,b,hb,hab⟩ g,fun _ _=>⟨rfl,a,b,ha,hb,hab,hm,hn⟩⟩
theorem part_c1 {n:Int} (hc:(!wordOK n w|| !isSet n u)=true):¬(wordOK n w=true∧isSet n u=true):=fun⟨h1,h2⟩=>by rw[h1,h2] at hc;cases hc
theorem part_f1 {n:Int} (hc:(!wordOK n w|| !isSet n u)=false):wordOK n w=true∧isSet n u=true:=by
 rw[Bool.or_eq_false_iff,Bool.not_eq_false',Bool.not_eq_false'] at hc;exact hc
theorem part_c2 (hc:(((decide (((tR s).2.length:Int)=0)||decide (((tR t).2.length:Int)=0))|| !decide (0≤goS (tR s).1 w))|| !decide (0≤goS (tR t).1 w))=true):¬Both2 s t w u:=fun⟨h1,h2,h3,_⟩=>by
 rw[decide_eq_true h2,decide_eq_true h3,Bool.not_true,Bool.or_false,Bool.or_false] at hc
 exact h1 (com_cond.1 hc)
theorem part_f2 (hc:(((decide (((tR s).2.length:Int)=0)||decide (((tR t).2.length:Int)=0))|| !decide (0≤goS (tR s).1 w))|| !decide (0≤goS (tR t).1 w))=false):¬hol2 s t∧0≤goS (tR s).1 w∧0≤goS (tR t).1 w:=by
 rw[Bool.or_eq_false_iff,Bool.or_eq_false_iff,Bool.not_eq_false',Bool.not_eq_false',decide_eq_true_eq,decide_eq_true_eq] at hc
 refine⟨fun g=> ?_,hc.1.2,hc.2⟩
 have:=com_cond.2 g
 rw[this] at hc
 cases hc.1.1
theorem word_len {n:Int} (h:wordOK n w=true):w.length≤10000:=by
 unfold wordOK at h
 rw[Bool.and_eq_true,decide_eq_true_eq] at h
 omega
end
theorem witP_ok (s:SS) (hT:oK s) (want:List (Int × Int)) (hw:Wants s want):AL.Fn Tryz.prog 71 [spec s,sl 2 pE want] [] (ι:= { m:SSys//WitOK s want m }) (fun _ i=>agg [strs i.1.aC,sl 1 gE i.1.sT]) (fun _=> []):=
 fn_res (wit.Witness_ok s hT want hw) (fun N i {w F v} h=>agg_le (cs:= [fre N (strs i.1.aC),fre N (sl 1 gE i.1.sT)]) (ds:= [strs i.1.aC,sl 1 gE i.1.sT]) ⟨fun h=>nw_le h,fun h=>nw_le h,tV⟩ h)
def NyI (m:SSys) (l:List Int) (a:Int) (k j x:Nat):Prop:=(∃i,i<k∧∃e∈edg m (ix l i).toNat,e.1=a∧e.2=(x:Int))∨∃i,i<j∧(ix (edg m (ix l k).toNat) i).1=a∧(ix (edg m (ix l k).toNat) i).2=(x:Int)
structure NyS (m:SSys) (l:List Int) (a:Int) (k j:Nat) (b:List Bool):Prop where
 len:b.length=m.sT.length
 mem:∀x,x<m.sT.length→(ix b x=true↔NyI m l a k j x)
section
variable {m:SSys} {l:List Int} {a:Int} {k j:Nat} {b:List Bool}
theorem nys_zero:NyS m l a 0 0 (List.replicate m.sT.length false):=by
 refine⟨by simp,fun x hx=> ?_⟩
 rw[ix_get (by simpa using hx),List.getElem_replicate]
 constructor
 ·intro h;cases h
 ·rintro(⟨i,hi,_⟩|⟨i,hi,_⟩)<;>omega
theorem nys_next (h:NyS m l a k (edg m (ix l k).toNat).length b):NyS m l a (k+1) 0 b:=by
 refine⟨h.len,fun x hx=>(h.mem x hx).trans ?_⟩
 constructor
 ·rintro(⟨i,hi,g⟩|⟨i,hi,g⟩)
  ·exact .inl ⟨i,O,g⟩
  ·exact .inl ⟨k,O,_,ix_memS hi,g⟩
 ·rintro(⟨i,hi,g⟩|⟨i,hi,_⟩)
  ·by_cases e:i=k
   ·subst e
    obtain⟨ed,he,g⟩:=g
    obtain⟨q,hq,rfl⟩:=List.getElem_of_mem he
    exact .inr ⟨q,hq,by rw[ix_get hq];exact g⟩
   ·exact .inl ⟨i,O,g⟩
  ·omega
theorem nys_miss (h:NyS m l a k j b) (hn:(ix (edg m (ix l k).toNat) j).1≠a):NyS m l a k (j+1) b:=by
 refine⟨h.len,fun x hx=>(h.mem x hx).trans ?_⟩
 constructor
 ·rintro(g|⟨i,hi,g⟩)
  ·exact .inl g
  ·exact .inr ⟨i,O,g⟩
 ·rintro(g|⟨i,hi,g⟩)
  ·exact .inl g
  ·by_cases e:i=j
   ·subst e;exact absurd g.1 hn
   ·exact .inr ⟨i,O,g⟩
theorem nys_hit (h:NyS m l a k j b) (hn:(ix (edg m (ix l k).toNat) j).1=a) (h0:0≤(ix (edg m (ix l k).toNat) j).2) (h1:(ix (edg m (ix l k).toNat) j).2<(m.sT.length:Int)):NyS m l a k (j+1) (b.set (ix (edg m (ix l k).toNat) j).2.toNat true):=by
 have hl:=h.len
 refine⟨by simp[hl],fun x hx=> ?_⟩
 rw[ix_set O]
 by_cases e:x=(ix (edg m (ix l k).toNat) j).2.toNat
 ·rw[if_pos e]
  exact⟨fun _=> .inr ⟨j,O,hn,O⟩,fun _=>rfl⟩
 ·rw[if_neg e]
  refine(h.mem x hx).trans ?_
  constructor
  ·rintro(g|⟨i,hi,g⟩)
   ·exact .inl g
   ·exact .inr ⟨i,O,g⟩
  ·rintro(g|⟨i,hi,g⟩)
   ·exact .inl g
   ·by_cases q:i=j
    ·subst q;exact absurd g.2 O
    ·exact .inr ⟨i,O,g⟩
theorem nys_done (h:NyS m l a l.length 0 b):((List.range m.sT.length).filter fun(x:Nat)=>ix b x).map (fun(x:Nat)=>(x:Int))=nextM m l a:=by
 unfold nextM
 congr 1
 refine List.filter_congr fun x hx=> ?_
 have hx:=List.mem_range.1 hx
 rw[Bool.eq_iff_iff,h.mem x hx,List.any_eq_true]
 constructor
 ·rintro(⟨i,hi,e,he,g1,g2⟩|⟨i,hi,_⟩)
  ·exact⟨_,ix_memS hi,List.any_eq_true.2 ⟨e,he,by simp[g1,g2]⟩⟩
  ·omega
 ·rintro⟨y,hy,g⟩
  obtain⟨i,hi,rfl⟩:=List.getElem_of_mem hy
  obtain⟨e,he,g2⟩:=List.any_eq_true.1 g
  simp only [Bool.and_eq_true,decide_eq_true_eq] at g2
  exact .inl ⟨i,hi,e,by rw[ix_get hi];exact he,g2.1,g2.2⟩
end
theorem next_len (m:SSys) (l:List Int) (a:Int):(nextM m l a).length≤m.sT.length:=by
 unfold nextM
 rw[List.length_map]
 exact Nat.le_trans (List.length_filter_le _ _) (by simp)
theorem after_len {m:SSys} (h:0<m.sT.length) (w:List Int):(afterM m w).length≤m.sT.length:=by
 refine snoc_ind (p:=fun w=>(afterM m w).length≤m.sT.length) ?_ (fun w a _=> ?_) w
 ·exact h
 ·rw[afterM_snoc];exact next_len _ _ _
theorem after_take {m:SSys} {w:List Int} {k:Nat} (hk:k<w.length):afterM m (w.take (k+1))=nextM m (afterM m (w.take k)) (ix w k):=by rw[take_s hk,afterM_snoc]
def showB (m n:SSys) (w:List Int) (u:Int):Bool:=(afterM m w).any fun x=>(afterM n w).any fun y=>decide (andI (offM m x.toNat) (offM n y.toNat)=u)
theorem offM_bd {m:SSys} (hm:okSys m) {x:Nat} (hx:x<m.sT.length):0≤offM m x∧offM m x<256:=by
 have h8:=off8 hm hx
 refine⟨orAll_nn _,orAll_lt _ fun t ht=> ?_⟩
 obtain⟨e,he,rfl⟩:=List.mem_map.1 ht
 have:=h8 e he
 have hp:2^e.1.toNat≤2^7:=Nat.pow_le_pow_right O O
 omega
namespace T
theorem ent66:Ent Tryz.prog 66:=ent_of kR
theorem ent67:Ent Tryz.prog 67:=ent_of kR
theorem ent69:Ent Tryz.prog 69:=ent_of kR
theorem ent70:Ent Tryz.prog 70:=ent_of kR
theorem ent71:Ent Tryz.prog 71:=ent_of kR
theorem ent82:Ent Tryz.prog 82:=ent_of kR
theorem ent73:Ent Tryz.prog 73:=ent_of kR
end T
namespace prodp
theorem actIs_ok (n s:Int) (h0:0≤n) (h1:n<63):
 Fn0 Tryz.prog 67 [int n,int s] (bl (isSet n s)):=by
 refine fnI Tryz.func67 rfl rfl (fun w0 F0=> ?_)
 refine sq (rg (ag (nl (th (sq (rg (mv (bi J J b_geq (mv ?_)))))))))
 apply gAnd (t:=7) (pd:=12) rfl
 rotate_left
 ·intro hg0 fin
  have hg0':=hg0
  try simp at hg0'
  exact gy J J J hg0 (mv (gy J J J hg0 (mv (gy J J J hg0 (bi J J (b_shlI O O) (gy J J J hg0 (bi J J b_lss (pkT J hg0 J (drp (X:= [(11,_),(10,_),(9,_),(8,_)]) ⟨J,J,J,J,tV⟩ fin)))))))))
 ·intro hg0 fin
  exact gn J J J hg0 J J (gn J J J hg0 J J (gn J J J hg0 J J (gn J J J hg0 J J (pkF J hg0 J (drp (X:= [(11,_),(10,_),(9,_),(8,_)]) ⟨J,J,J,J,tV⟩ fin)))))
 refine ag (nl (th (rt ?_)))
 have hr0:((decide (0≤s))&&(decide (s<((2^n.toNat:Nat):Int))))=(isSet n s):=by
  first|rfl|simp_all|omega
 exact rE () [.tmp 4] J [bl ((decide (0≤s))&&(decide (s<((2^n.toNat:Nat):Int))))] ⟨.tmp J,tV⟩ (cA1 (fun x0=>rV [bl x0]) hr0) trivial eX
theorem Parts_ok (s t:SS) (hsm:smallSpec s) (htm:smallSpec t) (w:List Int) (u:Int):
 AL.Fn Tryz.prog 22 [spec s,spec t,ints w,int u] [] (ι:= { z:(SSys × SSys) × Int//PartsOK s t w u z }) (fun _ i=>tup [sys i.1.1.1,sys i.1.1.2,int i.1.2]) (fun _=> []):=by
 refine fnI Tryz.func22 rfl rfl (fun w0 F0=> ?_)
 refine fcC (inhS 0 J) (fun hS0=> ?_)
 obtain⟨hsa0,hss0,hse0⟩:=sLn hS0
 refine fcC (inhS 1 J) (fun hS1=> ?_)
 obtain⟨hsa1,hss1,hse1⟩:=sLn hS1
 refine fcC (slenI 2 J) (fun hm2=> ?_)
 refine sq (rg (bx (key:=4) (cs:= [sl 1 rE_ s.aC,sl 2 sE s.sT]) J fun b4=>(bx (key:=5) (cs:= [sl 1 rE_ t.aC,sl 2 sE t.sT]) J fun b5=>(al (key:=8) T.z43 (eC (eC eZ)) fun b8=>(al (key:=9) T.z43 (eC (eC eZ)) fun b9=>(ag (nl (th (sq (sq (rg (lPA J J T.agg25 J (lPA J J T.agg25 J (cal0 (φs:= [agg [sl 1 rE_ s.aC,sl 2 sE s.sT],agg [sl 1 rE_ t.aC,sl 2 sE t.sT]]) (φ:=int (fineE s t)) ⟨J,J,tV⟩ (judg.Fine_ok s t aS aS) T.ent61 (ag (nl (th (sq (rg (mv (bi J J b_neq (nl (th ?_)))))))))))))))))))))))
 refine cd J (fun hc0=> ?_) (fun hc0=> ?_)
 ·skip
  have hfz:fineE s t≠0:=by simpa using hc0
  have hpe:partE s t w u=fineE s t:=by unfold partE;rw[if_neg hfz]
  refine sq (rg (bd (css:= []) T.st43 (eC (eC eZ)) trivial (bd (css:= []) T.st43 (eC (eC eZ)) trivial (mv (sPA (cs':= [eqv (.slice none 0 0),eqv (.slice none 0 0)]) J J J T.agg43 J J (sPA (cs':= [eqv (.slice none 0 0),eqv (.slice none 0 0)]) J J J T.agg43 J J (ag (nl (th (rt (rt_ ?_)))))))))))
  refine kncA 8 0 (sl 1 rE_ []) rfl rfl slnil ?_
  refine kncA 8 1 (sl 1 gE []) rfl rfl slnil ?_
  refine kncA 9 0 (sl 1 rE_ []) rfl rfl slnil ?_
  refine kncA 9 1 (sl 1 gE []) rfl rfl slnil ?_
  exact rE ⟨((noSys,noSys),fineE s t),parts_err hpe hfz⟩ [.cell 8 43,.cell 9 43,.tmp 10] J [agg [sl 1 rE_ [],sl 1 gE []],agg [sl 1 rE_ [],sl 1 gE []],int (fineE s t)] ⟨.agg J J T.agg43 J J,.agg J J T.agg43 J J,.tmp J,tV⟩ J trivial eX
 ·skip
  have hfz:fineE s t=0:=by simpa using hc0
  obtain⟨hsv,htv,hst⟩:=Go.Proofs.YtcjemmihcplgdaaGreatDoor.fine_ok hfz
  have hs:=okSpec_of hsv
  have ht:=okSpec_of htv
  have hn8:=hs.n8
  refine sk (th (sq (sq (rg (fP J T.fld25_0 (lP J J J T.one22 (mv (cal0 (φs:= [sl 1 rE_ s.aC,sl 1 nE w]) (φ:=bl (wordOK (s.aC.length:Int) w)) ⟨J,J,tV⟩ (prog15.pWord_ok s.aC w) T.ent66 (no J (mv ?_))))))))))
  apply gOr (t:=39) (pd:=46) rfl
  rotate_left
  ·intro hg0 fin
   have hg0':=hg0
   try simp at hg0'
   exact gy J J J hg0 (fP J T.fld25_0 (gy J J J hg0 (lP J J J T.one22 (gy J J J hg0 (fc (slenI 41 J) fun hm41=>(lnF J T.sl22 (gy J J J hg0 (mv (gy J J J hg0 (cal0 (φs:= [int (s.aC.length:Int),int u]) (φ:=bl (isSet (s.aC.length:Int) u)) ⟨J,J,tV⟩ (prodp.actIs_ok _ _ O O) T.ent67 (gy J J J hg0 (no J (pkF J hg0 J (drp (X:= [(45,_),(44,_),(43,_),(42,_),(41,_),(40,_)]) ⟨J,J,J,J,J,J,tV⟩ fin))))))))))))))
  ·intro hg0 fin
   exact gn J J J hg0 J J (gn J J J hg0 J J (gn J J J hg0 J J (gn J J J hg0 J J (gn J J J hg0 J J (gn J J J hg0 J J (pkT J hg0 J (drp (X:= [(45,_),(44,_),(43,_),(42,_),(41,_),(40,_)]) ⟨J,J,J,J,J,J,tV⟩ fin)))))))
  refine nl (th ?_)
  refine cd J (fun hc1=> ?_) (fun hc1=> ?_)
  ·skip
   have hpe:partE s t w u=1:=by unfold partE;rw[if_pos hfz,if_neg (part_c1 hc1)]
   refine sq (rg (bd (css:= []) T.st43 (eC (eC eZ)) trivial (bd (css:= []) T.st43 (eC (eC eZ)) trivial (sPA (cs':= [eqv (.slice none 0 0),eqv (.slice none 0 0)]) J J J T.agg43 J J (sPA (cs':= [eqv (.slice none 0 0),eqv (.slice none 0 0)]) J J J T.agg43 J J (ag (nl (th (rt (rt_ ?_))))))))))
   refine kncA 8 0 (sl 1 rE_ []) rfl rfl slnil ?_
   refine kncA 8 1 (sl 1 gE []) rfl rfl slnil ?_
   refine kncA 9 0 (sl 1 rE_ []) rfl rfl slnil ?_
   refine kncA 9 1 (sl 1 gE []) rfl rfl slnil ?_
   exact rE ⟨((noSys,noSys),1),parts_err hpe (by decide)⟩ [.cell 8 43,.cell 9 43,.tmp 10] J [agg [sl 1 rE_ [],sl 1 gE []],agg [sl 1 rE_ [],sl 1 gE []],int 1] ⟨.agg J J T.agg43 J J,.agg J J T.agg43 J J,.tmp J,tV⟩ J trivial eX
  ·skip
   obtain⟨hwo,hse⟩:=part_f1 hc1
   have hpe:partE s t w u=0:=by unfold partE;rw[if_pos hfz,if_pos ⟨hwo,hse⟩]
   have hwl:=word_len hwo
   have hS:=trim_ok hs
   have hT:=trim_ok ht
   have hwS:wordOK ((tR s).1.aC.length:Int) w=true:=by rw[trim_acts];exact hwo
   have hwT:wordOK ((tR t).1.aC.length:Int) w=true:=by rw[trim_acts,←hst];exact hwo
   have hSn:=hS.n8
   have hTn:=hT.n8
   refine sk (th (sq (rg (lPA J J T.agg25 J (calW (φs:= [agg [sl 1 rE_ s.aC,sl 2 sE s.sT]]) (φ:=tup [agg [sl 1 rE_ ((tR s).1.aC),sl 2 sE ((tR s).1.sT)],sl 1 nE ((tR s).2)]) ⟨J,tV⟩ (prog9.Trimmed_ok s aS) T.ent68 (fun N hN=>fun h=>tup_le (cs:= [agg [fre N (sl 1 rE_ ((tR s).1.aC)),frb (ix (hOl s) 0) N (sl 2 sE ((tR s).1.sT))],sl 1 nE ((tR s).2)]) (ds:= [agg [sl 1 rE_ ((tR s).1.aC),sl 2 sE ((tR s).1.sT)],sl 1 nE ((tR s).2)]) ⟨fun h=>agg_le (cs:= [fre N (sl 1 rE_ ((tR s).1.aC)),frb (ix (hOl s) 0) N (sl 2 sE ((tR s).1.sT))]) (ds:= [sl 1 rE_ ((tR s).1.aC),sl 2 sE ((tR s).1.sT)]) ⟨fun h=>nw_le h,fun h=>frb_le h,tV⟩ h,fun h=>h,tV⟩ h) (mv (xt J J (xt J J (sPA (cs':= [sl 1 rE_ ((tR s).1.aC),sl 2 sE ((tR s).1.sT)]) J J J T.agg25 J J (ag (nl (th (sq (rg (lPA J J T.agg25 J (calW (φs:= [agg [sl 1 rE_ t.aC,sl 2 sE t.sT]]) (φ:=tup [agg [sl 1 rE_ ((tR t).1.aC),sl 2 sE ((tR t).1.sT)],sl 1 nE ((tR t).2)]) ⟨J,tV⟩ (prog9.Trimmed_ok t aS) T.ent68 (fun N hN=>fun h=>tup_le (cs:= [agg [fre N (sl 1 rE_ ((tR t).1.aC)),frb (ix (hOl t) 0) N (sl 2 sE ((tR t).1.sT))],sl 1 nE ((tR t).2)]) (ds:= [agg [sl 1 rE_ ((tR t).1.aC),sl 2 sE ((tR t).1.sT)],sl 1 nE ((tR t).2)]) ⟨fun h=>agg_le (cs:= [fre N (sl 1 rE_ ((tR t).1.aC)),frb (ix (hOl t) 0) N (sl 2 sE ((tR t).1.sT))]) (ds:= [sl 1 rE_ ((tR t).1.aC),sl 2 sE ((tR t).1.sT)]) ⟨fun h=>nw_le h,fun h=>frb_le h,tV⟩ h,fun h=>h,tV⟩ h) (mv (xt J J (xt J J (sPA (cs':= [sl 1 rE_ ((tR t).1.aC),sl 2 sE ((tR t).1.sT)]) J J J T.agg25 J J (ag (nl (th (sq (rg (lPA J J T.agg25 J (mv (cal0 (φs:= [agg [sl 1 rE_ ((tR s).1.aC),sl 2 sE ((tR s).1.sT)],sl 1 nE w]) (φ:=tup [int (if goS ((tR s).1) w<0 then 0 else goS ((tR s).1) w),bl (decide (0≤goS ((tR s).1) w))]) ⟨J,J,tV⟩ (prog15.Follow_ok ((tR s).1) aS w (fun _=>word_ix aS)) T.ent69 (mv (xt J J (xt J J (ag (ag (nl (th (sq (rg (lPA J J T.agg25 J (mv (cal0 (φs:= [agg [sl 1 rE_ ((tR t).1.aC),sl 2 sE ((tR t).1.sT)],sl 1 nE w]) (φ:=tup [int (if goS ((tR t).1) w<0 then 0 else goS ((tR t).1) w),bl (decide (0≤goS ((tR t).1) w))]) ⟨J,J,tV⟩ (prog15.Follow_ok ((tR t).1) aS w (fun _=>word_ix aS)) T.ent69 (mv (xt J J (xt J J (ag (ag (nl (th (sq (sq (rg (mv (fc (slenI 71 J) fun hm71=>(lnF J T.sl36 (bi J J b_eql (mv ?_)))))))))))))))))))))))))))))))))))))))))))))))))))))))
   apply gOr (t:=74) (pd:=78) rfl
   rotate_left
   ·intro hg1 fin
    have hg1':=hg1
    try simp at hg1'
    exact gy J J J hg1 (mv (gy J J J hg1 (fc (slenI 75 J) fun hm75=>(lnF J T.sl36 (gy J J J hg1 (bi J J b_eql (pkF J hg1 J (drp (X:= [(77,_),(76,_),(75,_)]) ⟨J,J,J,tV⟩ fin))))))))
   ·intro hg1 fin
    exact gn J J J hg1 J J (gn J J J hg1 J J (gn J J J hg1 J J (pkT J hg1 J (drp (X:= [(77,_),(76,_),(75,_)]) ⟨J,J,J,tV⟩ fin))))
   refine mv ?_
   apply gOr (t:=79) (pd:=82) rfl
   rotate_left
   ·intro hg2 fin
    have hg2':=hg2
    try simp at hg2'
    exact gy J J J hg2 (mv (gy J J J hg2 (no J (pkF J hg2 J (drp (X:= [(81,_),(80,_)]) ⟨J,J,tV⟩ fin)))))
   ·intro hg2 fin
    exact gn J J J hg2 J J (gn J J J hg2 J J (pkT J hg2 J (drp (X:= [(81,_),(80,_)]) ⟨J,J,tV⟩ fin)))
   refine mv ?_
   apply gOr (t:=83) (pd:=86) rfl
   rotate_left
   ·intro hg3 fin
    have hg3':=hg3
    try simp at hg3'
    exact gy J J J hg3 (mv (gy J J J hg3 (no J (pkF J hg3 J (drp (X:= [(85,_),(84,_)]) ⟨J,J,tV⟩ fin)))))
   ·intro hg3 fin
    exact gn J J J hg3 J J (gn J J J hg3 J J (pkT J hg3 J (drp (X:= [(85,_),(84,_)]) ⟨J,J,tV⟩ fin)))
   refine nl (th ?_)
   refine cd J (fun hc2=> ?_) (fun hc2=> ?_)
   ·skip
    have hnb:¬Both2 s t w u:=part_c2 hc2
    refine sq (rg (bd (css:= []) T.st43 (eC (eC eZ)) trivial (bd (css:= []) T.st43 (eC (eC eZ)) trivial (sPA (cs':= [eqv (.slice none 0 0),eqv (.slice none 0 0)]) J J J T.agg43 J J (sPA (cs':= [eqv (.slice none 0 0),eqv (.slice none 0 0)]) J J J T.agg43 J J (ag (nl (th (rt (rt_ ?_))))))))))
    refine kncA 8 0 (sl 1 rE_ []) rfl rfl slnil ?_
    refine kncA 8 1 (sl 1 gE []) rfl rfl slnil ?_
    refine kncA 9 0 (sl 1 rE_ []) rfl rfl slnil ?_
    refine kncA 9 1 (sl 1 gE []) rfl rfl slnil ?_
    exact rE ⟨((noSys,noSys),3),parts_none hpe hnb⟩ [.cell 8 43,.cell 9 43,.tmp 10] J [agg [sl 1 rE_ [],sl 1 gE []],agg [sl 1 rE_ [],sl 1 gE []],int 3] ⟨.agg J J T.agg43 J J,.agg J J T.agg43 J J,.tmp J,tV⟩ J trivial eX
   ·skip
    have hx2:=part_f2 (s:=s) (t:=t) (w:=w) hc2
    have hh:=hx2.1
    have hg1:=hx2.2.1
    have hg2:=hx2.2.2
    have hh1:=(not_hol2 hh).1
    have hh2:=(not_hol2 hh).2
    have e1:(if goS (tR s).1 w<0 then 0 else goS (tR s).1 w)=goS (tR s).1 w:=if_neg O
    have e2:(if goS (tR t).1 w<0 then 0 else goS (tR t).1 w)=goS (tR t).1 w:=if_neg O
    have r1:=runs_go hS (trim_used hs) w (fun _ h=>word_ix hwS h) hg1
    have r2:=runs_go hT (trim_used ht) w (fun _ h=>word_ix hwT h) hg2
    have l1:=r1.lt hS
    have l2:=r2.lt hT
    have a1:Alive (tR s).1 w:=r1.alive hS
    have a2:Alive (tR t).1 w:=r2.alive hT
    have hsa:=(hS.st _ l1).ac
    have hta:=(hT.st _ l2).ac
    have hs8:=(hS.st _ l1).acl
    have ht8:=(hT.st _ l2).acl
    have f1:=hS.few1
    have f2:=hT.few1
    refine knC 14 (int (goS (tR s).1 w)) rfl (fun h=>int_eqC e1 h) (knC 16 (int (goS (tR t).1 w)) rfl (fun h=>int_eqC e2 h) (sk (th (sq (sq (rg (fP rfl T.fld25_1 (lP rfl rfl rfl T.one23 (mv (iF rfl rfl T.sl23 O gB (fF rfl T.fld81_0 (lF rfl rfl T.one36 (fc (slenI 94 rfl) fun hm94=>(lnF rfl T.sl36 (mv (nl (th (bk ?_))))))))))))))))))
    have hI0_0:0≤(ix ((tR s).1.sT) (goS (tR s).1 w).toNat).aP.length:=by
     first|omega|simp
    have hI0_1:∀j,j<0→∀y∈acc (tR t).1 (goS (tR t).1 w).toNat,andI (ix (ix (tR s).1.sT (goS (tR s).1 w).toNat).aP j) y≠u:=by
     intro j hj;omega
    refine lp (κ:=Nat) (fun p=> [(2,sl 1 nE w),(3,int u),(4,ptr 4 b4 0),(5,ptr 5 b5 0),(8,ptr 8 b8 0),(9,ptr 9 b9 0),(16,int (goS (tR t).1 w)),(94,sl 1 nE (ix ((tR s).1.sT) (goS (tR s).1 w).toNat).aP),(95,int ((ix ((tR s).1.sT) (goS (tR s).1 w).toNat).aP.length:Int)),(96,int (p:Int))]) (fun p=> [(4,cell b4 [sl 1 rE_ ((tR s).1.aC),sl 2 sE ((tR s).1.sT)]),(5,cell b5 [sl 1 rE_ ((tR t).1.aC),sl 2 sE ((tR t).1.sT)]),(8,cell b8 [eqv (.slice none 0 0),eqv (.slice none 0 0)]),(9,cell b9 [eqv (.slice none 0 0),eqv (.slice none 0 0)])]) (fun p=>(p≤(ix ((tR s).1.sT) (goS (tR s).1 w).toNat).aP.length)∧(∀j,j<p→∀y∈acc (tR t).1 (goS (tR t).1 w).toNat,andI (ix (ix (tR s).1.sT (goS (tR s).1 w).toNat).aP j) y≠u)) (fun p=>(ix ((tR s).1.sT) (goS (tR s).1 w).toNat).aP.length- p) 0 ⟨hI0_0,hI0_1⟩ ⟨id,id,id,id,id,id,id,id,id,id,tV⟩ ⟨rI,rI,rI,rI,tV⟩ ?_
    intro k hG0
    obtain⟨hk0,hI0⟩:(k≤(ix ((tR s).1.sT) (goS (tR s).1 w).toNat).aP.length)∧(∀j,j<k→∀y∈acc (tR t).1 (goS (tR t).1 w).toNat,andI (ix (ix (tR s).1.sT (goS (tR s).1 w).toNat).aP j) y≠u):=hG0
    refine sq (rg (bi J J b_lss (nl (th (sq ?_)))))
    refine cd J (fun hc3=> ?_) (fun hc3=> ?_)
    ·try simp at hc3
     have hak:=hsa k O
     refine sk (th (sq (bk (sq (rg (iF J J T.sl36 O gB (lF J J T.one3 (ag (nl (th (sq (rg (fP J T.fld25_1 (lP J J J T.one23 (mv (iF J J T.sl23 O gB (fF J T.fld81_0 (lF J J T.one36 (fc (slenI 105 J) fun hm105=>(lnF J T.sl36 (mv (nl (th (bk ?_))))))))))))))))))))))))
     have hI1_0:0≤(ix ((tR t).1.sT) (goS (tR t).1 w).toNat).aP.length:=by
      first|omega|simp
     have hI1_1:∀j,j<0→andI (ix (ix (tR s).1.sT (goS (tR s).1 w).toNat).aP k) (ix (ix (tR t).1.sT (goS (tR t).1 w).toNat).aP j)≠u:=by
      intro j hj;omega
     refine lp (κ:=Nat) (fun p=> [(2,sl 1 nE w),(3,int u),(4,ptr 4 b4 0),(5,ptr 5 b5 0),(8,ptr 8 b8 0),(9,ptr 9 b9 0),(16,int (goS (tR t).1 w)),(19,int (ix (ix ((tR s).1.sT) (goS (tR s).1 w).toNat).aP k)),(94,sl 1 nE (ix ((tR s).1.sT) (goS (tR s).1 w).toNat).aP),(95,int ((ix ((tR s).1.sT) (goS (tR s).1 w).toNat).aP.length:Int)),(96,int (k:Int)),(105,sl 1 nE (ix ((tR t).1.sT) (goS (tR t).1 w).toNat).aP),(106,int ((ix ((tR t).1.sT) (goS (tR t).1 w).toNat).aP.length:Int)),(107,int (p:Int))]) (fun p=> [(4,cell b4 [sl 1 rE_ ((tR s).1.aC),sl 2 sE ((tR s).1.sT)]),(5,cell b5 [sl 1 rE_ ((tR t).1.aC),sl 2 sE ((tR t).1.sT)]),(8,cell b8 [eqv (.slice none 0 0),eqv (.slice none 0 0)]),(9,cell b9 [eqv (.slice none 0 0),eqv (.slice none 0 0)])]) (fun p=>(p≤(ix ((tR t).1.sT) (goS (tR t).1 w).toNat).aP.length)∧(∀j,j<p→andI (ix (ix (tR s).1.sT (goS (tR s).1 w).toNat).aP k) (ix (ix (tR t).1.sT (goS (tR t).1 w).toNat).aP j)≠u)) (fun p=>(ix ((tR t).1.sT) (goS (tR t).1 w).toNat).aP.length- p) 0 ⟨hI1_0,hI1_1⟩ ⟨id,id,id,id,id,id,id,id,id,id,id,id,id,id,tV⟩ ⟨rI,rI,rI,rI,tV⟩ ?_
     intro k1 hG1
     obtain⟨hk1,hI1⟩:(k1≤(ix ((tR t).1.sT) (goS (tR t).1 w).toNat).aP.length)∧(∀j,j<k1→andI (ix (ix (tR s).1.sT (goS (tR s).1 w).toNat).aP k) (ix (ix (tR t).1.sT (goS (tR t).1 w).toNat).aP j)≠u):=hG1
     refine sq (rg (bi J J b_lss (nl (th (sq ?_)))))
     refine cd J (fun hc4=> ?_) (fun hc4=> ?_)
     ·try simp at hc4
      have hbk:=hta k1 O
      refine sk (th (sq (bk (sq (rg (iF J J T.sl36 O gB (lF J J T.one3 (ag (nl (th (sq (rg (mv (mv (bi J J (b_andI O O O O) (mv (bi J J b_eql (nl (th ?_)))))))))))))))))))
      refine cd J (fun hc5=> ?_) (fun hc5=> ?_)
      ·skip
       have hau:andI (ix (ix (tR s).1.sT (goS (tR s).1 w).toNat).aP k) (ix (ix (tR t).1.sT (goS (tR t).1 w).toNat).aP k1)=u:=of_decide_eq_true hc5
       have hma:ix (ix (tR s).1.sT (goS (tR s).1 w).toNat).aP k∈acc (tR s).1 (goS (tR s).1 w).toNat:=ix_memS (l:=(ix (tR s).1.sT (goS (tR s).1 w).toNat).aP) O
       have hmb:ix (ix (tR t).1.sT (goS (tR t).1 w).toNat).aP k1∈acc (tR t).1 (goS (tR t).1 w).toNat:=ix_memS (l:=(ix (tR t).1.sT (goS (tR t).1 w).toNat).aP) O
       have hw1:Wants (tR s).1 (pathL (tR s).1 w (ix (ix (tR s).1.sT (goS (tR s).1 w).toNat).aP k)):=⟨pathL_mem hS a1 hma,ne_trim hs hh1,by rw[pathL_len];omega⟩
       have hw2:Wants (tR t).1 (pathL (tR t).1 w (ix (ix (tR t).1.sT (goS (tR t).1 w).toNat).aP k1)):=⟨pathL_mem hT a2 hmb,ne_trim ht hh2,by rw[pathL_len];omega⟩
       refine sq (rg (lPA J J T.agg25 J (mv (mv (cal0 (φs:= [agg [sl 1 rE_ ((tR s).1.aC),sl 2 sE ((tR s).1.sT)],sl 1 nE w,int (ix (ix ((tR s).1.sT) (goS (tR s).1 w).toNat).aP k)]) (φ:=tup [sl 2 pE (pathL ((tR s).1) w (ix (ix ((tR s).1.sT) (goS (tR s).1 w).toNat).aP k)),bl (decide ((ix (ix ((tR s).1.sT) (goS (tR s).1 w).toNat).aP k)∈acc ((tR s).1) (goS ((tR s).1) w).toNat))]) ⟨J,J,J,tV⟩ (judg.Path_ok ((tR s).1) aS w aS (ix (ix ((tR s).1.sT) (goS (tR s).1 w).toNat).aP k) O) T.ent70 (mv (xt J J (xt J J (ag (ag (nl (th (sq (rg (lPA J J T.agg25 J (mv (mv (cal0 (φs:= [agg [sl 1 rE_ ((tR t).1.aC),sl 2 sE ((tR t).1.sT)],sl 1 nE w,int (ix (ix ((tR t).1.sT) (goS (tR t).1 w).toNat).aP k1)]) (φ:=tup [sl 2 pE (pathL ((tR t).1) w (ix (ix ((tR t).1.sT) (goS (tR t).1 w).toNat).aP k1)),bl (decide ((ix (ix ((tR t).1.sT) (goS (tR t).1 w).toNat).aP k1)∈acc ((tR t).1) (goS ((tR t).1) w).toNat))]) ⟨J,J,J,tV⟩ (judg.Path_ok ((tR t).1) aS w aS (ix (ix ((tR t).1.sT) (goS (tR t).1 w).toNat).aP k1) O) T.ent70 (mv (xt J J (xt J J (ag (ag (nl (th (sq ?_))))))))))))))))))))))))))
       refine drH (nh:=9) [0,0,3,0,0,31,63,127,255] [(none,[4]),(none,[]),(none,[]),(none,[5]),(none,[]),(none,[]),(some 8,[8]),(some 9,[9]),(none,[])] T.mixed kR kR ?_
       refine stv (d:=130) (fun β0=>agg [sl 1 rE_ ((tR s).1.aC),sl 2 sE ((tR s).1.sT)]) [4] J (fun β β' hb=>J) (fun β0 _ _ _ _ gq gh kq=>lPA (gq.1.trans J) (gh.1.trans J) T.agg25 J kq) ?_
       refine stv (d:=131) (fun β0=>sl 2 pE (pathL ((tR s).1) w (ix (ix ((tR s).1.sT) (goS (tR s).1 w).toNat).aP k))) [] J (fun β β' hb=>J) (fun β0 _ _ _ _ gq gh kq=>mv' (gq.1.trans J) kq) ?_
       refine ste (d:=132) encM decM decM_enc (fun z=>WitOK (tR s).1 (pathL (tR s).1 w (ix (ix (tR s).1.sT (goS (tR s).1 w).toNat).aP k)) z) (fun z=>agg [sl 1 rE_ z.aC,sl 1 gE z.sT]) rfl (fun β0 _ _ _ _ gq gh kq=>cal (Hi:= []) (φs:= [agg [sl 1 rE_ ((tR s).1.aC),sl 2 sE ((tR s).1.sT)],sl 2 pE (pathL ((tR s).1) w (ix (ix ((tR s).1.sT) (goS (tR s).1 w).toNat).aP k))]) ⟨(gq.1.trans rfl),(gq.2.1.trans rfl),tV⟩ (witP_ok (tR s).1 hS (pathL (tR s).1 w (ix (ix (tR s).1.sT (goS (tR s).1 w).toNat).aP k)) hw1) T.ent71 trivial fun N i=>kq i.1 i.2) ?_
       refine stv (d:=133) (fun β0=>agg [sl 1 rE_ ((tR t).1.aC),sl 2 sE ((tR t).1.sT)]) [5] J (fun β β' hb=>J) (fun β0 _ _ _ _ gq gh kq=>lPA (gq.1.trans J) (gh.1.trans J) T.agg25 J kq) ?_
       refine stv (d:=134) (fun β0=>sl 2 pE (pathL ((tR t).1) w (ix (ix ((tR t).1.sT) (goS (tR t).1 w).toNat).aP k1))) [] J (fun β β' hb=>J) (fun β0 _ _ _ _ gq gh kq=>mv' (gq.1.trans J) kq) ?_
       refine ste (d:=135) encM decM decM_enc (fun z=>WitOK (tR t).1 (pathL (tR t).1 w (ix (ix (tR t).1.sT (goS (tR t).1 w).toNat).aP k1)) z) (fun z=>agg [sl 1 rE_ z.aC,sl 1 gE z.sT]) rfl (fun β0 _ _ _ _ gq gh kq=>cal (Hi:= []) (φs:= [agg [sl 1 rE_ ((tR t).1.aC),sl 2 sE ((tR t).1.sT)],sl 2 pE (pathL ((tR t).1) w (ix (ix ((tR t).1.sT) (goS (tR t).1 w).toNat).aP k1))]) ⟨(gq.1.trans rfl),(gq.2.1.trans rfl),tV⟩ (witP_ok (tR t).1 hT (pathL (tR t).1 w (ix (ix (tR t).1.sT (goS (tR t).1 w).toNat).aP k1)) hw2) T.ent71 trivial fun N i=>kq i.1 i.2) ?_
       refine stw 8 (fun β0=>cell b8 [sl 1 rE_ (decM (β0 2)).aC,sl 1 gE (decM (β0 2)).sT]) [8] J (fun β β' hb=>by first|rw[hb 2 J]|(dsimp only;rw[hb 2 J])) (fun β0 _ _ _ _ gq gh kq=>sPAW (cs':= [sl 1 rE_ (decM (β0 2)).aC,sl 1 gE (decM (β0 2)).sT]) (gq.1.trans J) (gh.1.trans J) (gq.2.1.trans J) T.agg43 J J kq) ?_
       refine stw 9 (fun β0=>cell b9 [sl 1 rE_ (decM (β0 5)).aC,sl 1 gE (decM (β0 5)).sT]) [9] J (fun β β' hb=>by first|rw[hb 5 J]|(dsimp only;rw[hb 5 J])) (fun β0 _ _ _ _ gq gh kq=>sPAW (cs':= [sl 1 rE_ (decM (β0 5)).aC,sl 1 gE (decM (β0 5)).sT]) (gq.1.trans J) (gh.1.trans J) (gq.2.1.trans J) T.agg43 J J kq) ?_
       refine stv (d:=10) (fun β0=>int 0) [] J (fun β β' hb=>J) (fun β0 _ _ _ _ gq gh kq=>ag kq) ?_
       refine pnH fun β0=>(nl (th (rt (rb (rt_ (rt_ (rb (rb (rt_ (rt_ (rb (rt_ ?_))))))))))))
       refine whXA 132 rfl fun h132=>(whXA 135 rfl fun h135=> ?_)
       exact rE ⟨((decM (β0 2),decM (β0 5)),0),parts_some hpe hh hg1 hg2 hma hmb hau h132 h135⟩ [.cell 8 43,.cell 9 43,.tmp 10] J [agg [sl 1 rE_ (decM (β0 2)).aC,sl 1 gE (decM (β0 2)).sT],agg [sl 1 rE_ (decM (β0 5)).aC,sl 1 gE (decM (β0 5)).sT],int 0] ⟨.agg J J T.agg43 J J,.agg J J T.agg43 J J,.tmp J,tV⟩ J trivial eX
      ·skip
       have hau:andI (ix (ix (tR s).1.sT (goS (tR s).1 w).toNat).aP k) (ix (ix (tR t).1.sT (goS (tR t).1 w).toNat).aP k1)≠u:=of_decide_eq_false hc5
       refine sk (eb (th (rg (bi J J (b_add i6) (mv (nl ?_))))))
       have hN0:(k1+1)≤(ix ((tR t).1.sT) (goS (tR t).1 w).toNat).aP.length:=by
        first|omega|simp_all
       have hN1:∀j,j<(k1+1)→andI (ix (ix (tR s).1.sT (goS (tR s).1 w).toNat).aP k) (ix (ix (tR t).1.sT (goS (tR t).1 w).toNat).aP j)≠u:=by
        intro j hj
        by_cases e:j=k1
        ·subst e;exact hau
        ·exact hI1 j O
       exact ln (k1+1) ⟨hN0,hN1⟩ dO ⟨id,id,id,id,id,id,id,id,id,id,id,id,id,id,tV⟩ ⟨rI,rI,rI,rI,tV⟩
     ·try simp at hc4
      refine ex (xt_ (xt_ (xb (eb (th (rg (bi J J (b_add i6) (mv (nl ?_)))))))))
      have hN0:(k+1)≤(ix ((tR s).1.sT) (goS (tR s).1 w).toNat).aP.length:=by
       first|omega|simp_all
      have hN1:∀j,j<(k+1)→∀y∈acc (tR t).1 (goS (tR t).1 w).toNat,andI (ix (ix (tR s).1.sT (goS (tR s).1 w).toNat).aP j) y≠u:=by
       intro j hj y hy
       by_cases e:j=k
       ·subst e
        obtain⟨i,hi,rfl⟩:=List.getElem_of_mem hy
        have hi:i<(ix (tR t).1.sT (goS (tR t).1 w).toNat).aP.length:=hi
        have:=hI1 i O
        rwa [ix_get hi] at this
       ·exact hI0 j O y hy
      exact ln (k+1) ⟨hN0,hN1⟩ dO ⟨id,id,id,id,id,id,id,id,id,id,tV⟩ ⟨rI,rI,rI,rI,tV⟩
    ·try simp at hc3
     refine ex (xt_ (xt_ (xb (th (sq (rg (bd (css:= []) T.st43 (eC (eC eZ)) trivial (bd (css:= []) T.st43 (eC (eC eZ)) trivial (sPA (cs':= [eqv (.slice none 0 0),eqv (.slice none 0 0)]) J J J T.agg43 J J (sPA (cs':= [eqv (.slice none 0 0),eqv (.slice none 0 0)]) J J J T.agg43 J J (ag (nl (th (rt ?_))))))))))))))
     have hnb:¬Both2 s t w u:=fun⟨_,_,_,x,hx,y,hy,hxy⟩=>by
      obtain⟨i,hi,rfl⟩:=List.getElem_of_mem hx
      have hi:i<(ix (tR s).1.sT (goS (tR s).1 w).toNat).aP.length:=hi
      have:=hI0 i O y hy
      rw[ix_get hi] at this
      exact this hxy
     refine kncA 8 0 (sl 1 rE_ []) rfl rfl slnil ?_
     refine kncA 8 1 (sl 1 gE []) rfl rfl slnil ?_
     refine kncA 9 0 (sl 1 rE_ []) rfl rfl slnil ?_
     refine kncA 9 1 (sl 1 gE []) rfl rfl slnil ?_
     exact rE ⟨((noSys,noSys),3),parts_none hpe hnb⟩ [.cell 8 43,.cell 9 43,.tmp 10] J [agg [sl 1 rE_ [],sl 1 gE []],agg [sl 1 rE_ [],sl 1 gE []],int 3] ⟨.agg J J T.agg43 J J,.agg J J T.agg43 J J,.tmp J,tV⟩ J trivial eX
theorem Next_ok (m:SSys) (hm:okSys m) (l:List Int) (hl:∀x∈l,0≤x∧x<(m.sT.length:Int)) (hll:l.length≤1000000) (a:Int):
 Fn0 Tryz.prog 82 [sys m,ints l,int a] (ints (nextM m l a)):=by
 refine fnI Tryz.func82 rfl rfl (fun w0 F0=> ?_)
 have f1:=hm.few1
 refine fcC (inhS 0 J) (fun hS0=> ?_)
 obtain⟨hma0,hms0,hme0⟩:=sys_lens hS0
 refine fcC (slenI 1 J) (fun hm1=> ?_)
 refine sq (rg (bx (key:=3) (cs:= [sl 1 rE_ m.aC,sl 1 gE m.sT]) J fun b3=>(ag (nl (th (sq (rg (fP J T.fld43_1 (lP J J J T.one41 (fc (slenI 16 J) fun hm16=>(lnF J T.sl41 (mk (key:=18) (m:=m.sT.length) (enc:=blE) (y:=false) J J T.mk143 (eC eZ) (by unfold maxL at*;omega) (by unfold maxL at*;omega) fun v18=>(ag (nl (th (sq (sq (rg (mv (lnF J T.sl36 (mv (nl (th (bk ?_))))))))))))))))))))))))
 have hI0_0:0≤l.length:=by
  first|omega|simp
 have hI0_1:NyS m l a 0 0 (List.replicate m.sT.length false):=by
  exact nys_zero
 refine lp (κ:=Nat × (List Bool)) (fun p=> [(2,int a),(3,ptr 3 b3 0),(6,eqv (.slice none 0 0)),(7,osl 18 v18),(19,sl 1 nE l),(20,int (l.length:Int)),(21,int (p.1:Int))]) (fun p=> [(3,cell b3 [sl 1 rE_ m.aC,sl 1 gE m.sT]),(18,own v18 4 1 blE p.2)]) (fun p=>(p.1≤l.length)∧(NyS m l a p.1 0 p.2)) (fun p=>l.length- p.1) ⟨0,List.replicate m.sT.length false⟩ ⟨hI0_0,hI0_1⟩ ⟨id,id,id,id,id,id,id,tV⟩ ⟨rI,rI,tV⟩ ?_
 intro⟨k,inb⟩ hG0
 obtain⟨hk0,hI0⟩:(k≤l.length)∧(NyS m l a k 0 inb):=hG0
 show Ct _ _ _ _ [(2,int a),(3,ptr 3 b3 0),(6,eqv (.slice none 0 0)),(7,osl 18 v18),(19,sl 1 nE l),(20,int (l.length:Int)),(21,int (k:Int))] [(3,cell b3 [sl 1 rE_ m.aC,sl 1 gE m.sT]),(18,own v18 4 1 blE inb)] _
 have hbl:=hI0.len
 refine sq (rg (bi J J b_lss (nl (th (sq ?_)))))
 refine cd J (fun hc0=> ?_) (fun hc0=> ?_)
 ·try simp at hc0
  have hlk:=hl _ (ix_memS hc0)
  have hes:=hm.ed (ix l k).toNat O
  have hmy:=hm.many (ix l k).toNat O
  refine sk (th (sq (bk (sq (rg (iF J J T.sl36 O gB (lF J J T.one3 (ag (nl (th (sq (rg (fP J T.fld43_1 (lP J J J T.one41 (mv (iF J J T.sl41 O gB (lF J J T.one103 (fc (slenI 29 J) fun hm29=>(lnF J T.sl103 (mv (nl (th (bk ?_)))))))))))))))))))))))
  have hI1_0:0≤(ix m.sT (ix l k).toNat).length:=by
   first|omega|simp
  have hI1_1:NyS m l a k 0 inb:=by
   exact hI0
  refine lp (κ:=Nat × (List Bool)) (fun p=> [(2,int a),(3,ptr 3 b3 0),(6,eqv (.slice none 0 0)),(7,osl 18 v18),(19,sl 1 nE l),(20,int (l.length:Int)),(21,int (k:Int)),(29,sl 2 pE (ix m.sT (ix l k).toNat)),(30,int ((ix m.sT (ix l k).toNat).length:Int)),(31,int (p.1:Int))]) (fun p=> [(3,cell b3 [sl 1 rE_ m.aC,sl 1 gE m.sT]),(18,own v18 4 1 blE p.2)]) (fun p=>(p.1≤(ix m.sT (ix l k).toNat).length)∧(NyS m l a k p.1 p.2)) (fun p=>(ix m.sT (ix l k).toNat).length- p.1) ⟨0,inb⟩ ⟨hI1_0,hI1_1⟩ ⟨id,id,id,id,id,id,id,id,id,id,tV⟩ ⟨rI,rI,tV⟩ ?_
  intro⟨k1,in2⟩ hG1
  obtain⟨hk1,hI1⟩:(k1≤(ix m.sT (ix l k).toNat).length)∧(NyS m l a k k1 in2):=hG1
  show Ct _ _ _ _ [(2,int a),(3,ptr 3 b3 0),(6,eqv (.slice none 0 0)),(7,osl 18 v18),(19,sl 1 nE l),(20,int (l.length:Int)),(21,int (k:Int)),(29,sl 2 pE (ix m.sT (ix l k).toNat)),(30,int ((ix m.sT (ix l k).toNat).length:Int)),(31,int (k1:Int))] [(3,cell b3 [sl 1 rE_ m.aC,sl 1 gE m.sT]),(18,own v18 4 1 blE in2)] _
  have hbl2:=hI1.len
  refine sq (rg (bi J J b_lss (nl (th (sq ?_)))))
  refine cd J (fun hc1=> ?_) (fun hc1=> ?_)
  ·try simp at hc1
   have hek:=hes _ (ix_memS (l:=(ix m.sT (ix l k).toNat)) (i:=k1) O)
   refine sk (th (sq (bk (sq (rg (iF J J T.sl103 O gB (lFA J T.agg105 (Nat.le_of_ble_eq_true J) (al (key:=11) T.z105 (eC (eC eZ)) fun b11=>(sPA (cs':= [int ((ix (ix m.sT (ix l k).toNat) k1).1),int ((ix (ix m.sT (ix l k).toNat) k1).2)]) J J J T.agg105 J J (nl (th (sq (rg (fP J T.fld105_0 (lP J J J T.one3 (mv (bi J J b_eql (nl (th ?_)))))))))))))))))))
   refine cd J (fun hc2=> ?_) (fun hc2=> ?_)
   ·try simp at hc2
    refine rg (mv (fP J T.fld105_1 (lP J J J T.one3 (iO J J J T.sl143 O O (sO (φ:=bl true) J J J T.one4 gB J (y':=true) J (nl (eb (th (rg (bi J J (b_add i6) (mv (nl ?_))))))))))))
    have hN0:(k1+1)≤(ix m.sT (ix l k).toNat).length:=by
     first|omega|simp_all
    have hN1:NyS m l a k (k1+1) (in2.set ((ix (ix m.sT (ix l k).toNat) k1).2).toNat true):=by
     exact nys_hit hI1 hc2 hek.2.2.1 hek.2.2.2
    exact ln (⟨k1+1,in2.set ((ix (ix m.sT (ix l k).toNat) k1).2).toNat true⟩:Nat × (List Bool)) ⟨hN0,hN1⟩ dO ⟨id,id,id,id,id,id,id,id,id,id,tV⟩ ⟨rI,rI,tV⟩
   ·try simp at hc2
    refine sk (eb (th (rg (bi J J (b_add i6) (mv (nl ?_))))))
    have hN0:(k1+1)≤(ix m.sT (ix l k).toNat).length:=by
     first|omega|simp_all
    have hN1:NyS m l a k (k1+1) in2:=by
     exact nys_miss hI1 hc2
    exact ln (⟨k1+1,in2⟩:Nat × (List Bool)) ⟨hN0,hN1⟩ dO ⟨id,id,id,id,id,id,id,id,id,id,tV⟩ ⟨rI,rI,tV⟩
  ·try simp at hc1
   refine ex (xt_ (xt_ (xb (eb (th (rg (bi J J (b_add i6) (mv (nl ?_)))))))))
   have hN0:(k+1)≤l.length:=by
    first|omega|simp_all
   have hN1:NyS m l a (k+1) 0 in2:=by
    rw[show k1=(ix m.sT (ix l k).toNat).length by omega] at hI1
    exact nys_next hI1
   exact ln (⟨k+1,in2⟩:Nat × (List Bool)) ⟨hN0,hN1⟩ dO ⟨id,id,id,id,id,id,id,tV⟩ ⟨rI,rI,tV⟩
 ·try simp at hc0
  refine ex (xt_ (xt_ (xb (th (sq (rg (nw 12 3 1 nE (ag (rtg (key:=12) 12 J (nl (th (sq (sq (rg (mv (lnO J J T.sl143 (mv (nl (th (bk ?_))))))))))))))))))))
  have hI2_0:0≤inb.length:=by
   first|omega|simp
  have hI2_1:([]:List Int)=((List.range 0).filter fun(x:Nat)=>ix inb x).map fun(x:Nat)=>(x:Int):=by
   rfl
  refine lp (κ:=Nat × Value × (List Int)) (fun p=> [(6,eqv (.slice none 0 0)),(12,osl 12 p.2.1),(45,osl 18 v18),(46,int (inb.length:Int)),(47,int (p.1:Int))]) (fun p=> [(3,cell b3 [sl 1 rE_ m.aC,sl 1 gE m.sT]),(12,own p.2.1 3 1 nE p.2.2),(18,own v18 4 1 blE inb)]) (fun p=>(p.1≤inb.length)∧(p.2.2=((List.range p.1).filter fun(x:Nat)=>ix inb x).map fun(x:Nat)=>(x:Int))) (fun p=>inb.length- p.1) ⟨0,(.slice none 0 0),([]:List Int)⟩ ⟨hI2_0,hI2_1⟩ ⟨id,id,id,id,id,tV⟩ ⟨rI,rI,rI,tV⟩ ?_
  intro⟨k2,v12x,out⟩ hG2
  obtain⟨hk2,hI2⟩:(k2≤inb.length)∧(out=((List.range k2).filter fun(x:Nat)=>ix inb x).map fun(x:Nat)=>(x:Int)):=hG2
  show Ct _ _ _ _ [(6,eqv (.slice none 0 0)),(12,osl 12 v12x),(45,osl 18 v18),(46,int (inb.length:Int)),(47,int (k2:Int))] [(3,cell b3 [sl 1 rE_ m.aC,sl 1 gE m.sT]),(12,own v12x 3 1 nE out),(18,own v18 4 1 blE inb)] _
  have hol:out.length≤k2:=by rw[hI2,List.length_map];exact Nat.le_trans (List.length_filter_le _ _) (by simp)
  refine sq (rg (bi J J b_lss (nl (th (sq ?_)))))
  refine cd J (fun hc3=> ?_) (fun hc3=> ?_)
  ·try simp at hc3
   refine sk (th (sq (bk (sq (rg (mv (iO J J J T.sl143 O O (lO J J gB J T.one4 (ag (ag (nl (th (sq (rg (mv (nl (th ?_)))))))))))))))))
   refine cd J (fun hc4=> ?_) (fun hc4=> ?_)
   ·try simp at hc4
    refine rg (mv (mv (bsE (enc:=nE) (xs:= [(k2:Int)]) (css:= [[int (k2:Int)]]) T.mk36 ⟨J,J,p1 (φ:=int (k2:Int)) J,tV⟩ J J J J (ap (key:=12) (zs:= [(k2:Int)]) osl_eq J J J T.mk36 (by unfold maxL at*;simp;omega) (by unfold maxL at*;simp;omega) fun v56=>(ag (nl (eb (th (rg (bi J J (b_add i6) (mv (nl ?_))))))))))))
    have hN0:(k2+1)≤inb.length:=by
     first|omega|simp_all
    have hN1:(out++ [(k2:Int)])=((List.range (k2+1)).filter fun(x:Nat)=>ix inb x).map fun(x:Nat)=>(x:Int):=by
     rw[List.range_succ,List.filter_append,List.map_append,←hI2]
     simp[hc4]
    exact ln (⟨k2+1,v56,out++ [(k2:Int)]⟩:Nat × Value × (List Int)) ⟨hN0,hN1⟩ dO ⟨id,id,id,id,id,tV⟩ ⟨rI,rI,rI,tV⟩
   ·try simp at hc4
    refine sk (eb (th (rg (bi J J (b_add i6) (mv (nl ?_))))))
    have hN0:(k2+1)≤inb.length:=by
     first|omega|simp_all
    have hN1:out=((List.range (k2+1)).filter fun(x:Nat)=>ix inb x).map fun(x:Nat)=>(x:Int):=by
     rw[List.range_succ,List.filter_append,List.map_append,←hI2]
     simp[hc4]
    exact ln (⟨k2+1,v12x,out⟩:Nat × Value × (List Int)) ⟨hN0,hN1⟩ dO ⟨id,id,id,id,id,tV⟩ ⟨rI,rI,rI,tV⟩
  ·try simp at hc3
   refine ex (xt_ (xt_ (xb (th (sq (rg (mv (ag (nl (th (rt ?_)))))))))))
   refine fzA 12 6 rfl rfl ?_
   have hr0:out=(nextM m l a):=by
    rw[show k=l.length by omega] at hI0
    rw[hI2,show k2=m.sT.length by have:=hI0.len;omega]
    exact nys_done hI0
   exact rE () [.tmp 6] J [sl 1 nE out] ⟨.tmp J,tV⟩ (cA1 (fun x0=>rV [sl 1 nE x0]) hr0) trivial eX
theorem After_ok (m:SSys) (hm:okSys m) (w:List Int):
 Fn0 Tryz.prog 73 [sys m,ints w] (ints (afterM m w)):=by
 refine fnI Tryz.func73 rfl rfl (fun w0 F0=> ?_)
 have f0:=hm.few0;have f1:=hm.few1
 refine fcC (inhS 0 J) (fun hS0=> ?_)
 obtain⟨hma0,hms0,hme0⟩:=sys_lens hS0
 refine fcC (slenI 1 J) (fun hm1=> ?_)
 refine sq (rg (bx (key:=2) (cs:= [sl 1 rE_ m.aC,sl 1 gE m.sT]) J fun b2=>(ag (nl (th (sq (rg (bsE (enc:=nE) (xs:= [0]) (css:= [[int 0]]) T.mk36 ⟨J,J,p1 (φ:=int 0) J,tV⟩ J J J J (ag (nl (th (sq (sq (rg (mv (lnF J T.sl36 (mv (nl (th (bk ?_))))))))))))))))))))
 have hI0_0:0≤w.length:=by
  first|omega|simp
 have hI0_1:([0]:List Int)=afterM m (w.take 0):=by
  rfl
 refine lp (κ:=Nat × (List Int)) (fun p=> [(2,ptr 2 b2 0),(4,eqv (.slice none 0 0)),(5,sl 1 nE p.2),(9,sl 1 nE w),(10,int (w.length:Int)),(11,int (p.1:Int))]) (fun p=> [(2,cell b2 [sl 1 rE_ m.aC,sl 1 gE m.sT])]) (fun p=>(p.1≤w.length)∧(p.2=afterM m (w.take p.1))) (fun p=>w.length- p.1) ⟨0,([0]:List Int)⟩ ⟨hI0_0,hI0_1⟩ ⟨id,id,id,id,id,id,tV⟩ ⟨rI,tV⟩ ?_
 intro⟨k,l⟩ hG0
 obtain⟨hk0,hI0⟩:(k≤w.length)∧(l=afterM m (w.take k)):=hG0
 show Ct _ _ _ _ [(2,ptr 2 b2 0),(4,eqv (.slice none 0 0)),(5,sl 1 nE l),(9,sl 1 nE w),(10,int (w.length:Int)),(11,int (k:Int))] [(2,cell b2 [sl 1 rE_ m.aC,sl 1 gE m.sT])] _
 refine sq (rg (bi J J b_lss (nl (th (sq ?_)))))
 refine cd J (fun hc0=> ?_) (fun hc0=> ?_)
 ·try simp at hc0
  have hlb:∀x∈l,0≤x∧x<(m.sT.length:Int):=fun x hx=>by rw[hI0] at hx;exact after_bd O _ x hx
  have hll:l.length≤m.sT.length:=by rw[hI0];exact after_len O _
  refine sk (th (sq (bk (sq (rg (iF J J T.sl36 O gB (lF J J T.one3 (ag (nl (th (rg (lPA J J T.agg43 J (mv (mv (cal0 (φs:= [agg [sl 1 rE_ m.aC,sl 1 gE m.sT],sl 1 nE l,int (ix w k)]) (φ:=sl 1 nE (nextM m l (ix w k))) ⟨J,J,J,tV⟩ (prodp.Next_ok m aS l aS O (ix w k)) T.ent82 (ag (nl (eb (th (rg (bi J J (b_add i6) (mv (nl ?_)))))))))))))))))))))))
  have hN0:(k+1)≤w.length:=by
   first|omega|simp_all
  have hN1:(nextM m l (ix w k))=afterM m (w.take (k+1)):=by
   rw[after_take hc0,←hI0]
  exact ln (⟨k+1,nextM m l (ix w k)⟩:Nat × (List Int)) ⟨hN0,hN1⟩ dO ⟨id,id,id,id,id,id,tV⟩ ⟨rI,tV⟩
 ·try simp at hc0
  refine ex (xt_ (xt_ (xb (th (sq (rg (mv (ag (nl (th (rt ?_)))))))))))
  have hr0:l=(afterM m w):=by
   rw[hI0,show k=w.length by omega,List.take_length]
  exact rE () [.tmp 4] J [sl 1 nE l] ⟨.tmp J,tV⟩ (cA1 (fun x0=>rV [sl 1 nE x0]) hr0) trivial eX
theorem Shows_ok (m n:SSys) (hm:okSys m) (hn:okSys n) (w:List Int) (u:Int):
 Fn0 Tryz.prog 25 [sys m,sys n,ints w,int u] (bl (showB m n w u)):=by
 refine fnI Tryz.func25 rfl rfl (fun w0 F0=> ?_)
 have f0:=hm.few0;have f1:=hm.few1;have g0:=hn.few0;have g1:=hn.few1
 have hla:=after_len (m:=m) O w
 have hlb:=after_len (m:=n) O w
 have hba:=after_bd (m:=m) O w
 have hbb:=after_bd (m:=n) O w
 refine fcC (inhS 0 J) (fun hS0=> ?_)
 obtain⟨hma0,hms0,hme0⟩:=sys_lens hS0
 refine fcC (inhS 1 J) (fun hS1=> ?_)
 obtain⟨hma1,hms1,hme1⟩:=sys_lens hS1
 refine fcC (slenI 2 J) (fun hm2=> ?_)
 refine sq (rg (bx (key:=4) (cs:= [sl 1 rE_ m.aC,sl 1 gE m.sT]) J fun b4=>(bx (key:=5) (cs:= [sl 1 rE_ n.aC,sl 1 gE n.sT]) J fun b5=>(ag (nl (th (sq (sq (rg (lPA J J T.agg43 J (mv (cal0 (φs:= [agg [sl 1 rE_ m.aC,sl 1 gE m.sT],sl 1 nE w]) (φ:=sl 1 nE (afterM m w)) ⟨J,J,tV⟩ (prodp.After_ok m aS w) T.ent73 (fc (slenI 15 J) fun hm15=>(lnF J T.sl36 (mv (nl (th (bk ?_))))))))))))))))))
 have hI0_0:0≤(afterM m w).length:=by
  first|omega|simp
 have hI0_1:∀j,j<0→∀y∈afterM n w,andI (offM m (ix (afterM m w) j).toNat) (offM n y.toNat)≠u:=by
  intro j hj;omega
 refine lp (κ:=Nat) (fun p=> [(2,sl 1 nE w),(3,int u),(4,ptr 4 b4 0),(5,ptr 5 b5 0),(15,sl 1 nE (afterM m w)),(16,int ((afterM m w).length:Int)),(17,int (p:Int))]) (fun p=> [(4,cell b4 [sl 1 rE_ m.aC,sl 1 gE m.sT]),(5,cell b5 [sl 1 rE_ n.aC,sl 1 gE n.sT])]) (fun p=>(p≤(afterM m w).length)∧(∀j,j<p→∀y∈afterM n w,andI (offM m (ix (afterM m w) j).toNat) (offM n y.toNat)≠u)) (fun p=>(afterM m w).length- p) 0 ⟨hI0_0,hI0_1⟩ ⟨id,id,id,id,id,id,id,tV⟩ ⟨rI,rI,tV⟩ ?_
 intro k hG0
 obtain⟨hk0,hI0⟩:(k≤(afterM m w).length)∧(∀j,j<k→∀y∈afterM n w,andI (offM m (ix (afterM m w) j).toNat) (offM n y.toNat)≠u):=hG0
 refine sq (rg (bi J J b_lss (nl (th (sq ?_)))))
 refine cd J (fun hc0=> ?_) (fun hc0=> ?_)
 ·try simp at hc0
  have hxk:=hba _ (ix_memS (l:=afterM m w) (i:=k) O)
  have hm8:=off8 hm (x:=(ix (afterM m w) k).toNat) O
  have hob:=offM_bd hm (x:=(ix (afterM m w) k).toNat) O
  refine sk (th (sq (bk (sq (rg (iF J J T.sl36 O gB (lF J J T.one3 (ag (nl (th (sq (rg (lPA J J T.agg43 J (mv (cal0 (φs:= [agg [sl 1 rE_ n.aC,sl 1 gE n.sT],sl 1 nE w]) (φ:=sl 1 nE (afterM n w)) ⟨J,J,tV⟩ (prodp.After_ok n aS w) T.ent73 (fc (slenI 23 J) fun hm23=>(lnF J T.sl36 (mv (nl (th (bk ?_)))))))))))))))))))))
  have hI1_0:0≤(afterM n w).length:=by
   first|omega|simp
  have hI1_1:∀j,j<0→andI (offM m (ix (afterM m w) k).toNat) (offM n (ix (afterM n w) j).toNat)≠u:=by
   intro j hj;omega
  refine lp (κ:=Nat) (fun p=> [(2,sl 1 nE w),(3,int u),(4,ptr 4 b4 0),(5,ptr 5 b5 0),(10,int (ix (afterM m w) k)),(15,sl 1 nE (afterM m w)),(16,int ((afterM m w).length:Int)),(17,int (k:Int)),(23,sl 1 nE (afterM n w)),(24,int ((afterM n w).length:Int)),(25,int (p:Int))]) (fun p=> [(4,cell b4 [sl 1 rE_ m.aC,sl 1 gE m.sT]),(5,cell b5 [sl 1 rE_ n.aC,sl 1 gE n.sT])]) (fun p=>(p≤(afterM n w).length)∧(∀j,j<p→andI (offM m (ix (afterM m w) k).toNat) (offM n (ix (afterM n w) j).toNat)≠u)) (fun p=>(afterM n w).length- p) 0 ⟨hI1_0,hI1_1⟩ ⟨id,id,id,id,id,id,id,id,id,id,id,tV⟩ ⟨rI,rI,tV⟩ ?_
  intro k1 hG1
  obtain⟨hk1,hI1⟩:(k1≤(afterM n w).length)∧(∀j,j<k1→andI (offM m (ix (afterM m w) k).toNat) (offM n (ix (afterM n w) j).toNat)≠u):=hG1
  refine sq (rg (bi J J b_lss (nl (th (sq ?_)))))
  refine cd J (fun hc1=> ?_) (fun hc1=> ?_)
  ·try simp at hc1
   have hyk:=hbb _ (ix_memS (l:=afterM n w) (i:=k1) O)
   have hn8:=off8 hn (x:=(ix (afterM n w) k1).toNat) O
   have hpb:=offM_bd hn (x:=(ix (afterM n w) k1).toNat) O
   refine sk (th (sq (bk (sq (rg (iF J J T.sl36 O gB (lF J J T.one3 (ag (nl (th (sq (dr (nh:=9) [0,0,3,0,0,31,63,0,255] T.mixed kR ?_))))))))))))
   refine st_ J (fun _ _ _ gq kq=>lPA (gq.1.trans J) J T.agg43 J kq) ?_
   refine st_ J (fun _ _ _ gq kq=>mv' (gq.1.trans J) kq) ?_
   refine st_ J (fun _ _ _ gq kq=>cal0 (φs:= [agg [sl 1 rE_ m.aC,sl 1 gE m.sT],int (ix (afterM m w) k)]) (φ:=int (offM m (ix (afterM m w) k).toNat)) ⟨(gq.1.trans J),(gq.2.1.trans J),tV⟩ (divs.Offer_ok m (ix (afterM m w) k) aS O O) T.ent74 kq) ?_
   refine st_ J (fun _ _ _ gq kq=>lPA (gq.1.trans J) J T.agg43 J kq) ?_
   refine st_ J (fun _ _ _ gq kq=>mv' (gq.1.trans J) kq) ?_
   refine st_ J (fun _ _ _ gq kq=>cal0 (φs:= [agg [sl 1 rE_ n.aC,sl 1 gE n.sT],int (ix (afterM n w) k1)]) (φ:=int (offM n (ix (afterM n w) k1).toNat)) ⟨(gq.1.trans J),(gq.2.1.trans J),tV⟩ (divs.Offer_ok n (ix (afterM n w) k1) aS O O) T.ent74 kq) ?_
   refine st_ J (fun _ _ _ gq kq=>bi (gq.1.trans J) (gq.2.1.trans J) (b_andI O O O O) kq) ?_
   refine st_ J (fun _ _ _ gq kq=>mv' (gq.1.trans J) kq) ?_
   refine st_ J (fun _ _ _ gq kq=>bi (gq.1.trans J) (gq.2.1.trans J) b_eql kq) ?_
   refine pn (nl (th ?_))
   refine cd J (fun hc2=> ?_) (fun hc2=> ?_)
   ·skip
    have hau:andI (offM m (ix (afterM m w) k).toNat) (offM n (ix (afterM n w) k1).toNat)=u:=of_decide_eq_true hc2
    refine sq (rg (ag (nl (th (rt (rb (rt_ (rt_ (rb (rb (rt_ (rt_ (rb (rt_ ?_))))))))))))))
    have hr0:true=(showB m n w u):=by
     unfold showB
     symm
     rw[List.any_eq_true]
     exact⟨_,ix_memS (l:=afterM m w) (i:=k) O,List.any_eq_true.2 ⟨_,ix_memS (l:=afterM n w) (i:=k1) O,decide_eq_true hau⟩⟩
    exact rE () [.tmp 8] J [bl true] ⟨.tmp J,tV⟩ (cA1 (fun x0=>rV [bl x0]) hr0) trivial eX
   ·skip
    have hau:andI (offM m (ix (afterM m w) k).toNat) (offM n (ix (afterM n w) k1).toNat)≠u:=of_decide_eq_false hc2
    refine sk (eb (th (rg (bi J J (b_add i6) (mv (nl ?_))))))
    have hN0:(k1+1)≤(afterM n w).length:=by
     first|omega|simp_all
    have hN1:∀j,j<(k1+1)→andI (offM m (ix (afterM m w) k).toNat) (offM n (ix (afterM n w) j).toNat)≠u:=by
     intro j hj
     by_cases e:j=k1
     ·subst e;exact hau
     ·exact hI1 j O
    exact ln (k1+1) ⟨hN0,hN1⟩ dO ⟨id,id,id,id,id,id,id,id,id,id,id,tV⟩ ⟨rI,rI,tV⟩
  ·try simp at hc1
   refine ex (xt_ (xt_ (xb (eb (th (rg (bi J J (b_add i6) (mv (nl ?_)))))))))
   have hN0:(k+1)≤(afterM m w).length:=by
    first|omega|simp_all
   have hN1:∀j,j<(k+1)→∀y∈afterM n w,andI (offM m (ix (afterM m w) j).toNat) (offM n y.toNat)≠u:=by
    intro j hj y hy
    by_cases e:j=k
    ·subst e
     obtain⟨i,hi,rfl⟩:=List.getElem_of_mem hy
     have:=hI1 i O
     rwa [ix_get hi] at this
    ·exact hI0 j O y hy
   exact ln (k+1) ⟨hN0,hN1⟩ dO ⟨id,id,id,id,id,id,id,tV⟩ ⟨rI,rI,tV⟩
 ·try simp at hc0
  refine ex (xt_ (xt_ (xb (th (sq (rg (ag (nl (th (rt ?_))))))))))
  have hr0:false=(showB m n w u):=by
   unfold showB
   symm
   rw[List.any_eq_false]
   intro x hx g
   obtain⟨y,hy,g⟩:=List.any_eq_true.1 g
   obtain⟨i,hi,rfl⟩:=List.getElem_of_mem hx
   have:=hI0 i O y hy
   rw[ix_get hi] at this
   exact this (of_decide_eq_true g)
  exact rE () [.tmp 8] J [bl false] ⟨.tmp J,tV⟩ (cA1 (fun x0=>rV [bl x0]) hr0) trivial eX
end prodp
end
section
open ref01 ref03 ref04 ref06 prog prog2 prog3 prog6 prog13 prog15 starts search Part Rungs LeftM TrimM RoundM BisM BisM5 BisM6 WalkM StepM WitM JudgM refw judg wit sysw
noncomputable def fineSE (m:SSys) (s:SS):Int:=if sysOK m=true then(if specOK s=true then(if m.aC=s.aC then 0 else 10) else 30) else 20
structure SatOK (m:SSys) (s:SS) (v:VJ):Prop where
 ok:fineSE m s=0→JudgeOK m s v
 no:fineSE m s≠0→v=⟨false,[],[],0⟩
namespace T
theorem ent138:Ent Tryz.prog 138:=ent_of kR
end T
namespace satj
theorem Fine_ok (m:SSys) (s:SS) (hs:smallSpec s):
 Fn0 Tryz.prog 83 [sys m,spec s] (int (fineSE m s)):=by
 refine fnI Tryz.func83 rfl rfl (fun w0 F0=> ?_)
 refine fcC (inhS 0 J) (fun hS0=> ?_)
 obtain⟨hma0,hms0,hme0⟩:=sys_lens hS0
 refine fcC (inhS 1 J) (fun hS1=> ?_)
 obtain⟨hsa1,hss1,hse1⟩:=sLn hS1
 refine sq (rg (bx (key:=2) (cs:= [sl 1 rE_ m.aC,sl 1 gE m.sT]) J fun b2=>(bx (key:=3) (cs:= [sl 1 rE_ s.aC,sl 2 sE s.sT]) J fun b3=>(ag (nl (th (sq (bk (sq (rg (lPA J J T.agg43 J (cal0 (φs:= [agg [sl 1 rE_ m.aC,sl 1 gE m.sT]]) (φ:=bl (sysOK m)) ⟨J,tV⟩ (sysw.Valid_ok m) T.ent138 (no J (ag (nl (th ?_))))))))))))))))
 refine cd J (fun hc0=> ?_) (fun hc0=> ?_)
 ·try simp at hc0
  refine sq (rg (ag (nl (th (rt (rb (rt_ ?_)))))))
  have hr0:(20:Int)=(fineSE m s):=by
   unfold fineSE;rw[if_neg (by simp[hc0])]
  exact rE () [.tmp 4] J [int 20] ⟨.tmp J,tV⟩ (cA1 (fun x0=>rV [int x0]) hr0) trivial eX
 ·try simp at hc0
  refine sq (rg (lPA J J T.agg25 J (cal0 (φs:= [agg [sl 1 rE_ s.aC,sl 2 sE s.sT]]) (φ:=bl (specOK s)) ⟨J,tV⟩ (prog2.Valid_ok s aS) T.ent111 (no J (ag (nl (th ?_)))))))
  refine cd J (fun hc1=> ?_) (fun hc1=> ?_)
  ·try simp at hc1
   refine sq (rg (ag (nl (th (rt (rb (rt_ ?_)))))))
   have hr0:(30:Int)=(fineSE m s):=by
    unfold fineSE;rw[if_pos (by simpa using hc0),if_neg (by simp[hc1])]
   exact rE () [.tmp 4] J [int 30] ⟨.tmp J,tV⟩ (cA1 (fun x0=>rV [int x0]) hr0) trivial eX
  ·try simp at hc1
   refine sq (rg (fP J T.fld43_0 (lP J J J T.one22 (fP J T.fld25_0 (lP J J J T.one22 (cal0 (φs:= [sl 1 rE_ m.aC,sl 1 rE_ s.aC]) (φ:=bl (decide (m.aC=s.aC))) ⟨J,J,tV⟩ (prog.sEqualstrE_ok _ _) T.ent112 (no J (ag (nl (th ?_))))))))))
   refine cd J (fun hc2=> ?_) (fun hc2=> ?_)
   ·try simp at hc2
    refine sq (rg (ag (nl (th (rt (rb (rt_ ?_)))))))
    have hr0:(10:Int)=(fineSE m s):=by
     unfold fineSE;rw[if_pos (by simpa using hc0),if_pos (by simpa using hc1),if_neg hc2]
    exact rE () [.tmp 4] J [int 10] ⟨.tmp J,tV⟩ (cA1 (fun x0=>rV [int x0]) hr0) trivial eX
   ·try simp at hc2
    refine sk (eb (th (sq (rg (ag (nl (th (rt ?_))))))))
    have hr0:(0:Int)=(fineSE m s):=by
     unfold fineSE;rw[if_pos (by simpa using hc0),if_pos (by simpa using hc1),if_pos hc2]
    exact rE () [.tmp 4] J [int 0] ⟨.tmp J,tV⟩ (cA1 (fun x0=>rV [int x0]) hr0) trivial eX
end satj
end
section
namespace BesM
open ref01 ref03 ref04 ref06 Part Rungs LeftM TrimM RoundM MergeM BisM BisM4 BisM5 Keys WalkM WitM JudgM LevM divr divs divd dive divf divv judg sysw satj ChsM BisS TrimI QuoM FailM DivM RefM GenW CompM CompP prodp
abbrev Sd:=List Int × Int
def offL (m:SSys) (l:List Int):List Int:=l.map fun x=>offM m x.toNat
def sA (m:SSys) (t:SS) (p:Sd):List Int:=crossL (offL m p.1) (acc t p.2.toNat)
def sN (m:SSys) (t:SS) (p:Sd) (a:Nat):Sd:=(nextM m p.1 (a:Int),ix (nxt t p.2.toNat) a)
structure sOk (m:SSys) (t:SS) (p:Sd):Prop where
 rise:p.1.Pairwise (· < ·)
 bd:∀x∈p.1,0≤x∧x<(m.sT.length:Int)
 x0:0≤p.2
 x1:p.2<(t.sT.length:Int)
def skey (p:Sd):ByteArray:=keyB p.2 p.1
theorem off_bd {m:SSys} (hm:okSys m) {l:List Int} (h:∀x∈l,0≤x∧x<(m.sT.length:Int)):∀u∈offL m l,0≤u∧u<256:=fun u hu=>by
 obtain⟨x,hx,rfl⟩:=List.mem_map.1 hu
 have:=h x hx
 exact offM_bd hm O
theorem sA_mem {m:SSys} {t:SS} (hm:okSys m) {p:Sd} (hp:sOk m t p) {u:Int}:u∈sA m t p↔∃x∈offL m p.1,∃y∈acc t p.2.toNat,andI x y=u:=cross_mem (off_bd hm hp.bd)
theorem next_rise (m:SSys) (l:List Int) (a:Int):(nextM m l a).Pairwise (· < ·):=by
 unfold nextM
 rw[List.pairwise_map]
 refine List.Pairwise.imp ?_ ((List.pairwise_lt_range (n:=m.sT.length)).filter _)
 intro a b h;omega
theorem next_bd (m:SSys) (l:List Int) (a:Int):∀x∈nextM m l a,0≤x∧x<(m.sT.length:Int):=fun x hx=>by
 obtain⟨k,rfl,hk,_⟩:=next_mem.1 hx
 omega
theorem sN_go {m:SSys} {t:SS} (hm:okSys m) (ht:oK t) {p:Sd} (hp:sOk m t p) {a:Nat} (h:has (orAll (sA m t p)) (a:Int)=true):a<t.aC.length∧sOk m t (sN m t p a):=by
 obtain⟨u,hu,hh⟩:=(orAll_has _ _).1 h
 obtain⟨x,hx,y,hy,rfl⟩:=(sA_mem hm hp).1 hu
 rw[QuoM.has_and,Bool.and_eq_true] at hh
 have h1:=hp.x0
 have h2:=hp.x1
 have g:=or_go ht (x:=p.2.toNat) O ((orAll_has _ _).2 ⟨y,hy,hh.2⟩)
 exact⟨g.1,next_rise _ _ _,next_bd _ _ _,g.2.1,g.2.2⟩
theorem skey_inj {m:SSys} {t:SS} {p q:Sd} (hp:sOk m t p) (hq:sOk m t q) (h:skey p=skey q):p=q:=by
 have:=keyB_inj hp.x0 hq.x0 (fun x hx=>(hp.bd x hx).1) (fun x hx=>(hq.bd x hx).1) h
 exact Prod.ext this.2 this.1
def incL:Nat→List (List Int)
 |0=> [[]]
 |n+1=>incL n++(incL n).map (· ++ [(n:Int)])
theorem inc_len:∀n,(incL n).length=2^n
 |0=>rfl
 |n+1=>by
  show(incL n++(incL n).map _).length=_
  rw[List.length_append,List.length_map,inc_len n,Nat.pow_succ];omega
theorem inc_mem:∀(n:Nat) (l:List Int),l.Pairwise (· < ·)→(∀x∈l,0≤x∧x<(n:Int))→l∈incL n
 |0,l,_,hb=>by
  match l with
  | []=>exact List.mem_singleton.2 rfl
  |x::l=>have:=hb x (by simp);omega
 |n+1,l,hr,hb=>by
  show l∈incL n++(incL n).map _
  rcases List.eq_nil_or_concat l with rfl|⟨q,y,rfl⟩
  ·exact List.mem_append.2 (.inl (inc_mem n [] List.Pairwise.nil (fun x hx=>by cases hx)))
  ·rw[List.concat_eq_append] at hr hb ⊢
   obtain⟨h1,_,h3⟩:=List.pairwise_append.1 hr
   have hy:=hb y (by simp)
   by_cases e:y=(n:Int)
   ·subst e
    exact List.mem_append.2 (.inr (List.mem_map.2 ⟨q,inc_mem n q h1 (fun x hx=>⟨(hb x (by simp[hx])).1,h3 x hx _ (by simp)⟩),rfl⟩))
   ·refine List.mem_append.2 (.inl (inc_mem n _ hr (fun x hx=>⟨(hb x hx).1,?_⟩)))
    rcases List.mem_append.1 hx with g|g
    ·have:=h3 x g y (by simp);omega
    ·rw[List.mem_singleton.1 g];omega
theorem s_few (n t:Nat) (l:List Sd) (hnd:l.Nodup) (hb:∀p∈l,p.1.Pairwise (· < ·)∧(∀x∈p.1,0≤x∧x<(n:Int))∧0≤p.2∧p.2<(t:Int)):l.length≤2^n*t:=by
 have hs:l ⊆ (incL n).flatMap fun s=>(List.range t).map fun(x:Nat)=>((s,(x:Int)):Sd):=fun p hp=>by
  obtain⟨h1,h2,h3,h4⟩:=hb p hp
  refine List.mem_flatMap.2 ⟨p.1,inc_mem n p.1 h1 h2,List.mem_map.2 ⟨p.2.toNat,List.mem_range.2 O,?_⟩⟩
  exact Prod.ext rfl (by show((p.2.toNat:Nat):Int)=p.2;omega)
 have hl:=List.Nodup.length_le_of_subset hnd hs
 have e:∀q:List (List Int),(q.flatMap fun s=>(List.range t).map fun(x:Nat)=>((s,(x:Int)):Sd)).length=q.length*t:=by
  intro q
  induction q with
  |nil=>simp
  |cons s q ih=>rw[List.flatMap_cons,List.length_append,ih,List.length_map,List.length_range,List.length_cons,Nat.add_mul];omega
 rw[e,inc_len] at hl
 exact hl
theorem s_GS {m:SSys} {t:SS} (hm:okSys m) (ht:oK t) (hal:m.aC.length=t.aC.length):GS (sA m t) (sN m t) (sOk m t) skey m.aC.length (2^m.sT.length*t.sT.length) where
 inj:=fun p q hp hq h=>skey_inj hp hq h
 acts:=fun p hp a h=>by
  obtain⟨b,rfl,_,hb⟩:=listOf_mem.1 h
  rw[Int.toNat_natCast]
  exact(sN_go hm ht hp hb).2
 few:=fun l hn h=>s_few _ _ l hn fun p hp=>⟨(h p hp).rise,(h p hp).bd,(h p hp).x0,(h p hp).x1⟩
 hasn:=fun p hp a h=>by rw[hal];exact(sN_go hm ht hp h).1
 n8:=hm.n8
theorem s_zero {m:SSys} {t:SS} (hm:okSys m) (ht:oK t):sOk m t ([0],0):=by
 have f1:=hm.few0
 have f2:=ht.few0
 exact⟨List.pairwise_singleton _ _,fun x hx=>by rw[List.mem_singleton.1 (show x∈[(0:Int)] from hx)];omega,by simp,by show(0:Int)<_;omega⟩
def sL (m:SSys) (t:SS):List Sd:=runL (sA m t) (sN m t) (2^m.sT.length*t.sT.length) 0 [([0],0)]
def sD (m:SSys) (t:SS):SS:=⟨m.aC,(sL m t).map (ofL (sA m t) (sN m t) m.aC.length (sL m t))⟩
theorem s_walk {m:SSys} {t:SS} (hm:okSys m) (ht:oK t) (hal:m.aC.length=t.aC.length):Walk (sA m t) (sN m t) (sOk m t) ([0],0) (sL m t).length (sL m t):=walk_G (s_GS hm ht hal) (s_zero hm ht)
theorem s_numb {m:SSys} {t:SS} (hm:okSys m) (ht:oK t) (hal:m.aC.length=t.aC.length):Numb (sA m t) (sN m t) m.aC.length ([0],0) (sL m t) (sD m t):=numb_G (s_GS hm ht hal) (s_walk hm ht hal) _
theorem s_len {m:SSys} {t:SS} (hm:okSys m) (ht:oK t) (hal:m.aC.length=t.aC.length):(sL m t).length≤2^m.sT.length*t.sT.length:=(s_GS hm ht hal).few _ (s_walk hm ht hal).nd (s_walk hm ht hal).ok
structure NumS (m:SSys) (t:SS) (l:List Sd) (D:SS):Prop where
 numb:Numb (sA m t) (sN m t) m.aC.length ([0],0) l D
 ok:∀p∈l,sOk m t p
 acts:D.aC=m.aC
theorem nums_ok {m:SSys} {t:SS} (hm:okSys m) (ht:oK t) (ha:m.aC.length=t.aC.length) {l:List Sd} {D:SS} (h:NumS m t l D) (hl:l.length≤10000):oK D:=
 numb_ok h.numb (by rw[h.acts];exact hm.acts) (by rw[h.acts]) hl (fun p _ u hu=>cross_sub hu) (fun p hp a g=>by rw[ha];exact(sN_go hm ht (h.ok p hp) g).1) (fun p _=>pw_rising (cross_rise _ _))
noncomputable def besS (m:SSys) (t:SS):SS × Int:=
 if fineSE m t=0 then
  (if ix (hOl t) 0=true then(nothing t.aC,0)
   else if (sL m (tR t).1).length≤500 then((tR (sD m (tR t).1)).1,0) else(⟨[],[]⟩,2))
 else(⟨[],[]⟩,fineSE m t)
def largeS (m:SSys) (t:SS):Bool:=decide ((500:Int)<(t.sT.length:Int)*((2^m.sT.length:Nat):Int))
structure RefS (m:SSys) (t D:SS):Prop where
 hol:ix (hOl t) 0=true→D=nothing t.aC
 num:ix (hOl t) 0=false→∃l,NumS m (tR t).1 l D∧l.length≤2^m.sT.length*t.sT.length
theorem trimS_len {m:SSys} {t:SS} (ht:oK t):2^m.sT.length*(tR t).1.sT.length≤2^m.sT.length*t.sT.length:=Nat.mul_le_mul_left _ (trim_len ht)
theorem fineS_ok {m:SSys} {t:SS} (h:fineSE m t=0):sysOK m=true∧specOK t=true∧m.aC=t.aC:=by
 unfold fineSE at h
 split at h
 ·next h1=>
  split at h
  ·next h2=>
   split at h
   ·next h3=>exact⟨h1,h2,h3⟩
   ·cases h
  ·cases h
 ·cases h
theorem refs_ok {m:SSys} {t D:SS} (hm:okSys m) (ht:oK t) (ha:m.aC=t.aC) (h:RefS m t D) (hz:2^m.sT.length*t.sT.length≤10000):oK D:=by
 cases e:ix (hOl t) 0 with
 |true=>rw[h.hol e];exact nothing_ok ht.acts
 |false=>
  obtain⟨l,h1,h2⟩:=h.num e
  exact nums_ok hm (trim_ok ht) (by rw[trim_acts,ha]) h1 O
theorem bes_same {m:SSys} {t D:SS} (hf:fineSE m t=0) (h:RefS m t D) (hz:2^m.sT.length*t.sT.length≤10000) (hq:(besS m t).2=0):Same (besS m t).1 D:=by
 obtain⟨k1,k2,ha⟩:=fineS_ok hf
 have hm:=sysOK_ok k1
 have ht:=okSpec_of k2
 have hD:=refs_ok hm ht ha h hz
 unfold besS at hq ⊢
 rw[if_pos hf] at hq ⊢
 cases e:ix (hOl t) 0 with
 |true=>
  rw[if_pos rfl,h.hol e]
  have hno:=nothing_ok ht.acts
  exact⟨hno,by show 1≤500;omega,rfl,nothing_trim _,ref_refl hno,ref_refl hno⟩
 |false=>
  rw[e] at hq
  rw[if_neg (by simp)] at hq ⊢
  split at hq
  ·next g=>
   rw[if_pos g]
   obtain⟨l,h1,h2⟩:=h.num e
   have hT:=trim_ok ht
   have hal:m.aC.length=(tR t).1.aC.length:=by rw[trim_acts,ha]
   have hok:oK (sD m (tR t).1):=nums_ok hm hT hal ⟨s_numb hm hT hal,(s_walk hm hT hal).ok,rfl⟩ O
   have hac:(sD m (tR t).1).aC=D.aC:=h1.acts.symm
   have hr:=numb_ref hok hD hac (s_numb hm hT hal) h1.numb
   have hr2:=ref_trim hok hD hac hr
   refine⟨trim_ok hok,?_,by rw[trim_acts];exact hac,trim_trim hok,hr2.1,hr2.2⟩
   have:=trim_len hok
   have e2:(sD m (tR t).1).sT.length=(sL m (tR t).1).length:=by simp[sD]
   show(tR (sD m (tR t).1)).1.sT.length≤500
   omega
  ·cases hq
theorem told_b {m:SSys} {t D:SS} (hf:fineSE m t=0) (h:RefS m t D) (hz:2^m.sT.length*t.sT.length≤10000):toldB (besS m t).1 (besS m t).2 0 D (largeS m t)=true:=by
 obtain⟨k1,k2,ha⟩:=fineS_ok hf
 have hm:=sysOK_ok k1
 have ht:=okSpec_of k2
 unfold toldB
 rw[if_pos rfl]
 by_cases g:(besS m t).2=0
 ·rw[fine_same (bes_same hf h hz g),decide_eq_true g]
  simp
 ·unfold besS at g ⊢
  rw[if_pos hf] at g ⊢
  cases e:ix (hOl t) 0 with
  |true=>rw[e,if_pos rfl] at g;exact absurd rfl g
  |false=>
   rw[e] at g
   rw[if_neg (by simp)] at g ⊢
   split at g
   ·exact absurd rfl g
   ·next q=>
    rw[if_neg q]
    have h1:=s_len hm (trim_ok ht) (by rw[trim_acts,ha])
    have h2:=trimS_len (m:=m) ht
    have hl:largeS m t=true:=by
     unfold largeS
     rw[decide_eq_true_eq,←Int.natCast_mul,Nat.mul_comm]
     omega
    rw[hl];rfl
theorem told_bno {m:SSys} {t:SS} (hf:fineSE m t≠0) (D:SS) (b:Bool):toldB (besS m t).1 (besS m t).2 (fineSE m t) D b=true:=by
 unfold toldB besS
 rw[if_neg hf,if_neg hf]
 simp[isNone]
end BesM
end
section
open ref01 ref03 ref04 ref06 prog prog2 prog3 prog4 prog5 prog6 prog7 prog8 prog9 prog13 prog15 starts Part Rungs LeftM TrimM Itoa Keys RoundM MergeM BisM BisM4 BisM5 WalkM StepM WitM JudgM JudgM2 refw judg wit refj sysw satj divr divs divd dive divg divw divv LevM LevM2 ChsM TrimI QuoM FailM DivM RefM GenW CompM CrossM CompP EncM prodc divp prodm prodp BesM shelfI
def sdE (p:Sd):List AV:= [ints p.1,int p.2]
instance (p:Sd):OneAll (sdE p):=inferInstanceAs (OneAll [ints p.1,int p.2])
def thnE (m:SSys) (a:Int) (x:Int):List Int:=((edg m x.toNat).filter fun e=>decide (e.1=a)).map Prod.snd
def thnL (m:SSys) (l:List Int) (a:Int):List Int:=l.flatMap (thnE m a)
theorem thn_snoc {m:SSys} {l:List Int} {a:Int} {k:Nat} (h:k<l.length):thnL m (l.take (k+1)) a=thnL m (l.take k) a++thnE m a (ix l k):=by
 unfold thnL
 rw[take_s h,List.flatMap_append];simp
theorem thn_hit {m:SSys} {a x:Int} {j:Nat} (hj:j<(edg m x.toNat).length) (h:(ix (edg m x.toNat) j).1=a):(((edg m x.toNat).take (j+1)).filter fun e=>decide (e.1=a)).map Prod.snd=(((edg m x.toNat).take j).filter fun e=>decide (e.1=a)).map Prod.snd++ [(ix (edg m x.toNat) j).2]:=by
 rw[take_s hj,List.filter_append,List.map_append]
 simp[h]
theorem thn_miss {m:SSys} {a x:Int} {j:Nat} (hj:j<(edg m x.toNat).length) (h:(ix (edg m x.toNat) j).1≠a):(((edg m x.toNat).take (j+1)).filter fun e=>decide (e.1=a)).map Prod.snd=(((edg m x.toNat).take j).filter fun e=>decide (e.1=a)).map Prod.snd:=by
 rw[take_s hj,List.filter_append,List.map_append]
 simp[h]
theorem thn_mem {m:SSys} {l:List Int} {a u:Int}:u∈thnL m l a↔∃y∈l,∃e∈edg m y.toNat,e.1=a∧e.2=u:=by
 unfold thnL thnE
 rw[List.mem_flatMap]
 constructor
 ·rintro⟨y,hy,h⟩
  obtain⟨e,he,rfl⟩:=List.mem_map.1 h
  obtain⟨h1,h2⟩:=List.mem_filter.1 he
  exact⟨y,hy,e,h1,of_decide_eq_true h2,rfl⟩
 ·rintro⟨y,hy,e,he,h1,rfl⟩
  exact⟨y,hy,List.mem_map.2 ⟨e,List.mem_filter.2 ⟨he,decide_eq_true h1⟩,rfl⟩⟩
theorem thn_len {m:SSys} {a:Int} (hm:okSys m):∀(l:List Int),(∀x∈l,0≤x∧x<(m.sT.length:Int))→(thnL m l a).length≤l.length*400000
 | [],_=>by simp[thnL]
 |x::l,h=>by
  have ih:=thn_len hm l (fun y hy=>h y (List.mem_cons_of_mem _ hy)) (a:=a)
  have hx:=h x (by simp)
  have h1:(thnE m a x).length≤400000:=by
   unfold thnE
   rw[List.length_map]
   exact Nat.le_trans (List.length_filter_le _ _) (hm.many x.toNat O)
  have e:thnL m (x::l) a=thnE m a x++thnL m l a:=by unfold thnL;rw[List.flatMap_cons]
  rw[e,List.length_append,List.length_cons]
  omega
theorem thn_sorted {m:SSys} (hm:okSys m) {l:List Int} (hl:∀x∈l,0≤x∧x<(m.sT.length:Int)) {a:Int}:Lib.compact (srtI (thnL m l a))=nextM m l a:=
 inc_eq (comp_rise (srt_le _)) (next_rise m l a) fun u=>by
  rw[comp_mem]
  unfold srtI
  rw[List.mem_mergeSort,thn_mem,next_mem]
  constructor
  ·rintro⟨y,hy,e,he,h1,rfl⟩
   have hb:=hl y hy
   have:=hm.ed y.toNat O e he
   exact⟨e.2.toNat,O,O,y,hy,e,he,h1,O⟩
  ·rintro⟨k,rfl,_,y,hy,e,he,h1,h2⟩
   exact⟨y,hy,e,he,h1,h2⟩
theorem off_snoc {m:SSys} {l:List Int} {k:Nat} (h:k<l.length):offL m (l.take (k+1))=offL m (l.take k)++ [offM m (ix l k).toNat]:=by
 unfold offL
 rw[take_s h,List.map_append];rfl
theorem inc_le {n:Nat} {l:List Int} (h:l.Pairwise (· < ·)) (hb:∀x∈l,0≤x∧x<(n:Int)):l.length≤n:=by
 have hnd:l.Nodup:=h.imp (fun h=>by omega)
 have hs:l ⊆ (List.range n).map fun(x:Nat)=>(x:Int):=fun x hx=>by
  have:=hb x hx
  exact List.mem_map.2 ⟨x.toNat,List.mem_range.2 O,O⟩
 have:=List.Nodup.length_le_of_subset hnd hs
 simpa using this
structure KeyOK (p:Sd):Prop where
 x0:0≤p.2
 x1:p.2<10000
 bd:∀x∈p.1,0≤x∧x<10000
 len:p.1.length≤10000
theorem key_of {m:SSys} {t:SS} (hm:okSys m) (ht:oK t) {p:Sd} (h:sOk m t p):KeyOK p:=by
 have f1:=hm.few1
 have f2:=ht.few1
 have h1:=h.x1
 refine⟨h.x0,O,fun x hx=> ?_,Nat.le_trans (inc_le h.rise h.bd) f1⟩
 have:=h.bd x hx
 omega
theorem skey_size {p:Sd} (h:KeyOK p):(skey p).size≤maxL:=by
 have hx1:=h.x1
 have:=keyB_size p.2 p.1 ⟨h.x0,O⟩ (fun x hx=>by have:=h.bd x hx;omega)
 have hl:=h.len
 unfold skey maxL
 omega
theorem skey_take {p:Sd} {k:Nat} (hk:k<p.1.length):keyB p.2 (p.1.take k)++((⟨#[32]⟩:ByteArray)++itoaB (ix p.1 k))=keyB p.2 (p.1.take (k+1)):=by rw[keyB_snoc,take_s hk]
theorem key_len {p:Sd} (h:KeyOK p) (k:Nat):(keyB p.2 (p.1.take k)).size≤22+22*10000:=by
 have hx1:=h.x1
 have:=keyB_size p.2 (p.1.take k) ⟨h.x0,O⟩ (fun x hx=>by have:=h.bd x (List.mem_of_mem_take hx);omega)
 have hl:=h.len
 rw[List.length_take] at this
 omega
noncomputable def growT (m:SSys) (U:SS):SS × Bool:=if (sL m U).length≤500 then((tR (sD m U)).1,true) else(⟨[],[]⟩,false)
theorem growT_no {m:SSys} {U:SS} (h:500<(sL m U).length):growT m U=(⟨[],[]⟩,false):=by unfold growT;rw[if_neg O]
theorem bes_no {m:SSys} {t:SS} (h:¬fineSE m t=0):besS m t=(⟨[],[]⟩,fineSE m t):=by unfold besS;rw[if_neg h]
theorem bes_hol {m:SSys} {t:SS} (h:fineSE m t=0) (hl:(tR t).2.length=0):besS m t=((tR t).1,0):=by
 have hh:=hol_nil hl
 unfold besS
 rw[if_pos h,if_pos hh,trimmed_hol hh]
theorem bes_go {m:SSys} {t:SS} (h:fineSE m t=0) (hl:¬(tR t).2.length=0):besS m t=if (growT m (tR t).1).2=true then((growT m (tR t).1).1,0) else(⟨[],[]⟩,2):=by
 have hh:¬ix (hOl t) 0=true:=fun g=>hl (nil_hol g)
 unfold besS growT
 rw[if_pos h,if_neg hh]
 split
 ·rw[if_pos rfl]
 ·rw[if_neg (by simp)]
namespace T
theorem ent84:Ent Tryz.prog 84:=ent_of kR
theorem ent87:Ent Tryz.prog 87:=ent_of kR
theorem ent89:Ent Tryz.prog 89:=ent_of kR
theorem ent92:Ent Tryz.prog 92:=ent_of kR
theorem ent85:Ent Tryz.prog 85:=ent_of kR
theorem fld116_1:FieldAt Tryz.prog 116 1 1:=fieldAt_of kR
theorem fld116_0:FieldAt Tryz.prog 116 0 0:=fieldAt_of kR
theorem one113:IsOne Tryz.prog 113:=isOne_of kR
theorem z116:ZeroIs Tryz.prog 116 [.slice none 0 0,.int .i64 0]:=zeroIs_of kR
theorem ent93:Ent Tryz.prog 93:=ent_of kR
theorem st116:StructT Tryz.prog 116 [(0,1),(1,1)] [.slice none 0 0,.int .i64 0]:=structT_of kR kR
theorem agg116:IsAgg Tryz.prog 116 2:=isAgg_of kR
theorem one118:IsOne Tryz.prog 118:=isOne_of kR
theorem mk174:MakeT Tryz.prog 174 116 2 32 [.slice none 0 0,.int .i64 0]:=makeT_of kR kR
theorem z174:ZeroIs Tryz.prog 174 [.slice none 0 0]:=zeroIs_of kR
theorem one174:IsOne Tryz.prog 174:=isOne_of kR
theorem sl174:IsSlice Tryz.prog 174 116 2:=isSlice_of kR
theorem one122:IsOne Tryz.prog 122:=isOne_of kR
theorem ent83:Ent Tryz.prog 83:=ent_of kR
theorem z113:ZeroIs Tryz.prog 113 [.nilFunc]:=zeroIs_of kR
theorem ent86:Ent Tryz.prog 86:=ent_of kR
end T
namespace prodb
theorem Then_ok (m:SSys) (hm:okSys m) (l:List Int) (hl:∀x∈l,0≤x∧x<(m.sT.length:Int)) (hll:l.length≤10000) (a:Int):
 AL.Fn Tryz.prog 93 [sys m,ints l,int a] [] (ι:=Unit) (fun N _=>fre N (ints (nextM m l a))) (fun _=> []):=by
 refine fnI Tryz.func93 rfl rfl (fun w0 F0=> ?_)
 have f1:=hm.few1
 refine fcC (inhS 0 J) (fun hS0=> ?_)
 obtain⟨hma0,hms0,hme0⟩:=sys_lens hS0
 refine fcC (slenI 1 J) (fun hm1=> ?_)
 refine sq (rg (bx (key:=3) (cs:= [sl 1 rE_ m.aC,sl 1 gE m.sT]) J fun b3=>(ag (nl (th (sq (rg (nw 7 3 1 nE (ag (rtg (key:=7) 7 J (nl (th (sq (sq (rg (mv (lnF J T.sl36 (mv (nl (th (bk ?_)))))))))))))))))))))
 have hI0_0:0≤l.length:=by
  first|omega|simp
 have hI0_1:([]:List Int)=thnL m (l.take 0) a:=by
  rfl
 refine lp (κ:=Nat × Value × (List Int)) (fun p=> [(2,int a),(3,ptr 3 b3 0),(6,eqv (.slice none 0 0)),(7,osl 7 p.2.1),(12,sl 1 nE l),(13,int (l.length:Int)),(14,int (p.1:Int))]) (fun p=> [(3,cell b3 [sl 1 rE_ m.aC,sl 1 gE m.sT]),(7,own p.2.1 3 1 nE p.2.2)]) (fun p=>(p.1≤l.length)∧(p.2.2=thnL m (l.take p.1) a)) (fun p=>l.length- p.1) ⟨0,(.slice none 0 0),([]:List Int)⟩ ⟨hI0_0,hI0_1⟩ ⟨id,id,id,id,id,id,id,tV⟩ ⟨rI,rI,tV⟩ ?_
 intro⟨k,v7x,out⟩ hG0
 obtain⟨hk0,hI0⟩:(k≤l.length)∧(out=thnL m (l.take k) a):=hG0
 show Ct _ _ _ _ [(2,int a),(3,ptr 3 b3 0),(6,eqv (.slice none 0 0)),(7,osl 7 v7x),(12,sl 1 nE l),(13,int (l.length:Int)),(14,int (k:Int))] [(3,cell b3 [sl 1 rE_ m.aC,sl 1 gE m.sT]),(7,own v7x 3 1 nE out)] _
 refine sq (rg (bi J J b_lss (nl (th (sq ?_)))))
 refine cd J (fun hc0=> ?_) (fun hc0=> ?_)
 ·try simp at hc0
  have hlk:=hl _ (ix_memS hc0)
  have hes:=hm.ed (ix l k).toNat O
  have hmy:=hm.many (ix l k).toNat O
  have heq:(edg m (ix l k).toNat).length=(ix m.sT (ix l k).toNat).length:=rfl
  have hol:out.length≤10000*400000:=by
   rw[hI0]
   refine Nat.le_trans (thn_len hm (l.take k) (fun x hx=>hl x (List.mem_of_mem_take hx))) ?_
   rw[List.length_take];exact Nat.mul_le_mul O O
  refine sk (th (sq (bk (sq (rg (iF J J T.sl36 O gB (lF J J T.one3 (ag (nl (th (sq (rg (fP J T.fld43_1 (lP J J J T.one41 (mv (iF J J T.sl41 O gB (lF J J T.one103 (fc (slenI 22 J) fun hm22=>(lnF J T.sl103 (mv (nl (th (bk ?_)))))))))))))))))))))))
  have hI1_0:0≤(ix m.sT (ix l k).toNat).length:=by
   first|omega|simp
  have hI1_1:out=thnL m (l.take k) a++(((edg m (ix l k).toNat).take 0).filter fun e=>decide (e.1=a)).map Prod.snd:=by
   rw[hI0];simp
  refine lp (κ:=Nat × Value × (List Int)) (fun p=> [(2,int a),(3,ptr 3 b3 0),(6,eqv (.slice none 0 0)),(7,osl 7 p.2.1),(12,sl 1 nE l),(13,int (l.length:Int)),(14,int (k:Int)),(22,sl 2 pE (ix m.sT (ix l k).toNat)),(23,int ((ix m.sT (ix l k).toNat).length:Int)),(24,int (p.1:Int))]) (fun p=> [(3,cell b3 [sl 1 rE_ m.aC,sl 1 gE m.sT]),(7,own p.2.1 3 1 nE p.2.2)]) (fun p=>(p.1≤(ix m.sT (ix l k).toNat).length)∧(p.2.2=thnL m (l.take k) a++(((edg m (ix l k).toNat).take p.1).filter fun e=>decide (e.1=a)).map Prod.snd)) (fun p=>(ix m.sT (ix l k).toNat).length- p.1) ⟨0,v7x,out⟩ ⟨hI1_0,hI1_1⟩ ⟨id,id,id,id,id,id,id,id,id,id,tV⟩ ⟨rI,rI,tV⟩ ?_
  intro⟨k1,v7y,ou2⟩ hG1
  obtain⟨hk1,hI1⟩:(k1≤(ix m.sT (ix l k).toNat).length)∧(ou2=thnL m (l.take k) a++(((edg m (ix l k).toNat).take k1).filter fun e=>decide (e.1=a)).map Prod.snd):=hG1
  show Ct _ _ _ _ [(2,int a),(3,ptr 3 b3 0),(6,eqv (.slice none 0 0)),(7,osl 7 v7y),(12,sl 1 nE l),(13,int (l.length:Int)),(14,int (k:Int)),(22,sl 2 pE (ix m.sT (ix l k).toNat)),(23,int ((ix m.sT (ix l k).toNat).length:Int)),(24,int (k1:Int))] [(3,cell b3 [sl 1 rE_ m.aC,sl 1 gE m.sT]),(7,own v7y 3 1 nE ou2)] _
  refine sq (rg (bi J J b_lss (nl (th (sq ?_)))))
  refine cd J (fun hc1=> ?_) (fun hc1=> ?_)
  ·try simp at hc1
   have hol2:ou2.length≤10000*400000+400000:=by
    rw[hI1,List.length_append,←hI0,List.length_map]
    refine Nat.le_trans (Nat.add_le_add_left (List.length_filter_le _ _) _) ?_
    rw[List.length_take]
    omega
   refine sk (th (sq (bk (sq (rg (iF J J T.sl103 O gB (lFA J T.agg105 (Nat.le_of_ble_eq_true J) (al (key:=11) T.z105 (eC (eC eZ)) fun b11=>(sPA (cs':= [int ((ix (ix m.sT (ix l k).toNat) k1).1),int ((ix (ix m.sT (ix l k).toNat) k1).2)]) J J J T.agg105 J J (nl (th (sq (rg (fP J T.fld105_0 (lP J J J T.one3 (mv (bi J J b_eql (nl (th ?_)))))))))))))))))))
   refine cd J (fun hc2=> ?_) (fun hc2=> ?_)
   ·skip
    have ha2:(ix (edg m (ix l k).toNat) k1).1=a:=of_decide_eq_true hc2
    refine rg (mv (fP J T.fld105_1 (lP J J J T.one3 (bsE (enc:=nE) (xs:= [((ix (ix m.sT (ix l k).toNat) k1).2)]) (css:= [[int ((ix (ix m.sT (ix l k).toNat) k1).2)]]) T.mk36 ⟨J,J,p1 (φ:=int ((ix (ix m.sT (ix l k).toNat) k1).2)) J,tV⟩ J J J J (ap (key:=7) (zs:= [((ix (ix m.sT (ix l k).toNat) k1).2)]) osl_eq J J J T.mk36 (by unfold maxL at*;simp;omega) (by unfold maxL at*;simp;omega) fun v36=>(ag (nl (eb (th (rg (bi J J (b_add i6) (mv (nl ?_)))))))))))))
    have hN0:(k1+1)≤(ix m.sT (ix l k).toNat).length:=by
     first|omega|simp_all
    have hN1:(ou2++ [((ix (ix m.sT (ix l k).toNat) k1).2)])=thnL m (l.take k) a++(((edg m (ix l k).toNat).take (k1+1)).filter fun e=>decide (e.1=a)).map Prod.snd:=by
     rw[hI1,thn_hit O ha2,List.append_assoc]
    exact ln (⟨k1+1,v36,ou2++ [((ix (ix m.sT (ix l k).toNat) k1).2)]⟩:Nat × Value × (List Int)) ⟨hN0,hN1⟩ dO ⟨id,id,id,id,id,id,id,id,id,id,tV⟩ ⟨rI,rI,tV⟩
   ·skip
    have ha2:(ix (edg m (ix l k).toNat) k1).1≠a:=of_decide_eq_false hc2
    refine sk (eb (th (rg (bi J J (b_add i6) (mv (nl ?_))))))
    have hN0:(k1+1)≤(ix m.sT (ix l k).toNat).length:=by
     first|omega|simp_all
    have hN1:ou2=thnL m (l.take k) a++(((edg m (ix l k).toNat).take (k1+1)).filter fun e=>decide (e.1=a)).map Prod.snd:=by
     rw[hI1,thn_miss O ha2]
    exact ln (⟨k1+1,v7y,ou2⟩:Nat × Value × (List Int)) ⟨hN0,hN1⟩ dO ⟨id,id,id,id,id,id,id,id,id,id,tV⟩ ⟨rI,rI,tV⟩
  ·try simp at hc1
   refine ex (xt_ (xt_ (xb (eb (th (rg (bi J J (b_add i6) (mv (nl ?_)))))))))
   have hN0:(k+1)≤l.length:=by
    first|omega|simp_all
   have hN1:ou2=thnL m (l.take (k+1)) a:=by
    rw[hI1,thn_snoc O,show k1=(edg m (ix l k).toNat).length by omega,List.take_length];rfl
   exact ln (⟨k+1,v7y,ou2⟩:Nat × Value × (List Int)) ⟨hN0,hN1⟩ dO ⟨id,id,id,id,id,id,id,tV⟩ ⟨rI,rI,tV⟩
 ·try simp at hc0
  refine ex (xt_ (xt_ (xb (th (sq (rg (mv (cal (Hi:= [(7,own v7x 3 1 nE out)]) (φs:= [osl 7 v7x]) ⟨J,tV⟩ (rekeyIO 5 7 (shelfI.SortI_ok _ v7x out)) T.ent140 ⟨rI,tV⟩ fun _ _=>(nl (th (sq (rg (mv (cal (Hi:= [(7,own v7x 3 1 nE (srtI out))]) (φs:= [osl 7 v7x]) ⟨J,tV⟩ (rekeyIV 5 7 (shelfI.CompI_ok _ v7x (srtI out))) T.ent141 ⟨rI,tV⟩ fun _ v42=>(ag (nl (th (rt ?_))))))))))))))))))
  refine fzNA nE 7 6 noM flat rfl rfl ?_
  have hr0:(Lib.compact (srtI out))=(nextM m l a):=by
   rw[hI0,show k=l.length by omega,List.take_length];exact thn_sorted hm hl
  exact rE () [.tmp 6] J [fre w0.heap.size (sl 1 nE (Lib.compact (srtI out)))] ⟨.tmp J,tV⟩ (cA1 (fun x0=>rV [fre w0.heap.size (sl 1 nE x0)]) hr0) trivial eX
theorem offs_ok (m:SSys) (hm:okSys m) (l:List Int) (hl:∀x∈l,0≤x∧x<(m.sT.length:Int)) (hll:l.length≤10000):
 Fn0 Tryz.prog 84 [ints l,fp [strs m.aC,sl 1 gE m.sT]] (ints (offL m l)):=by
 refine fnI Tryz.func84 rfl rfl (fun w0 F0=> ?_)
 have f1:=hm.few1;have n8:=hm.n8
 refine fcC (slenI 0 J) (fun hm0=> ?_)
 refine sq (rg (ag (nl (th (sq (rg (nw 4 3 1 nE (ag (rtg (key:=4) 4 J (nl (th (sq (sq (rg (mv (lnF J T.sl36 (mv (nl (th (bk ?_))))))))))))))))))))
 have hI0_0:0≤l.length:=by
  first|omega|simp
 have hI0_1:([]:List Int)=offL m (l.take 0):=by
  rfl
 refine lp (κ:=Nat × Value × (List Int)) (fun p=> [(1,fp [sl 1 rE_ m.aC,sl 1 gE m.sT]),(3,eqv (.slice none 0 0)),(4,osl 4 p.2.1),(7,sl 1 nE l),(8,int (l.length:Int)),(9,int (p.1:Int))]) (fun p=> [(4,own p.2.1 3 1 nE p.2.2)]) (fun p=>(p.1≤l.length)∧(p.2.2=offL m (l.take p.1))) (fun p=>l.length- p.1) ⟨0,(.slice none 0 0),([]:List Int)⟩ ⟨hI0_0,hI0_1⟩ ⟨id,id,id,id,id,id,tV⟩ ⟨rI,tV⟩ ?_
 intro⟨k,v4,out⟩ hG0
 obtain⟨hk0,hI0⟩:(k≤l.length)∧(out=offL m (l.take k)):=hG0
 show Ct _ _ _ _ [(1,fp [sl 1 rE_ m.aC,sl 1 gE m.sT]),(3,eqv (.slice none 0 0)),(4,osl 4 v4),(7,sl 1 nE l),(8,int (l.length:Int)),(9,int (k:Int))] [(4,own v4 3 1 nE out)] _
 have hol:out.length≤k:=by rw[hI0];unfold offL;rw[List.length_map,List.length_take];omega
 refine sq (rg (bi J J b_lss (nl (th (sq ?_)))))
 refine cd J (fun hc0=> ?_) (fun hc0=> ?_)
 ·try simp at hc0
  have hlk:=hl _ (ix_memS hc0)
  have hoff:∀e∈edg m (ix l k).toNat,0≤e.1∧e.1<8:=fun e he=>by have:=hm.ed (ix l k).toNat O e he;omega
  refine sk (th (sq (bk (sq (rg (iF J J T.sl36 O gB (lF J J T.one3 (ag (nl (th (rg (mv (fF J T.fld43_1 (lF J J T.one41 (mv (iF J J T.sl41 O gB (lF J J T.one103 (cal0 (φs:= [sl 2 pE (ix m.sT (ix l k).toNat)]) (φ:=int (offE (ix m.sT (ix l k).toNat))) ⟨J,tV⟩ (sysw.Offers_ok (ix m.sT (ix l k).toNat) aS) T.ent85 (bsE (enc:=nE) (xs:= [(offE (ix m.sT (ix l k).toNat))]) (css:= [[int (offE (ix m.sT (ix l k).toNat))]]) T.mk36 ⟨J,J,p1 (φ:=int (offE (ix m.sT (ix l k).toNat))) J,tV⟩ J J J J (ap (key:=4) (zs:= [(offE (ix m.sT (ix l k).toNat))]) osl_eq J J J T.mk36 (by unfold maxL at*;simp;omega) (by unfold maxL at*;simp;omega) fun v21=>(ag (nl (eb (th (rg (bi J J (b_add i6) (mv (nl ?_))))))))))))))))))))))))))))
  have hN0:(k+1)≤l.length:=by
   first|omega|simp_all
  have hN1:(out++ [(offE (ix m.sT (ix l k).toNat))])=offL m (l.take (k+1)):=by
   rw[hI0,off_snoc O]
  exact ln (⟨k+1,v21,out++ [(offE (ix m.sT (ix l k).toNat))]⟩:Nat × Value × (List Int)) ⟨hN0,hN1⟩ dO ⟨id,id,id,id,id,id,tV⟩ ⟨rI,tV⟩
 ·try simp at hc0
  refine ex (xt_ (xt_ (xb (th (sq (rg (mv (ag (nl (th (rt ?_)))))))))))
  refine fzA 4 3 rfl rfl ?_
  have hr0:out=(offL m l):=by
   rw[hI0,show k=l.length by omega,List.take_length]
  exact rE () [.tmp 3] J [sl 1 nE out] ⟨.tmp J,tV⟩ (cA1 (fun x0=>rV [sl 1 nE x0]) hr0) trivial eX
theorem skey_ok (q:Sd) (hp:KeyOK q):
 Fn0 Tryz.prog 87 [tabbed (agg [ints q.1,int q.2])] (str (skey q)):=by
 refine fnI Tryz.func87 rfl rfl (fun w0 F0=> ?_)
 have hx0:=hp.x0;have hx1:=hp.x1;have hpl:=hp.len
 refine tbI 0 9999 rfl ?_
 refine tbJC (ψ:=tab) 9999 997 rfl ?_
 refine sq (rg (bx (key:=1) (cs:= [sl 1 nE q.1,int q.2]) J fun b1=>(ag (nl (th (sq (rg (fP J T.fld116_1 (lP J J J T.one3 (tbU (ψ:=tab) 7 9999 J J (cal0 (φs:= [both (int q.2) tab]) (φ:=str (itoaB q.2)) ⟨J,tV⟩ (Itoa.Itoa_ok q.2 O O) T.ent88 (ag (nl (th (sq (sq (rg (fP J T.fld116_0 (lP J J J T.one36 (fc (slenI 10 J) fun hm10=>(lnF J T.sl36 (mv (nl (th (bk ?_)))))))))))))))))))))))))
 have hI0_0:0≤q.1.length:=by
  first|omega|simp
 have hI0_1:(itoaB q.2)=keyB q.2 (q.1.take 0):=by
  exact keyB_nil q.2
 refine lp (κ:=Nat × ByteArray) (fun p=> [(2,str ({ data:= #[] })),(3,str p.2),(10,sl 1 nE q.1),(11,int (q.1.length:Int)),(12,int (p.1:Int)),(9999,tab)]) (fun p=> [(1,cell b1 [sl 1 nE q.1,int q.2]),(997,ambH tab)]) (fun p=>(p.1≤q.1.length)∧(p.2=keyB q.2 (q.1.take p.1))) (fun p=>q.1.length- p.1) ⟨0,itoaB q.2⟩ ⟨hI0_0,hI0_1⟩ ⟨id,id,id,id,id,id,tV⟩ ⟨rI,rI,tV⟩ ?_
 intro⟨k,s⟩ hG0
 obtain⟨hk0,hI0⟩:(k≤q.1.length)∧(s=keyB q.2 (q.1.take k)):=hG0
 show Ct _ _ _ _ [(2,str ({ data:= #[] })),(3,str s),(10,sl 1 nE q.1),(11,int (q.1.length:Int)),(12,int (k:Int)),(9999,tab)] [(1,cell b1 [sl 1 nE q.1,int q.2]),(997,ambH tab)] _
 have hsl:s.size≤22+22*10000:=by rw[hI0];exact key_len hp k
 refine sq (rg (bi J J b_lss (nl (th (sq ?_)))))
 refine cd J (fun hc0=> ?_) (fun hc0=> ?_)
 ·try simp at hc0
  have hbx:=hp.bd _ (ix_memS hc0)
  have z2:=itoa_size (n:=ix q.1 k) O O
  refine sk (th (sq (bk (sq (rg (iF J J T.sl36 O gB (lF J J T.one3 (ag (nl (th (rg (mv (mv (tbU (ψ:=tab) 17 9999 J J (cal0 (φs:= [both (int (ix q.1 k)) tab]) (φ:=str (itoaB (ix q.1 k))) ⟨J,tV⟩ (Itoa.Itoa_ok (ix q.1 k) O O) T.ent88 (bi J J (b_addS (by show 1+_≤maxL;unfold maxL;omega)) (bi J J (b_addS (by rw[ByteArray.size_append];show _+(1+_)≤maxL;unfold maxL;omega)) (ag (nl (eb (th (rg (bi J J (b_add i6) (mv (nl ?_)))))))))))))))))))))))))
  have hN0:(k+1)≤q.1.length:=by
   first|omega|simp_all
  have hN1:(s++(({ data:= #[32] })++(itoaB (ix q.1 k))))=keyB q.2 (q.1.take (k+1)):=by
   rw[hI0,skey_take O]
  exact ln (⟨k+1,s++(({ data:= #[32] })++(itoaB (ix q.1 k)))⟩:Nat × ByteArray) ⟨hN0,hN1⟩ dO ⟨id,id,id,id,id,id,tV⟩ ⟨rI,rI,tV⟩
 ·try simp at hc0
  refine ex (xt_ (xt_ (xb (th (sq (rg (mv (ag (nl (th (rt ?_)))))))))))
  have hr0:s=(skey q):=by
   rw[hI0,show k=q.1.length by omega,List.take_length];rfl
  exact rE () [.tmp 2] J [str s] ⟨.tmp J,tV⟩ (cA1 (fun x0=>rV [str x0]) hr0) trivial eX
theorem ssets_ok (m:SSys) (hm:okSys m) (U:SS) (hT:oK U) (p:Sd) (hp:sOk m U p):
 Fn0 Tryz.prog 89 [agg [ints p.1,int p.2],fp [clo 84 [fp [strs m.aC,sl 1 gE m.sT]]],fp [strs U.aC,sl 2 sE U.sT]] (ints (sA m U p)):=by
 refine fnI Tryz.func89 rfl rfl (fun w0 F0=> ?_)
 have f1:=hm.few1;have f2:=hT.few1;have hx0:=hp.x0;have hx1:=hp.x1
 have hpl:=inc_le hp.rise hp.bd
 have hbd:=hp.bd
 have hst:=hT.st p.2.toNat O
 have hta:=hst.ac
 have ht8:=hst.acl
 have hol:(offL m p.1).length≤10000:=by unfold offL;rw[List.length_map];omega
 have hsa:∀k,k<(offL m p.1).length→0≤ix (offL m p.1) k∧ix (offL m p.1) k<256:=fun k hk=>off_bd hm hp.bd _ (ix_memS hk)
 refine sq (rg (bx (key:=3) (cs:= [sl 1 nE p.1,int p.2]) J fun b3=>(ag (nl (th (sq (dr (nh:=13) [0,0,2,7,0,16,0,64,240,496,1008,2047,4095] T.mixed kR ?_)))))))
 refine st_ J (fun _ _ _ gq kq=>lF (gq.1.trans J) J T.one113 kq) ?_
 refine st_ J (fun _ _ _ gq kq=>fP (gq.1.trans J) T.fld116_0 kq) ?_
 refine st_ J (fun _ _ _ gq kq=>lP (gq.1.trans J) J J T.one36 kq) ?_
 refine st_ J (fun _ _ _ gq kq=>calC0 (φs:= [sl 1 nE p.1]) (φ:=sl 1 nE (offL m p.1)) (gq.1.trans J) ⟨(gq.2.1.trans J),tV⟩ (offs_ok m hm p.1 hbd O) T.ent84 kq) ?_
 refine st_ J (fun _ _ _ gq kq=>fF (gq.1.trans J) T.fld25_1 kq) ?_
 refine st_ J (fun _ _ _ gq kq=>lF (gq.1.trans J) J T.one23 kq) ?_
 refine st_ J (fun _ _ _ gq kq=>fP (gq.1.trans J) T.fld116_1 kq) ?_
 refine st_ J (fun _ _ _ gq kq=>lP (gq.1.trans J) J J T.one3 kq) ?_
 refine st_ J (fun _ _ _ gq kq=>iF (gq.1.trans J) (gq.2.1.trans J) T.sl23 O gB kq) ?_
 refine st_ J (fun _ _ _ gq kq=>fF (gq.1.trans J) T.fld81_0 kq) ?_
 refine st_ J (fun _ _ _ gq kq=>lF (gq.1.trans J) J T.one36 kq) ?_
 refine st_ J (fun _ _ _ gq kq=>calW (φs:= [sl 1 nE (offL m p.1),sl 1 nE (ix U.sT p.2.toNat).aP,eqv (.func (.func 91) #[] #[])]) (φ:=sl 1 nE (crossL (offL m p.1) (ix U.sT p.2.toNat).aP)) ⟨(gq.1.trans J),(gq.2.1.trans J),J,tV⟩ (crossC_ok (offL m p.1) (ix U.sT p.2.toNat).aP hsa hta hol ht8) T.ent90 (fun N hN=>fun h=>nw_le h) kq) ?_
 refine st_ J (fun _ _ _ gq kq=>ag' (gq.1.trans J) kq) ?_
 refine pn (nl (th (rt ?_)))
 have hr0:(crossL (offL m p.1) (ix U.sT p.2.toNat).aP)=(sA m U p):=by
  rfl
 exact rE () [.tmp 4] J [sl 1 nE (crossL (offL m p.1) (ix U.sT p.2.toNat).aP)] ⟨.tmp J,tV⟩ (cA1 (fun x0=>rV [sl 1 nE x0]) hr0) trivial eX
theorem snext_ok (m:SSys) (hm:okSys m) (U:SS) (hT:oK U) (p:Sd) (hp:sOk m U p) (a:Nat) (ha:a<U.aC.length):
 Fn0 Tryz.prog 92 [agg [ints p.1,int p.2],int (a:Int),fp [strs m.aC,sl 1 gE m.sT],fp [strs U.aC,sl 2 sE U.sT]] (agg [ints (sN m U p a).1,int (sN m U p a).2]):=by
 refine fnI Tryz.func92 rfl rfl (fun w0 F0=> ?_)
 have f1:=hm.few1;have f2:=hT.few1;have hx0:=hp.x0;have hx1:=hp.x1
 have hpl:=inc_le hp.rise hp.bd
 have hbd:=hp.bd
 have hst:=hT.st p.2.toNat O
 have htl:=hst.len
 refine sq (rg (bx (key:=4) (cs:= [sl 1 nE p.1,int p.2]) J fun b4=>(al (key:=6) T.z116 (eC (eC eZ)) fun b6=>(nl (th (sq (dr (nh:=16) [0,0,2,0,15,0,32,0,128,480,992,2016,0,8160,16352,32767,65535] T.mixed kR ?_)))))))
 refine st_ J (fun _ _ _ gq kq=>lFA (gq.1.trans J) T.agg43 (Nat.le_of_ble_eq_true J) kq) ?_
 refine st_ J (fun _ _ _ gq kq=>fP (gq.1.trans J) T.fld116_0 kq) ?_
 refine st_ J (fun _ _ _ gq kq=>lP (gq.1.trans J) J J T.one36 kq) ?_
 refine st_ J (fun _ _ _ gq kq=>mv' (gq.1.trans J) kq) ?_
 refine st_ J (fun _ _ _ gq kq=>calW (φs:= [agg [sl 1 rE_ m.aC,sl 1 gE m.sT],sl 1 nE p.1,int (a:Int)]) (φ:=sl 1 nE (nextM m p.1 (a:Int))) ⟨(gq.1.trans J),(gq.2.1.trans J),(gq.2.2.1.trans J),tV⟩ (prodb.Then_ok m aS p.1 aS O (a:Int)) T.ent93 (fun N hN=>fun h=>nw_le h) kq) ?_
 refine st_ J (fun _ _ _ gq kq=>fF (gq.1.trans J) T.fld25_1 kq) ?_
 refine st_ J (fun _ _ _ gq kq=>lF (gq.1.trans J) J T.one23 kq) ?_
 refine st_ J (fun _ _ _ gq kq=>fP (gq.1.trans J) T.fld116_1 kq) ?_
 refine st_ J (fun _ _ _ gq kq=>lP (gq.1.trans J) J J T.one3 kq) ?_
 refine st_ J (fun _ _ _ gq kq=>iF (gq.1.trans J) (gq.2.1.trans J) T.sl23 O gB kq) ?_
 refine st_ J (fun _ _ _ gq kq=>fF (gq.1.trans J) T.fld81_1 kq) ?_
 refine st_ J (fun _ _ _ gq kq=>lF (gq.1.trans J) J T.one36 kq) ?_
 refine st_ J (fun _ _ _ gq kq=>mv' (gq.1.trans J) kq) ?_
 refine st_ J (fun _ _ _ gq kq=>iF (gq.1.trans J) (gq.2.1.trans J) T.sl36 O gB kq) ?_
 refine st_ J (fun _ _ _ gq kq=>lF (gq.1.trans J) J T.one3 kq) ?_
 refine st_ J (fun _ _ _ gq kq=>bd (css:= [(0,_),(1,_)]) T.st116 (eC (eC eZ)) ⟨J,J,p1 (φ:=sl 1 nE (nextM m p.1 (a:Int))) (by exact(gq.1.trans J)),⟨J,J,p1 (φ:=int (ix (ix U.sT p.2.toNat).next a)) (by exact(gq.2.1.trans J)),tV⟩⟩ kq) ?_
 refine pn (sPA (cs':= [sl 1 nE (nextM m p.1 (a:Int)),int (ix (ix U.sT p.2.toNat).next a)]) J J J T.agg116 J J (nl (th (rt ?_))))
 have hr0:(nextM m p.1 (a:Int))=((sN m U p a).1):=by
  rfl
 have hr1:((ix (ix U.sT p.2.toNat).next a):Int)=((sN m U p a).2):=by
  rfl
 exact rE () [.cell 6 116] J [agg [sl 1 nE (nextM m p.1 (a:Int)),int (ix (ix U.sT p.2.toNat).next a)]] ⟨.agg J J T.agg116 J J,tV⟩ (cA2 (fun x0 x1=>rV [agg [sl 1 nE x0,int x1]]) hr0 hr1) trivial eX
theorem sgrow_ok (m:SSys) (hm:okSys m) (U:SS) (hT:oK U) (hMU:m.aC.length=U.aC.length):
 Fn0 Tryz.prog 86 [tabbed (strs m.aC),agg [ints [0],int 0],clo 87 [],clo 89 [fp [clo 84 [fp [strs m.aC,sl 1 gE m.sT]]],fp [strs U.aC,sl 2 sE U.sT]],clo 92 [fp [strs m.aC,sl 1 gE m.sT],fp [strs U.aC,sl 2 sE U.sT]]] (tup [spec (growT m U).1,bl (growT m U).2]):=by
 refine fnI Tryz.func86 rfl rfl (fun w0 F0=> ?_)
 have f1:=hm.few1;have f2:=hT.few1;have f3:=hm.few0;have f4:=hT.few0;have hn8:=hm.n8;have hG:=s_GS hm hT hMU
 have hk0:KeyOK ([0],0):=key_of hm hT (s_zero hm hT)
 have hks0:(skey ([0],0)).size≤maxL:=skey_size hk0
 refine tbI 0 9999 rfl ?_
 refine tbJC (ψ:=tab) 9999 997 rfl ?_
 refine fcC (slenI 0 J) (fun hm0=> ?_)
 refine sq (rg (bx (key:=6) (cs:= [sl 1 nE [0],int 0]) J fun b6=>(bx1 (key:=7) (φ:=clo 87 []) J fun b7=>(bx1 (key:=9) (φ:=clo 92 [fp [sl 1 rE_ m.aC,sl 1 gE m.sT],fp [sl 1 rE_ U.aC,sl 2 sE U.sT]]) J fun b9=>(al (key:=10) T.z25 (eC (eC eZ)) fun b10=>(al (key:=11) T.z4 (eC eZ) fun b11=>(nl (th (sq (rg (mkm (key:=24) (kE:=smE) (dom:=smD) (vE:=smV) fun b24=>(lP J J J T.one118 (lPA J J T.agg116 J (tbU (ψ:=tab) 26 9999 J J (calC0 (φs:= [both (agg [sl 1 nE [0],int 0]) tab]) (φ:=str (skey ([0],0))) J ⟨J,tV⟩ (skey_ok ([0],0) hk0) T.ent87 (AL.insert (q:=skey ([0],0)) (u:=0) J J eqv_eq J T.map173 hks0 (mv (al (key:=12) T.z173 (eC eZ) fun b12=>(sP (φ:=mpv 24 b24) J J J T.one173 J (nl (th (sq (rg (lPA J J T.agg116 J (bsO 30 (enc:=sdE) (xs:= [([0],0)]) (css:= [[sl 1 nE [0],int 0]]) T.mk174 ⟨J,J,pA (cs:= [sl 1 nE [0],int 0]) J,tV⟩ J J J J fun v30=>(al (key:=13) T.z174 (eC eZ) fun b13=>(storePO J J J J T.one174 J (nl (th (sq (rg (mv (calW (φs:= [sl 1 rE_ m.aC]) (φ:=sl 1 rE_ m.aC) ⟨J,tV⟩ (prog.sClonestrE_ok _ O) T.ent78 (fun N hN=>fun h=>nw_le h) (bd (css:= [(0,_)]) T.st25 (eC (eC eZ)) ⟨J,J,p1 (φ:=sl 1 rE_ m.aC) J,tV⟩ (al (key:=14) T.z25 (eC (eC eZ)) fun b14=>(sPA (cs':= [sl 1 rE_ m.aC,eqv (.slice none 0 0)]) J J J T.agg25 J J (nl (th (sq (sq (rg (al (key:=15) T.z3 (eC eZ) fun b15=>(sP (φ:=int 0) J J J T.one3 J (nl (th (bk ?_))))))))))))))))))))))))))))))))))))))))))))))
 refine nwC 100 81 2 sE (kncC 14 1 (osl 100 (.slice none 0 0)) rfl rfl eq_osl ?_)
 have hI0_0:GW (sA m U) (sN m U) (sOk m U) skey m.aC.length (2^m.sT.length*U.sT.length) (sL m U) 0 ([([0],0)]:List Sd) (mset ([]:List (ByteArray × Int)) (skey ([0],0)) 0) ([]:List SA):=by
  exact gw_zero hG (s_zero hm hT)
 refine lp (κ:=Nat × Nat × Value × (List Sd) × (List (ByteArray × Int)) × Value × (List SA)) (fun p=> [(0,sl 1 rE_ m.aC),(3,clo 89 [fp [clo 84 [fp [sl 1 rE_ m.aC,sl 1 gE m.sT]]],fp [sl 1 rE_ U.aC,sl 2 sE U.sT]]),(7,ptr 7 b7 0),(9,ptr 9 b9 0),(10,ptr 10 b10 0),(11,ptr 11 b11 0),(12,ptr 12 b12 0),(13,ptr 13 b13 0),(14,ptr 14 b14 0),(15,ptr 15 p.1 0),(9999,tab)]) (fun p=> [(6,cell b6 [sl 1 nE [0],int 0]),(7,cell b7 [clo 87 []]),(9,cell b9 [clo 92 [fp [sl 1 rE_ m.aC,sl 1 gE m.sT],fp [sl 1 rE_ U.aC,sl 2 sE U.sT]]]),(10,cell b10 [eqv (.slice none 0 0),eqv (.slice none 0 0)]),(11,cell b11 [bl false]),(12,cell b12 [mpv 24 b24]),(13,cell b13 [osl 30 p.2.2.1]),(14,cell b14 [sl 1 rE_ m.aC,osl 100 p.2.2.2.2.2.1]),(15,cell p.1 [int (p.2.1:Int)]),(24,mp b24 smE smD smV p.2.2.2.2.1),(30,own p.2.2.1 116 2 sdE p.2.2.2.1),(100,own p.2.2.2.2.2.1 81 2 sE p.2.2.2.2.2.2),(997,ambH tab)]) (fun p=>GW (sA m U) (sN m U) (sOk m U) skey m.aC.length (2^m.sT.length*U.sT.length) (sL m U) p.2.1 p.2.2.2.1 p.2.2.2.2.1 p.2.2.2.2.2.2) (fun p=>501- p.2.1) ⟨b15,0,v30,([([0],0)]:List Sd),mset ([]:List (ByteArray × Int)) (skey ([0],0)) 0,(.slice none 0 0),([]:List SA)⟩ hI0_0 ⟨id,id,id,id,id,id,id,id,id,id,id,tV⟩ ⟨rI,rI,rI,rI,rI,rI,rI,rI,rI,rI,rI,rI,rI,tV⟩ ?_
 intro⟨ib,i,v,ql,mm,v14,outs⟩ hG0
 have hQW:GW (sA m U) (sN m U) (sOk m U) skey m.aC.length (2^m.sT.length*U.sT.length) (sL m U) i ql mm outs:=hG0
 show Ct _ _ _ _ [(0,sl 1 rE_ m.aC),(3,clo 89 [fp [clo 84 [fp [sl 1 rE_ m.aC,sl 1 gE m.sT]]],fp [sl 1 rE_ U.aC,sl 2 sE U.sT]]),(7,ptr 7 b7 0),(9,ptr 9 b9 0),(10,ptr 10 b10 0),(11,ptr 11 b11 0),(12,ptr 12 b12 0),(13,ptr 13 b13 0),(14,ptr 14 b14 0),(15,ptr 15 ib 0),(9999,tab)] [(6,cell b6 [sl 1 nE [0],int 0]),(7,cell b7 [clo 87 []]),(9,cell b9 [clo 92 [fp [sl 1 rE_ m.aC,sl 1 gE m.sT],fp [sl 1 rE_ U.aC,sl 2 sE U.sT]]]),(10,cell b10 [eqv (.slice none 0 0),eqv (.slice none 0 0)]),(11,cell b11 [bl false]),(12,cell b12 [mpv 24 b24]),(13,cell b13 [osl 30 v]),(14,cell b14 [sl 1 rE_ m.aC,osl 100 v14]),(15,cell ib [int (i:Int)]),(24,mp b24 smE smD smV mm),(30,own v 116 2 sdE ql),(100,own v14 81 2 sE outs),(997,ambH tab)] _
 have hlf:=hQW.few
 have hil:=hQW.il
 have hol:outs.length≤i:=by rw[hQW.out];simp;omega
 refine sq (sq (rg (lP J J J T.one3 (lP J J J T.one174 (lnO J J T.sl174 (bi J J b_lss (nl (th ?_))))))))
 refine cd J (fun hc0=> ?_) (fun hc0=> ?_)
 ·try simp at hc0
  have hPm:=ix_memS hc0
  have hokP:=hQW.okl _ hPm
  have hcr:=cross_len (offL m (ix ql i).1) (acc U (ix ql i).2.toNat)
  have hcl:(sA m U (ix ql i)).length≤256:=hcr
  refine sk (th (sq (bk (sq (rg (mv (lP J J J T.one174 (lP J J J T.one3 (iO J J J T.sl174 O O (lOA J J gB T.agg116 (by decide) (calC0 (φs:= [agg [sl 1 nE ((ix ql i).1),int ((ix ql i).2)]]) (φ:=sl 1 nE (sA m U (ix ql i))) J ⟨J,tV⟩ (ssets_ok m hm U hT (ix ql i) hokP) T.ent89 (bsE (enc:=nE) (xs:= [(-1)]) (css:= [[int (-1)]]) T.mk36 ⟨J,J,p1 (φ:=int (-1)) J,tV⟩ J J J J (mv (lnF J T.sl22 (cl (rekeyO 30 300 (prog8.Repeat_ok m.aC.length O)) T.ent123 trivial fun N49 v49=>(fc (svI 300 J) fun hsv300=> ?_))))))))))))))))
  rw[←hsv300]
  refine kn 49 (eqv (sv v49)) rfl osl_rawC (bd (css:= [(0,_),(1,_)]) T.st81 (eC (eC eZ)) ⟨rfl,rfl,p1 (φ:=sl 1 nE (sA m U (ix ql i))) rfl,⟨rfl,rfl,p1 (φ:=eqv (sv v49)) rfl,tV⟩⟩ (al (key:=16) T.z81 (eC (eC eZ)) fun b16=>(sPA (cs':= [sl 1 nE (sA m U (ix ql i)),eqv (sv v49)]) rfl rfl rfl T.agg81 rfl rfl (knc 16 1 (osl 300 (sv v49)) rfl rfl eq_osl (nl (th (sq (rg (ag (nl (th (sq (sq (rg (fP rfl T.fld81_0 (lP rfl rfl rfl T.one36 (fc (slenI 52 rfl) fun hm52=>(lnF rfl T.sl36 (mv (nl (th (bk ?_))))))))))))))))))))))
  have hI1_0:0≤(sA m U (ix ql i)).length:=by
   first|omega|simp
  have hI1_1:(0:Int)=orAll ((sA m U (ix ql i)).take 0)∧0≤(0:Int)∧(0:Int)<256:=by
   exact⟨rfl,O,O⟩
  refine lp (κ:=Nat × Int) (fun p=> [(0,sl 1 rE_ m.aC),(3,clo 89 [fp [clo 84 [fp [sl 1 rE_ m.aC,sl 1 gE m.sT]]],fp [sl 1 rE_ U.aC,sl 2 sE U.sT]]),(7,ptr 7 b7 0),(9,ptr 9 b9 0),(10,ptr 10 b10 0),(11,ptr 11 b11 0),(12,ptr 12 b12 0),(13,ptr 13 b13 0),(14,ptr 14 b14 0),(15,ptr 15 ib 0),(16,ptr 16 b16 0),(17,int p.2),(52,sl 1 nE (sA m U (ix ql i))),(53,int ((sA m U (ix ql i)).length:Int)),(54,int (p.1:Int)),(9999,tab)]) (fun p=> [(6,cell b6 [sl 1 nE [0],int 0]),(7,cell b7 [clo 87 []]),(9,cell b9 [clo 92 [fp [sl 1 rE_ m.aC,sl 1 gE m.sT],fp [sl 1 rE_ U.aC,sl 2 sE U.sT]]]),(10,cell b10 [eqv (.slice none 0 0),eqv (.slice none 0 0)]),(11,cell b11 [bl false]),(12,cell b12 [mpv 24 b24]),(13,cell b13 [osl 30 v]),(14,cell b14 [sl 1 rE_ m.aC,osl 100 v14]),(15,cell ib [int (i:Int)]),(16,cell b16 [sl 1 nE (sA m U (ix ql i)),osl 300 (sv v49)]),(24,mp b24 smE smD smV mm),(30,own v 116 2 sdE ql),(100,own v14 81 2 sE outs),(300,own (sv v49) 3 1 nE (List.replicate m.aC.length (-1))),(997,ambH tab)]) (fun p=>(p.1≤(sA m U (ix ql i)).length)∧(p.2=orAll ((sA m U (ix ql i)).take p.1)∧0≤p.2∧p.2<256)) (fun p=>(sA m U (ix ql i)).length- p.1) ⟨0,(0:Int)⟩ ⟨hI1_0,hI1_1⟩ ⟨id,id,id,id,id,id,id,id,id,id,id,id,id,id,id,id,tV⟩ ⟨rI,rI,rI,rI,rI,rI,rI,rI,rI,rI,rI,rI,rI,rI,rI,tV⟩ ?_
  intro⟨k1,cn⟩ hG1
  obtain⟨hk1,hI1⟩:(k1≤(sA m U (ix ql i)).length)∧(cn=orAll ((sA m U (ix ql i)).take k1)∧0≤cn∧cn<256):=hG1
  show Ct _ _ _ _ [(0,sl 1 rE_ m.aC),(3,clo 89 [fp [clo 84 [fp [sl 1 rE_ m.aC,sl 1 gE m.sT]]],fp [sl 1 rE_ U.aC,sl 2 sE U.sT]]),(7,ptr 7 b7 0),(9,ptr 9 b9 0),(10,ptr 10 b10 0),(11,ptr 11 b11 0),(12,ptr 12 b12 0),(13,ptr 13 b13 0),(14,ptr 14 b14 0),(15,ptr 15 ib 0),(16,ptr 16 b16 0),(17,int cn),(52,sl 1 nE (sA m U (ix ql i))),(53,int ((sA m U (ix ql i)).length:Int)),(54,int (k1:Int)),(9999,tab)] [(6,cell b6 [sl 1 nE [0],int 0]),(7,cell b7 [clo 87 []]),(9,cell b9 [clo 92 [fp [sl 1 rE_ m.aC,sl 1 gE m.sT],fp [sl 1 rE_ U.aC,sl 2 sE U.sT]]]),(10,cell b10 [eqv (.slice none 0 0),eqv (.slice none 0 0)]),(11,cell b11 [bl false]),(12,cell b12 [mpv 24 b24]),(13,cell b13 [osl 30 v]),(14,cell b14 [sl 1 rE_ m.aC,osl 100 v14]),(15,cell ib [int (i:Int)]),(16,cell b16 [sl 1 nE (sA m U (ix ql i)),osl 300 (sv v49)]),(24,mp b24 smE smD smV mm),(30,own v 116 2 sdE ql),(100,own v14 81 2 sE outs),(300,own (sv v49) 3 1 nE (List.replicate m.aC.length (-1))),(997,ambH tab)] _
  refine sq (rg (bi J J b_lss (nl (th (sq ?_)))))
  refine cd J (fun hc1=> ?_) (fun hc1=> ?_)
  ·try simp at hc1
   have hkb:=cross_sub (ix_memS (l:=(sA m U (ix ql i))) O)
   refine sk (th (sq (bk (sq (rg (iF J J T.sl36 O gB (lF J J T.one3 (ag (nl (th (rg (mv (mv (bi J J (b_orI O O O O) (ag (nl (eb (th (rg (bi J J (b_add i6) (mv (nl ?_))))))))))))))))))))))
   have hN0:(k1+1)≤(sA m U (ix ql i)).length:=by
    first|omega|simp_all
   have hN1:((cn.toNat|||(ix (sA m U (ix ql i)) k1).toNat:Nat):Int)=orAll ((sA m U (ix ql i)).take (k1+1))∧0≤((cn.toNat|||(ix (sA m U (ix ql i)) k1).toNat:Nat):Int)∧((cn.toNat|||(ix (sA m U (ix ql i)) k1).toNat:Nat):Int)<256:=by
    refine⟨?_,O,or_lt256 hI1.2.2 hkb.2⟩
    rw[take_s O,orAll_snoc,←hI1.1]
   exact ln (⟨k1+1,((cn.toNat|||(ix (sA m U (ix ql i)) k1).toNat:Nat):Int)⟩:Nat × Int) ⟨hN0,hN1⟩ dO ⟨id,id,id,id,id,id,id,id,id,id,id,id,id,id,id,id,tV⟩ ⟨rI,rI,rI,rI,rI,rI,rI,rI,rI,rI,rI,rI,rI,rI,rI,tV⟩
  ·try simp at hc1
   refine ex (xt_ (xt_ (xb (th (sq (sq (rg (mv (cal0 (φs:= [int cn]) (φ:=clo 162 [fp [int cn]]) ⟨J,tV⟩ (prog3.In_ok cn) T.ent124 (nl (th (bk ?_))))))))))))
   have hcn2:cn=orAll (sA m U (ix ql i)):=by rw[hI1.1,show k1=(sA m U (ix ql i)).length by omega,List.take_length]
   have hcn3:listOf 63 cn=actsL (sA m U) (ix ql i):=by unfold actsL;rw[hcn2]
   have hR0:GN (sA m U) (sN m U) (sOk m U) skey m.aC.length (sL m U) i ql 0 ql mm (List.replicate m.aC.length (-1)):=by
    exact gn_zero hQW
   refine rf (κ:=Value × (List Sd) × (List (ByteArray × Int)) × (List Int)) 900 (fun p=> [(6,cell b6 [sl 1 nE [0],int 0]),(7,cell b7 [clo 87 []]),(9,cell b9 [clo 92 [fp [sl 1 rE_ m.aC,sl 1 gE m.sT],fp [sl 1 rE_ U.aC,sl 2 sE U.sT]]]),(10,cell b10 [eqv (.slice none 0 0),eqv (.slice none 0 0)]),(11,cell b11 [bl false]),(12,cell b12 [mpv 24 b24]),(13,cell b13 [osl 30 p.1]),(14,cell b14 [sl 1 rE_ m.aC,osl 100 v14]),(15,cell ib [int (i:Int)]),(16,cell b16 [sl 1 nE (sA m U (ix ql i)),osl 300 (sv v49)]),(24,mp b24 smE smD smV p.2.2.1),(30,own p.1 116 2 sdE p.2.1),(100,own v14 81 2 sE outs),(300,own (sv v49) 3 1 nE p.2.2.2),(997,ambH tab)]) (fun iR p=>GN (sA m U) (sN m U) (sOk m U) skey m.aC.length (sL m U) i ql iR p.2.1 p.2.2.1 p.2.2.2) (fun c p=>c= .ret∧(500<(sL m U).length)) J (InIt cn O O) T.ent162 J (fun _=>J) (fun _=>J) ⟨v,ql,mm,List.replicate m.aC.length (-1)⟩ hR0 ⟨rI,rI,rI,rI,rI,rI,rI,rI,rI,rI,rI,rI,rI,rI,rI,tV⟩ ?_ ?_ ?_ (fun id k h=>nomatch h.1) (fun c k h=> .inl h.1)
   ·intro m0 ⟨v2,l2,mm2,nx⟩ x0 hG0 hx0 l R w1 M1 F1 hRd
    have hR0:GN (sA m U) (sN m U) (sOk m U) skey m.aC.length (sL m U) i ql m0 l2 mm2 nx:=hG0
    show Ct _ _ _ _ _ ((900,obj l (.loop R)):: [(6,cell b6 [sl 1 nE [0],int 0]),(7,cell b7 [clo 87 []]),(9,cell b9 [clo 92 [fp [sl 1 rE_ m.aC,sl 1 gE m.sT],fp [sl 1 rE_ U.aC,sl 2 sE U.sT]]]),(10,cell b10 [eqv (.slice none 0 0),eqv (.slice none 0 0)]),(11,cell b11 [bl false]),(12,cell b12 [mpv 24 b24]),(13,cell b13 [osl 30 v2]),(14,cell b14 [sl 1 rE_ m.aC,osl 100 v14]),(15,cell ib [int (i:Int)]),(16,cell b16 [sl 1 nE (sA m U (ix ql i)),osl 300 (sv v49)]),(24,mp b24 smE smD smV mm2),(30,own v2 116 2 sdE l2),(100,own v14 81 2 sE outs),(300,own (sv v49) 3 1 nE nx),(997,ambH tab)]) _
    have hx2:(actsL (sA m U) (ix ql i))[m0]?=some x0:=by rw[←hcn3];exact hx0
    obtain⟨a,rfl,ha63,hha⟩:=listOf_get hx0
    have hha2:has (orAll (sA m U (ix ql i))) (a:Int)=true:=by rw[←hcn2];exact hha
    obtain⟨hal9,hqok1⟩:=sN_go hm hT hokP hha2
    have hal8:a<m.aC.length:=by omega
    have hnl:nx.length=m.aC.length:=by rw[hR0.nx];simp
    have hl2f:=hR0.few
    have hixP:ix l2 i=(ix ql i):=gn_ix hR0 hc0
    have hil2:i<l2.length:=by rw[hR0.pre];exact Nat.lt_of_lt_of_le hc0 (outs_prefix _ _ _ _ ql).length_le
    have hkN:KeyOK (sN m U (ix ql i) a):=key_of hm hT hqok1
    have hks:(skey (sN m U (ix ql i) a)).size≤maxL:=skey_size hkN
    refine rg (ag (nl (aq hRd J (bk (sq ?_)))))
    refine drH (nh:=9) [0,0,0,6,14,0,63,0,255] [(none,[9]),(none,[13]),(none,[15]),(none,[30]),(none,[30]),(none,[]),(none,[]),(some 21,[]),(some 21,[21])] T.mixed kR kR ?_
    refine stv (d:=65) (fun β0=>clo 92 [fp [sl 1 rE_ m.aC,sl 1 gE m.sT],fp [sl 1 rE_ U.aC,sl 2 sE U.sT]]) [9] J (fun β β' hb=>J) (fun β0 _ _ _ _ gq gh kq=>lP (gq.1.trans J) (gh.1.trans J) J T.one122 kq) ?_
    refine stv (d:=66) (fun β0=>osl 30 v2) [13] J (fun β β' hb=>J) (fun β0 _ _ _ _ gq gh kq=>lP (gq.1.trans J) (gh.1.trans J) J T.one174 kq) ?_
    refine stv (d:=67) (fun β0=>int (i:Int)) [15] J (fun β β' hb=>J) (fun β0 _ _ _ _ gq gh kq=>lP (gq.1.trans J) (gh.1.trans J) J T.one3 kq) ?_
    refine stv (d:=68) (fun β0=>eptr 30 v2 2 i 0) [30] J (fun β β' hb=>J) (fun β0 _ _ _ _ gq gh kq=>iO (gq.1.trans J) (gh.1.trans J) (gq.2.1.trans J) T.sl174 O O kq) ?_
    refine stv (d:=69) (fun β0=>agg [sl 1 nE ((ix ql i).1),int ((ix ql i).2)]) [30] J (fun β β' hb=>J) (fun β0 _ _ _ _ gq gh kq=>lOA (gq.1.trans J) (gh.1.trans J) gB T.agg116 (by decide) (kd (φ':=agg [ints (ix ql i).1,int (ix ql i).2]) (by rw[hixP];exact fun h=>h) kq)) ?_
    refine stv (d:=70) (fun β0=>int (a:Int)) [] J (fun β β' hb=>J) (fun β0 _ _ _ _ gq gh kq=>mv' (gq.1.trans J) kq) ?_
    refine stv (d:=71) (fun β0=>agg [sl 1 nE ((sN m U (ix ql i) a).1),int ((sN m U (ix ql i) a).2)]) [] J (fun β β' hb=>J) (fun β0 _ _ _ _ gq gh kq=>calC0 (φs:= [agg [sl 1 nE ((ix ql i).1),int ((ix ql i).2)],int (a:Int)]) (φ:=agg [sl 1 nE ((sN m U (ix ql i) a).1),int ((sN m U (ix ql i) a).2)]) (gq.1.trans J) ⟨(gq.2.1.trans J),(gq.2.2.1.trans J),tV⟩ (snext_ok m hm U hT (ix ql i) hokP a hal9) T.ent92 kq) ?_
    refine sta 21 T.z116 (eC (eC eZ)) ?_
    refine stw 21 (fun β0=>cell (gbk (β0 7)) [sl 1 nE ((sN m U (ix ql i) a).1),int ((sN m U (ix ql i) a).2)]) [21] J (fun β β' hb=>by first|rw[hb 7 J]|(dsimp only;rw[hb 7 J])) (fun β0 _ _ _ _ gq gh kq=>sPA (cs':= [sl 1 nE ((sN m U (ix ql i) a).1),int ((sN m U (ix ql i) a).2)]) (gq.1.trans J) (gh.1.trans J) (gq.2.1.trans J) T.agg116 J J kq) ?_
    refine pnH fun β0=>(nl (th (sq (dr (nh:=10) [0,0,0,6,15,31,63,63,127,511] T.mixed kR ?_))))
    refine st_ J (fun _ _ _ gq kq=>lP (gq.1.trans J) J J T.one173 kq) ?_
    refine st_ J (fun _ _ _ gq kq=>lP (gq.1.trans J) J J T.one118 kq) ?_
    refine st_ J (fun _ _ _ gq kq=>lPA (gq.1.trans J) J T.agg116 J kq) ?_
    refine st_ J (fun _ _ _ gq kq=>tbK (ψ:=tab) 75 997 (gq.2.1.trans J) J (calC0 (φs:= [both (agg [sl 1 nE ((sN m U (ix ql i) a).1),int ((sN m U (ix ql i) a).2)]) tab]) (φ:=str (skey (sN m U (ix ql i) a))) (gq.1.trans J) ⟨J,tV⟩ (skey_ok (sN m U (ix ql i) a) hkN) T.ent87 (tbX (gq.2.1.trans J) kq))) ?_
    refine st_ J (fun _ _ _ gq kq=>lookup2 (z:=0) (q:=skey (sN m U (ix ql i) a)) (gq.1.trans J) J (fun h=>eqv_of (gq.2.1.trans J) h) T.map173 hks T.zv3 kq) ?_
    refine st_ J (fun _ _ _ gq kq=>mv' (gq.1.trans J) kq) ?_
    refine st_ J (fun _ _ _ gq kq=>xt (gq.1.trans J) J kq) ?_
    refine st_ J (fun _ _ _ gq kq=>xt (gq.1.trans J) J kq) ?_
    refine st_ J (fun _ _ _ gq kq=>ag' (gq.1.trans J) kq) ?_
    refine st_ J (fun _ _ _ gq kq=>ag' (gq.1.trans J) kq) ?_
    refine pn (nl (th (sq (sq (rg (mv (no J (nl (th ?_)))))))))
    refine cd J (fun hc2=> ?_) (fun hc2=> ?_)
    ·skip
     have h5:(mget mm2 (skey (sN m U (ix ql i) a))).isSome=false:=by simpa using hc2
     refine sq (sq (rg (lP J J J T.one174 (lnO J J T.sl174 (bi J J b_eql (nl (th ?_)))))))
     refine cd J (fun hc3=> ?_) (fun hc3=> ?_)
     ·try simp at hc3
      have h6:(l2.length:Int)=500:=by omega
      refine sq (rg (bd (css:= []) T.st25 (eC (eC eZ)) trivial (sPA (cs':= [eqv (.slice none 0 0),eqv (.slice none 0 0)]) J J J T.agg25 J J (sP (φ:=bl false) J J J T.one4 J (nl (th (rt (rt_ (rt_ (rb ?_))))))))))
      have hRr:500<(sL m U).length:=by
       exact gn_fail hG hQW hR0 hc0 hqok1 hx2 rfl h5 h6
      exact rqR ⟨v2,l2,mm2,nx⟩ ⟨rfl,hRr⟩ ⟨rI,rI,rI,rI,rI,rI,rI,rI,rI,rI,rI,rI,rI,rI,rI,rI,tV⟩
     ·try simp at hc3
      refine sk (th (sq (rg (lP J J J T.one174 (lnO J J T.sl174 (ag (nl (th (sq (dr (nh:=5) [0,0,0,6,0,31] T.mixed kR ?_))))))))))
      refine st_ J (fun _ _ _ gq kq=>lP (gq.1.trans J) J J T.one173 kq) ?_
      refine st_ J (fun _ _ _ gq kq=>lP (gq.1.trans J) J J T.one118 kq) ?_
      refine st_ J (fun _ _ _ gq kq=>lPA (gq.1.trans J) J T.agg116 J kq) ?_
      refine st_ J (fun _ _ _ gq kq=>tbK (ψ:=tab) 90 997 (gq.2.1.trans J) J (calC0 (φs:= [both (agg [sl 1 nE ((sN m U (ix ql i) a).1),int ((sN m U (ix ql i) a).2)]) tab]) (φ:=str (skey (sN m U (ix ql i) a))) (gq.1.trans J) ⟨J,tV⟩ (skey_ok (sN m U (ix ql i) a) hkN) T.ent87 (tbX (gq.2.1.trans J) kq))) ?_
      refine st_ J (fun _ _ _ gq kq=>mv' (gq.1.trans J) kq) ?_
      refine pn (mapUpdate (q:=skey (sN m U (ix ql i) a)) (u:=(l2.length:Int)) J J eqv_eq J T.map173 hks (nl (th (rg (lP J J J T.one174 (lPA J J T.agg116 J (bsE (enc:=sdE) (xs:= [((sN m U (ix ql i) a).1,(sN m U (ix ql i) a).2)]) (css:= [[sl 1 nE ((sN m U (ix ql i) a).1),int ((sN m U (ix ql i) a).2)]]) T.mk174 ⟨J,J,pA (cs:= [sl 1 nE ((sN m U (ix ql i) a).1),int ((sN m U (ix ql i) a).2)]) J,tV⟩ J J J J (ap (key:=30) (zs:= [(sN m U (ix ql i) a)]) osl_eq J J J T.mk174 (by unfold maxL at*;simp;omega) (by unfold maxL at*;simp;omega) fun v96=>(storePO J J J J T.one174 J (nl (th (rg (fP J T.fld81_1 (lP J J J T.one36 (mv (mv (iO J J J T.sl36 O O (sO (φ:=int (l2.length:Int)) J J J T.one3 gB J (y':=(l2.length:Int)) J (nl (eb ?_))))))))))))))))))))
      have hN0:GN (sA m U) (sN m U) (sOk m U) skey m.aC.length (sL m U) i ql (m0+1) (l2++ [(sN m U (ix ql i) a)]) (mset mm2 (skey (sN m U (ix ql i) a)) (l2.length:Int)) (nx.set a (l2.length:Int)):=by
       exact gn_new hG hQW hR0 hc0 hqok1 hx2 hal8 rfl h5 O
      exact rqN ⟨v96,l2++ [(sN m U (ix ql i) a)],mset mm2 (skey (sN m U (ix ql i) a)) (l2.length:Int),nx.set a (l2.length:Int)⟩ hN0 ⟨rI,rI,rI,rI,rI,rI,rI,rI,rI,rI,rI,rI,rI,rI,rI,rI,tV⟩
    ·skip
     have h5:(mget mm2 (skey (sN m U (ix ql i) a))).isSome=true:=by simpa using hc2
     refine sk (th (rg (fP J T.fld81_1 (lP J J J T.one36 (mv (mv (iO J J J T.sl36 O O (sO (φ:=int ((mget mm2 (skey (sN m U (ix ql i) a))).getD 0)) J J J T.one3 gB J (y':=((mget mm2 (skey (sN m U (ix ql i) a))).getD 0)) J (nl (eb ?_))))))))))
     have hN0:GN (sA m U) (sN m U) (sOk m U) skey m.aC.length (sL m U) i ql (m0+1) l2 mm2 (nx.set a ((mget mm2 (skey (sN m U (ix ql i) a))).getD 0)):=by
      exact gn_old hG hQW hR0 hc0 hqok1 hx2 hal8 rfl h5
     exact rqN ⟨v2,l2,mm2,nx.set a ((mget mm2 (skey (sN m U (ix ql i) a))).getD 0)⟩ hN0 ⟨rI,rI,rI,rI,rI,rI,rI,rI,rI,rI,rI,rI,rI,rI,rI,rI,tV⟩
   ·intro⟨v2,l2,mm2,nx⟩ hG0
    have hR0:GN (sA m U) (sN m U) (sOk m U) skey m.aC.length (sL m U) i ql (listOf 63 cn).length l2 mm2 nx:=hG0
    show At _ _ _ _ [(6,cell b6 [sl 1 nE [0],int 0]),(7,cell b7 [clo 87 []]),(9,cell b9 [clo 92 [fp [sl 1 rE_ m.aC,sl 1 gE m.sT],fp [sl 1 rE_ U.aC,sl 2 sE U.sT]]]),(10,cell b10 [eqv (.slice none 0 0),eqv (.slice none 0 0)]),(11,cell b11 [bl false]),(12,cell b12 [mpv 24 b24]),(13,cell b13 [osl 30 v2]),(14,cell b14 [sl 1 rE_ m.aC,osl 100 v14]),(15,cell ib [int (i:Int)]),(16,cell b16 [sl 1 nE (sA m U (ix ql i)),osl 300 (sv v49)]),(24,mp b24 smE smD smV mm2),(30,own v2 116 2 sdE l2),(100,own v14 81 2 sE outs),(300,own (sv v49) 3 1 nE nx),(997,ambH tab)]
    refine eb (th (rg (fP rfl T.fld25_1 (lP rfl rfl rfl T.one23 (fzc 16 300 1 rfl rfl rfl rfl (lPA rfl rfl T.agg81 rfl (bsE (enc:=sE) (xs:= [(⟨sA m U (ix ql i),nx⟩)]) (css:= [[sl 1 nE (sA m U (ix ql i)),sl 1 nE nx]]) T.mk23 ⟨rfl,rfl,pA (cs:= [sl 1 nE (sA m U (ix ql i)),sl 1 nE nx]) rfl,tV⟩ rfl rfl rfl rfl (ap (key:=100) (zs:= [(⟨sA m U (ix ql i),nx⟩)]) osl_eq rfl rfl rfl T.mk23 (by unfold maxL at*;simp;omega) (by unfold maxL at*;simp;omega) fun v106=>(fP rfl T.fld25_1 (storePO rfl rfl rfl rfl T.one23 rfl (nl (eb (th (sq (sq (rg (lP rfl rfl rfl T.one3 (nl (th (rg (al (key:=15) T.z3 (eC eZ) fun b15=>(sP (φ:=int (i:Int)) rfl rfl rfl T.one3 rfl (nl (th (rg (lP rfl rfl rfl T.one3 (bi rfl rfl (b_add i6) (sP (φ:=int ((i+1:Nat):Int)) rfl rfl rfl T.one3 rfl (nl ?_)))))))))))))))))))))))))))))
    have hN0:GW (sA m U) (sN m U) (sOk m U) skey m.aC.length (2^m.sT.length*U.sT.length) (sL m U) (i+1) l2 mm2 (outs++ [(⟨sA m U (ix ql i),nx⟩)]):=by
     rw[show listOf 63 cn=actsL (sA m U) (ix ql i) from hcn3] at hR0
     exact gn_end hG hQW hR0 hc0
    exact ln (⟨b15,i+1,v2,l2,mm2,v106,outs++ [(⟨sA m U (ix ql i),nx⟩)]⟩:Nat × Nat × Value × (List Sd) × (List (ByteArray × Int)) × Value × (List SA)) hN0 (by have:=hQW.few;show 501- (i+1)<501- i;omega) ⟨id,id,id,id,id,id,id,id,id,id,id,tV⟩ ⟨rI,rI,rI,rI,rI,rI,rI,rI,rI,rI,rI,rI,rI,tV⟩
   ·intro⟨v2,l2,mm2,nx⟩ hS0
    have hRt0:500<(sL m U).length:=hS0.2
    show At _ _ _ _ [(6,cell b6 [sl 1 nE [0],int 0]),(7,cell b7 [clo 87 []]),(9,cell b9 [clo 92 [fp [sl 1 rE_ m.aC,sl 1 gE m.sT],fp [sl 1 rE_ U.aC,sl 2 sE U.sT]]]),(10,cell b10 [eqv (.slice none 0 0),eqv (.slice none 0 0)]),(11,cell b11 [bl false]),(12,cell b12 [mpv 24 b24]),(13,cell b13 [osl 30 v2]),(14,cell b14 [sl 1 rE_ m.aC,osl 100 v14]),(15,cell ib [int (i:Int)]),(16,cell b16 [sl 1 nE (sA m U (ix ql i)),osl 300 (sv v49)]),(24,mp b24 smE smD smV mm2),(30,own v2 116 2 sdE l2),(100,own v14 81 2 sE outs),(300,own (sv v49) 3 1 nE nx),(997,ambH tab)]
    refine rb (rt_ (rb (rt_ (rt_ (rb (rt_ ?_))))))
    refine kncA 10 0 (sl 1 rE_ []) rfl rfl slnil ?_
    refine kncA 10 1 (sl 2 sE []) rfl rfl slnil ?_
    have hr0: []=((growT m U).1).aC:=by
     rw[growT_no hRt0]
    have hr1: []=((growT m U).1).sT:=by
     rw[growT_no hRt0]
    have hr2:false=((growT m U).2):=by
     rw[growT_no hRt0]
    exact rE () [.cell 10 25,.cell 11 4] J [agg [sl 1 rE_ [],sl 2 sE []],bl false] ⟨.agg J J T.agg25 J J,.one J J T.one4 J,tV⟩ (cA3 (fun x0 x1 x2=>rV [agg [sl 1 rE_ x0,sl 2 sE x1],bl x2]) hr0 hr1 hr2) trivial eX
 ·try simp at hc0
  have hdn:=gw_done hQW O
  have hq5:(sL m U).length≤500:=gw_few hQW O
  have hq1:growT m U=((tR (sD m U)).1,true):=by unfold growT;rw[if_pos hq5]
  have hqok:oK (sD m U):=nums_ok hm hT hMU ⟨s_numb hm hT hMU,(s_walk hm hT hMU).ok,rfl⟩ O
  refine ex (xt_ (xt_ (xb (th (sq (rg (fzc 14 100 1 J J J J (lPA J J T.agg25 J (kn 110 (spec (sD m U)) J (by rw[show outs=(sD m U).sT from hdn.2];exact fun h=>h) (calW (φs:= [agg [sl 1 rE_ (sD m U).aC,sl 2 sE (sD m U).sT]]) (φ:=tup [agg [sl 1 rE_ ((tR (sD m U)).1.aC),sl 2 sE ((tR (sD m U)).1.sT)],sl 1 nE ((tR (sD m U)).2)]) ⟨J,tV⟩ (prog9.Trimmed_ok (sD m U) aS) T.ent68 (fun N hN=>fun h=>tup_le (cs:= [agg [fre N (sl 1 rE_ ((tR (sD m U)).1.aC)),frb (ix (hOl (sD m U)) 0) N (sl 2 sE ((tR (sD m U)).1.sT))],sl 1 nE ((tR (sD m U)).2)]) (ds:= [agg [sl 1 rE_ ((tR (sD m U)).1.aC),sl 2 sE ((tR (sD m U)).1.sT)],sl 1 nE ((tR (sD m U)).2)]) ⟨fun h=>agg_le (cs:= [fre N (sl 1 rE_ ((tR (sD m U)).1.aC)),frb (ix (hOl (sD m U)) 0) N (sl 2 sE ((tR (sD m U)).1.sT))]) (ds:= [sl 1 rE_ ((tR (sD m U)).1.aC),sl 2 sE ((tR (sD m U)).1.sT)]) ⟨fun h=>nw_le h,fun h=>frb_le h,tV⟩ h,fun h=>h,tV⟩ h) (mv (xt J J (xt J J (sPA (cs':= [sl 1 rE_ ((tR (sD m U)).1.aC),sl 2 sE ((tR (sD m U)).1.sT)]) J J J T.agg25 J J (nl (th (sq (rg (lPA J J T.agg25 J (sPA (cs':= [sl 1 rE_ ((tR (sD m U)).1.aC),sl 2 sE ((tR (sD m U)).1.sT)]) J J J T.agg25 J J (sP (φ:=bl true) J J J T.one4 J (nl (th (rt ?_))))))))))))))))))))))))
  have hr0:((tR (sD m U)).1.aC)=((growT m U).1).aC:=by
   rw[hq1]
  have hr1:((tR (sD m U)).1.sT)=((growT m U).1).sT:=by
   rw[hq1]
  have hr2:true=((growT m U).2):=by
   rw[hq1]
  exact rE () [.cell 10 25,.cell 11 4] J [agg [sl 1 rE_ ((tR (sD m U)).1.aC),sl 2 sE ((tR (sD m U)).1.sT)],bl true] ⟨.agg J J T.agg25 J J,.one J J T.one4 J,tV⟩ (cA3 (fun x0 x1 x2=>rV [agg [sl 1 rE_ x0,sl 2 sE x1],bl x2]) hr0 hr1 hr2) trivial eX
theorem sgrowC_ok (m:SSys) (hm:okSys m) (U:SS) (hU:oK U) (hMU:m.aC.length=U.aC.length):Fn0 Tryz.prog 86 [tabbed (strs m.aC),agg [ints [0],int 0],eqv (.func (.func 87) #[] #[]),clo 89 [fp [clo 84 [fp [strs m.aC,sl 1 gE m.sT]]],fp [strs U.aC,sl 2 sE U.sT]],clo 92 [fp [strs m.aC,sl 1 gE m.sT],fp [strs U.aC,sl 2 sE U.sT]]] (tup [spec (growT m U).1,bl (growT m U).2]):=
 fn_args (fun {w F vs} h=>by
  match vs,h with
  | [_,_,_,_,_],⟨h1,h2,h3,h4,h5,_⟩=>exact⟨h1,h2,eq_clo h3,h4,h5,tV⟩) (sgrow_ok m hm U hU hMU)
theorem Beside_ok (m:SSys) (t:SS) (hsm:smallSpec t):
 Fn0 Tryz.prog 35 [tabbed (sys m),spec t] (tup [spec (besS m t).1,int (besS m t).2]):=by
 refine fnI Tryz.func35 rfl rfl (fun w0 F0=> ?_)
 refine tbI 0 9999 rfl ?_
 refine fcC (inhS 0 J) (fun hS0=> ?_)
 obtain⟨hma0,hms0,hme0⟩:=sys_lens hS0
 refine fcC (inhS 1 J) (fun hS1=> ?_)
 obtain⟨hsa1,hss1,hse1⟩:=sLn hS1
 refine sq (rg (bx (key:=2) (cs:= [sl 1 rE_ m.aC,sl 1 gE m.sT]) J fun b2=>(bx (key:=3) (cs:= [sl 1 rE_ t.aC,sl 2 sE t.sT]) J fun b3=>(al (key:=4) T.z25 (eC (eC eZ)) fun b4=>(ag (nl (th (sq (sq (rg (lPA J J T.agg43 J (lPA J J T.agg25 J (cal0 (φs:= [agg [sl 1 rE_ m.aC,sl 1 gE m.sT],agg [sl 1 rE_ t.aC,sl 2 sE t.sT]]) (φ:=int (fineSE m t)) ⟨J,J,tV⟩ (satj.Fine_ok m t aS) T.ent83 (ag (nl (th (sq (rg (mv (bi J J b_neq (nl (th ?_))))))))))))))))))))))
 refine cd J (fun hc0=> ?_) (fun hc0=> ?_)
 ·try simp at hc0
  have hd:=bes_no (m:=m) (t:=t) hc0
  refine sq (rg (bd (css:= []) T.st25 (eC (eC eZ)) trivial (mv (sPA (cs':= [eqv (.slice none 0 0),eqv (.slice none 0 0)]) J J J T.agg25 J J (ag (nl (th (rt (rt_ ?_)))))))))
  refine kncA 4 0 (sl 1 rE_ []) rfl rfl slnil ?_
  refine kncA 4 1 (sl 2 sE []) rfl rfl slnil ?_
  have hr0: []=((besS m t).1).aC:=by
   rw[hd]
  have hr1: []=((besS m t).1).sT:=by
   rw[hd]
  have hr2:((fineSE m t):Int)=((besS m t).2):=by
   rw[hd]
  exact rE () [.cell 4 25,.tmp 5] J [agg [sl 1 rE_ [],sl 2 sE []],int (fineSE m t)] ⟨.agg J J T.agg25 J J,.tmp J,tV⟩ (cA3 (fun x0 x1 x2=>rV [agg [sl 1 rE_ x0,sl 2 sE x1],int x2]) hr0 hr1 hr2) trivial eX
 ·try simp at hc0
  obtain⟨hmv,htv,hmt⟩:=fineS_ok hc0
  have hm:=sysOK_ok hmv
  have ht:=okSpec_of htv
  have hT:=trim_ok ht
  have hn8:=hm.n8
  have hMU:m.aC.length=(tR t).1.aC.length:=by rw[trim_acts,hmt]
  refine sk (th (sq (rg (lPA J J T.agg25 J (calW (φs:= [agg [sl 1 rE_ t.aC,sl 2 sE t.sT]]) (φ:=tup [agg [sl 1 rE_ ((tR t).1.aC),sl 2 sE ((tR t).1.sT)],sl 1 nE ((tR t).2)]) ⟨J,tV⟩ (prog9.Trimmed_ok t aS) T.ent68 (fun N hN=>fun h=>tup_le (cs:= [agg [fre N (sl 1 rE_ ((tR t).1.aC)),frb (ix (hOl t) 0) N (sl 2 sE ((tR t).1.sT))],sl 1 nE ((tR t).2)]) (ds:= [agg [sl 1 rE_ ((tR t).1.aC),sl 2 sE ((tR t).1.sT)],sl 1 nE ((tR t).2)]) ⟨fun h=>agg_le (cs:= [fre N (sl 1 rE_ ((tR t).1.aC)),frb (ix (hOl t) 0) N (sl 2 sE ((tR t).1.sT))]) (ds:= [sl 1 rE_ ((tR t).1.aC),sl 2 sE ((tR t).1.sT)]) ⟨fun h=>nw_le h,fun h=>frb_le h,tV⟩ h,fun h=>h,tV⟩ h) (mv (xt J J (xt J J (sPA (cs':= [sl 1 rE_ ((tR t).1.aC),sl 2 sE ((tR t).1.sT)]) J J J T.agg25 J J (ag (nl (th (sq (sq (rg (mv (fc (slenI 23 J) fun hm23=>(lnF J T.sl36 (bi J J b_eql (nl (th ?_)))))))))))))))))))))
  refine cd J (fun hc1=> ?_) (fun hc1=> ?_)
  ·skip
   have hd:=bes_hol hc0 (by have:=of_decide_eq_true hc1;omega)
   refine sq (rg (lPA J J T.agg25 J (sPA (cs':= [sl 1 rE_ ((tR t).1.aC),sl 2 sE ((tR t).1.sT)]) J J J T.agg25 J J (ag (nl (th (rt (rt_ ?_))))))))
   have hr0:((tR t).1.aC)=((besS m t).1).aC:=by
    rw[hd]
   have hr1:((tR t).1.sT)=((besS m t).1).sT:=by
    rw[hd]
   have hr2:(0:Int)=((besS m t).2):=by
    rw[hd]
   exact rE () [.cell 4 25,.tmp 5] J [agg [sl 1 rE_ ((tR t).1.aC),sl 2 sE ((tR t).1.sT)],int 0] ⟨.agg J J T.agg25 J J,.tmp J,tV⟩ (cA3 (fun x0 x1 x2=>rV [agg [sl 1 rE_ x0,sl 2 sE x1],int x2]) hr0 hr1 hr2) trivial eX
  ·skip
   have hd0:=bes_go hc0 (by have:=of_decide_eq_false hc1;omega)
   refine sk (th (sq (rg (fzv 2 2 J J (mkf (al (key:=8) T.z113 (eC eZ) fun b8=>(sP (φ:=clo 84 [fp [sl 1 rE_ m.aC,sl 1 gE m.sT]]) J J J T.one113 J (nl (th (sq (rg (fF J T.fld43_0 (lF J J T.one22 (bsE (enc:=nE) (xs:= [0]) (css:= [[int 0]]) T.mk36 ⟨J,J,p1 (φ:=int 0) J,tV⟩ J J J J (bd (css:= [(0,_),(1,_)]) T.st116 (eC (eC eZ)) ⟨J,J,p1 (φ:=sl 1 nE [0]) J,⟨J,J,p1 (φ:=int 0) J,tV⟩⟩ (fzv 8 8 J J (fzv 3 3 J J (mkf (mkf (tbU (ψ:=tab) 30 9999 J J (cal0 (φs:= [both (sl 1 rE_ m.aC) tab,agg [sl 1 nE [0],int 0],eqv (.func (.func 87) #[] #[]),clo 89 [fp [clo 84 [fp [sl 1 rE_ m.aC,sl 1 gE m.sT]]],fp [sl 1 rE_ ((tR t).1.aC),sl 2 sE ((tR t).1.sT)]],clo 92 [fp [sl 1 rE_ m.aC,sl 1 gE m.sT],fp [sl 1 rE_ ((tR t).1.aC),sl 2 sE ((tR t).1.sT)]]]) (φ:=tup [agg [sl 1 rE_ ((growT m (tR t).1).1).aC,sl 2 sE ((growT m (tR t).1).1).sT],bl ((growT m (tR t).1).2)]) ⟨J,J,J,J,J,tV⟩ (sgrowC_ok m hm (tR t).1 hT hMU) T.ent86 (mv (xt J J (xt J J (al (key:=9) T.z25 (eC (eC eZ)) fun b9=>(sPA (cs':= [sl 1 rE_ ((growT m (tR t).1).1).aC,sl 2 sE ((growT m (tR t).1).1).sT]) J J J T.agg25 J J (ag (nl (th (sq (sq (rg (mv (no J (nl (th ?_))))))))))))))))))))))))))))))))))))
   refine cd J (fun hc2=> ?_) (fun hc2=> ?_)
   ·try simp at hc2
    have hd:besS m t=(⟨[],[]⟩,2):=by rw[hd0,if_neg (by simpa using hc2)]
    refine sq (rg (bd (css:= []) T.st25 (eC (eC eZ)) trivial (sPA (cs':= [eqv (.slice none 0 0),eqv (.slice none 0 0)]) J J J T.agg25 J J (ag (nl (th (rt (rt_ ?_))))))))
    refine kncA 4 0 (sl 1 rE_ []) rfl rfl slnil ?_
    refine kncA 4 1 (sl 2 sE []) rfl rfl slnil ?_
    have hr0: []=((besS m t).1).aC:=by
     rw[hd]
    have hr1: []=((besS m t).1).sT:=by
     rw[hd]
    have hr2:(2:Int)=((besS m t).2):=by
     rw[hd]
    exact rE () [.cell 4 25,.tmp 5] J [agg [sl 1 rE_ [],sl 2 sE []],int 2] ⟨.agg J J T.agg25 J J,.tmp J,tV⟩ (cA3 (fun x0 x1 x2=>rV [agg [sl 1 rE_ x0,sl 2 sE x1],int x2]) hr0 hr1 hr2) trivial eX
   ·try simp at hc2
    have hd:besS m t=((growT m (tR t).1).1,0):=by rw[hd0,if_pos (by simpa using hc2)]
    refine sk (th (sq (rg (lPA J J T.agg25 J (sPA (cs':= [sl 1 rE_ ((growT m (tR t).1).1).aC,sl 2 sE ((growT m (tR t).1).1).sT]) J J J T.agg25 J J (ag (nl (th (rt ?_)))))))))
    have hr0:((growT m (tR t).1).1).aC=((besS m t).1).aC:=by
     rw[hd]
    have hr1:((growT m (tR t).1).1).sT=((besS m t).1).sT:=by
     rw[hd]
    have hr2:(0:Int)=((besS m t).2):=by
     rw[hd]
    exact rE () [.cell 4 25,.tmp 5] J [agg [sl 1 rE_ ((growT m (tR t).1).1).aC,sl 2 sE ((growT m (tR t).1).1).sT],int 0] ⟨.agg J J T.agg25 J J,.tmp J,tV⟩ (cA3 (fun x0 x1 x2=>rV [agg [sl 1 rE_ x0,sl 2 sE x1],int x2]) hr0 hr1 hr2) trivial eX
end prodb
end
end Go.Proofs.YtcjemmihcplgdaaGreatDoor
