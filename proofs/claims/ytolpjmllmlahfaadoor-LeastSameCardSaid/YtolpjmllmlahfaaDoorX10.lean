/- The walks of the functions and the plain laws. Own texts of this claim, packed: search, BisM, BisM2, BisM3, BisM4, TurnM, BisM5, WalkM, refw, starts, prog15, StepM. -/
import Derived.Test.YtolpjmllmlahfaaDoorX03
import Derived.Test.YtolpjmllmlahfaaDoorX09
import Derived.Test.YtolpjmllmlahfaaDoorX06
import Derived.Test.YtolpjmllmlahfaaDoorX02
import Derived.Test.YtolpjmllmlahfaaDoorX04
set_option linter.all false
namespace Go.Proofs.YtolpjmllmlahfaaDoor
open AL Go
set_option maxRecDepth 100000
set_option linter.all false
open ref01 ref03
def bsP (l:List Int) (t:Int):Nat:=(l.takeWhile fun y=>decide (y<t)).length
theorem tw_len {p:Int→Bool}:∀{l:List Int} {i:Nat},i≤l.length→(∀k,k<i→p (ix l k)=true)→(i<l.length→p (ix l i)=false)→(l.takeWhile p).length=i
 | [],i,h,_,_=>by have:i=0:=by simpa using h
                  subst this;rfl
 |y::l,0,_,_,h=>by
  have h1:p y=false:=h (by simp)
  simp[List.takeWhile_cons,h1]
 |y::l,i+1,hi,h,h'=>by
  have h1:p y=true:=h 0 (by omega)
  have h2:=tw_len (p:=p) (l:=l) (i:=i) (by simpa using hi) (fun k hk=>h (k+1) (by omega)) (fun hl=>h' (by simpa using hl))
  simp[List.takeWhile_cons,h1,h2]
theorem rise_lt {l:List Int} (h:rising l=true) {i j:Nat} (hij:i<j) (hj:j<l.length):ix l i<ix l j:=by
 have hst:∀k,i+(k+1)<l.length→ix l i<ix l (i+(k+1)):=fun k=>by
  induction k with
  |zero=>
   intro hk
   unfold rising at h
   have:=List.all_eq_true.1 h i (List.mem_range.2 (by omega))
   simpa using this
  |succ k ih=>
   intro hk
   have h1:=ih (by omega)
   unfold rising at h
   have:=List.all_eq_true.1 h (i+(k+1)) (List.mem_range.2 (by omega))
   have h2:ix l (i+(k+1))<ix l (i+(k+1)+1):=by simpa using this
   rw[show i+(k+1+1)=i+(k+1)+1 by omega]
   omega
 have:=hst (j- i- 1) (by omega)
 rwa [show i+(j- i- 1+1)=j by omega] at this
theorem found_iff {l:List Int} (h:rising l=true) {t:Int} {i:Nat} (h1:∀k,k<i→ix l k<t) (h2:∀k,i≤k→k<l.length→t≤ix l k):(decide ((i:Int)<(l.length:Int))&&decide (ix l i=t))=decide (t∈l):=by
 by_cases hm:t∈l
 ·rw[decide_eq_true hm]
  obtain⟨k,hk,e⟩:=List.getElem_of_mem hm
  rw[←ix_get hk] at e
  have hki:i≤k:=by
   rcases Nat.lt_or_ge k i with h3|h3
   ·have:=h1 k h3;omega
   ·exact h3
  have hil:i<l.length:=by omega
  have:ix l i=t:=by
   rcases Nat.lt_or_ge i k with h3|h3
   ·have g1:=rise_lt h h3 hk
    have g2:=h2 i (Nat.le_refl _) hil
    omega
   ·have:i=k:=by omega
    subst this;exact e
  rw[decide_eq_true (by omega),decide_eq_true this];rfl
 ·rw[decide_eq_false hm]
  by_cases hil:i<l.length
  ·rw[decide_eq_false (p:=ix l i=t) (fun e=>hm (by rw[←e,ix_get hil];exact List.getElem_mem hil))];simp
  ·rw[decide_eq_false (by omega)];rfl
namespace T
theorem ent135:Ent Tryd.prog 135:=ent_of (by kernel_rfl)
theorem ent123:Ent Tryd.prog 123:=ent_of (by kernel_rfl)
theorem ent124:Ent Tryd.prog 124:=ent_of (by kernel_rfl)
theorem ent108:Ent Tryd.prog 108:=ent_of (by kernel_rfl)
end T
namespace search
theorem cNaN_ok (x:Int):
 Fn0 Tryd.prog 135 [int x] (bl false):=by
 refine fnI Tryd.func135 rfl rfl (fun w0 F0=> ?_)
 refine sq (rg (ag (nl (th (sq (rg (mv (mv (bi rfl rfl b_neq (ag (nl (th (rt ?_)))))))))))))
 have hr0:(decide (x≠x))=false:=by
  first|rfl|simp_all|omega
 have hall:∀x0,(decide (x≠x))=x0→resAV [bl (decide (x≠x))]=resAV [bl x0]:=by rintro _ rfl;rfl
 exact rE () [.tmp 2] rfl [bl (decide (x≠x))] ⟨.tmp rfl,trivial⟩ (hall _ hr0) trivial (by first|exact .inr rfl|exact .inl rfl)
theorem sNaN_ok (x:Int):
 Fn0 Tryd.prog 124 [int x] (bl false):=by
 refine fnI Tryd.func124 rfl rfl (fun w0 F0=> ?_)
 refine sq (rg (ag (nl (th (sq (rg (mv (mv (bi rfl rfl b_neq (ag (nl (th (rt ?_)))))))))))))
 have hr0:(decide (x≠x))=false:=by
  first|rfl|simp_all|omega
 have hall:∀x0,(decide (x≠x))=x0→resAV [bl (decide (x≠x))]=resAV [bl x0]:=by rintro _ rfl;rfl
 exact rE () [.tmp 2] rfl [bl (decide (x≠x))] ⟨.tmp rfl,trivial⟩ (hall _ hr0) trivial (by first|exact .inr rfl|exact .inl rfl)
theorem Less_ok (x y:Int):
 Fn0 Tryd.prog 123 [int x,int y] (bl (decide (x<y))):=by
 refine fnI Tryd.func123 rfl rfl (fun w0 F0=> ?_)
 refine sq (rg (ag (nl (th (sq (rg (mv (cal0 (φs:= [int x]) (φ:=bl false) ⟨rfl,trivial⟩ (search.cNaN_ok _) T.ent135 (mv ?_)))))))))
 apply gAnd (t:=7) (pd:=11) rfl
 rotate_left
 ·intro hg0 fin
  exact gy rfl rfl rfl hg0 (mv (gy rfl rfl rfl hg0 (cal0 (φs:= [int y]) (φ:=bl false) ⟨rfl,trivial⟩ (search.cNaN_ok _) T.ent135 (gy rfl rfl rfl hg0 (no rfl (pkT rfl hg0 rfl (drp (X:= [(10,_),(9,_),(8,_)]) ⟨rfl,rfl,rfl,trivial⟩ (fin))))))))
 ·intro hg0 fin
  exact gn rfl rfl rfl hg0 rfl rfl (gn rfl rfl rfl hg0 rfl rfl (gn rfl rfl rfl hg0 rfl rfl (pkF rfl hg0 rfl (drp (X:= [(10,_),(9,_),(8,_)]) ⟨rfl,rfl,rfl,trivial⟩ (fin)))))
 refine mv ?_
 apply gOr (t:=12) (pd:=16) rfl
 rotate_left
 ·intro hg1 fin
  have hg1':=hg1
  try simp at hg1'
  exact gy rfl rfl rfl hg1 (mv (gy rfl rfl rfl hg1 (mv (gy rfl rfl rfl hg1 (bi rfl rfl b_lss (pkF rfl hg1 rfl (drp (X:= [(15,_),(14,_),(13,_)]) ⟨rfl,rfl,rfl,trivial⟩ (fin))))))))
 ·intro hg1 fin
  exact gn rfl rfl rfl hg1 rfl rfl (gn rfl rfl rfl hg1 rfl rfl (gn rfl rfl rfl hg1 rfl rfl (pkT rfl hg1 rfl (drp (X:= [(15,_),(14,_),(13,_)]) ⟨rfl,rfl,rfl,trivial⟩ (fin)))))
 refine ag (nl (th (rt ?_)))
 have hr0:((false&&(!false))||(decide (x<y)))=(decide (x<y)):=by
  simp
 have hall:∀x0,((false&&(!false))||(decide (x<y)))=x0→resAV [bl ((false&&(!false))||(decide (x<y)))]=resAV [bl x0]:=by rintro _ rfl;rfl
 exact rE () [.tmp 4] rfl [bl ((false&&(!false))||(decide (x<y)))] ⟨.tmp rfl,trivial⟩ (hall _ hr0) trivial (by first|exact .inr rfl|exact .inl rfl)
theorem Search_ok (l:List Int) (hr:rising l=true) (t:Int):
 Fn0 Tryd.prog 108 [ints l,int t] (tup [int (bsP l t:Int),bl (decide (t∈l))]):=by
 refine fnI Tryd.func108 rfl rfl (fun w0 F0=> ?_)
 refine fcC (slenI 0 rfl) (fun hm0=> ?_)
 refine sq (rg (ag (ag (nl (th (sq (rg (mv (lnF rfl T.sl28 (ag (nl (th (sq (rg (mv (ag (ag (nl (th (sq (bk ?_)))))))))))))))))))))
 have hI0_0:0≤l.length∧l.length≤l.length∧(∀k,k<0→ix l k<t)∧(∀k,l.length≤k→k<l.length→t≤ix l k):=by
  exact⟨Nat.zero_le _,Nat.le_refl _,fun k hk=>by omega,fun k hk hl=>by omega⟩
 refine lp (κ:=Nat × Nat) (fun p=> [(0,sl 1 intE l),(1,int t),(4,int 0),(5,bl false),(6,int (l.length:Int)),(7,int (p.1:Int)),(8,int (p.2:Int))]) (fun p=> []) (fun p=>p.1≤p.2∧p.2≤l.length∧(∀k,k<p.1→ix l k<t)∧(∀k,p.2≤k→k<l.length→t≤ix l k)) (fun p=>p.2- p.1) ⟨0,l.length⟩ hI0_0 ⟨id,id,id,id,id,id,id,trivial⟩ trivial ?_
 intro⟨i,j⟩ hG0
 have hI0:i≤j∧j≤l.length∧(∀k,k<i→ix l k<t)∧(∀k,j≤k→k<l.length→t≤ix l k):=hG0
 show Ct _ _ _ _ [(0,sl 1 intE l),(1,int t),(4,int 0),(5,bl false),(6,int (l.length:Int)),(7,int (i:Int)),(8,int (j:Int))] [] _
 obtain⟨hij,hjl,hlo,hhi⟩:=hI0
 refine sq (sq (rg (mv (mv (bi rfl rfl b_lss (nl (th ?_)))))))
 refine cd rfl (fun hc0=> ?_) (fun hc0=> ?_)
 ·try simp at hc0
  refine sk (th (bk (sq (rg (mv (mv (bi rfl rfl (b_add (by unfold I64;omega)) (cv rfl T.kd3 T.kd143 (wrap_U64 ⟨by omega,by omega⟩) (bi rfl rfl (b_shr1U (by omega)) (cv rfl T.kd143 T.kd3 (wrap_I64 ⟨by omega,by omega⟩) (ag (nl (th (sq (rg (mv (mv (iF rfl rfl T.sl28 (by omega) (by first|exact gN (by omega)|exact gI (by omega) (by omega)) (lF rfl rfl T.one3 (mv (cal0 (φs:= [int (ix l ((i+j)/2)),int t]) (φ:=bl (decide ((ix l ((i+j)/2))<t))) ⟨rfl,rfl,trivial⟩ (search.Less_ok _ _) T.ent123 (nl (th ?_)))))))))))))))))))))))
  refine cd rfl (fun hc1=> ?_) (fun hc1=> ?_)
  ·try simp at hc1
   refine rg (mv (bi rfl rfl (b_add (by unfold I64;omega)) (ag (nl (eb ?_)))))
   have hN0:((i+j)/2+1)≤j∧j≤l.length∧(∀k,k<((i+j)/2+1)→ix l k<t)∧(∀k,j≤k→k<l.length→t≤ix l k):=by
    refine⟨by omega,by omega,fun k hk=> ?_,hhi⟩
    by_cases e:k=(i+j)/2
    ·subst e;exact hc1
    ·have:=rise_lt hr (i:=k) (j:=(i+j)/2) (by omega) (by omega)
     omega
   exact ln (⟨(i+j)/2+1,j⟩:Nat × Nat) hN0 (by first|omega|(dsimp only;omega)) ⟨id,id,id,id,id,id,id,trivial⟩ trivial
  ·try simp at hc1
   refine rg (mv (ag (nl (eb ?_))))
   have hN0:i≤((i+j)/2)∧((i+j)/2)≤l.length∧(∀k,k<i→ix l k<t)∧(∀k,((i+j)/2)≤k→k<l.length→t≤ix l k):=by
    refine⟨by omega,by omega,hlo,fun k hk hl=> ?_⟩
    by_cases e:k=(i+j)/2
    ·subst e;omega
    ·have:=rise_lt hr (i:=(i+j)/2) (j:=k) (by omega) hl
     omega
   exact ln (⟨i,(i+j)/2⟩:Nat × Nat) hN0 (by first|omega|(dsimp only;omega)) ⟨id,id,id,id,id,id,id,trivial⟩ trivial
 ·try simp at hc0
  refine ex (xt_ (xt_ (xb (th (sq (rg (mv (mv (mv (bi rfl rfl b_lss (mv ?_)))))))))))
  apply gAnd (t:=35) (pd:=53) rfl
  rotate_left
  ·intro hg0 fin
   have hg0':=hg0
   try simp at hg0'
   refine gy rfl rfl rfl hg0 (mv (gy rfl rfl rfl hg0 (mv (gy rfl rfl rfl hg0 (iF rfl rfl T.sl28 (by omega) (by first|exact gN (by omega)|exact gI (by omega) (by omega)) (gy rfl rfl rfl hg0 (lF rfl rfl T.one3 (gy rfl rfl rfl hg0 (mv (gy rfl rfl rfl hg0 (bi rfl rfl b_eql (gy rfl rfl rfl hg0 (mv ?_)))))))))))))
   apply gOr (t:=42) (pd:=52) rfl
   rotate_left
   ·intro hg1 fin
    have hg1':=hg1
    try simp at hg1'
    refine gy rfl rfl rfl hg1 (mv (gy rfl rfl rfl hg1 (mv (gy rfl rfl rfl hg1 (iF rfl rfl T.sl28 (by omega) (by first|exact gN (by omega)|exact gI (by omega) (by omega)) (gy rfl rfl rfl hg1 (lF rfl rfl T.one3 (gy rfl rfl rfl hg1 (cal0 (φs:= [int (ix l i)]) (φ:=bl false) ⟨rfl,trivial⟩ (search.sNaN_ok _) T.ent124 (gy rfl rfl rfl hg1 (mv ?_)))))))))))
    apply gAnd (t:=48) (pd:=51) rfl
    rotate_left
    ·intro hg2 fin
     exact gy rfl rfl rfl hg2 (mv (gy rfl rfl rfl hg2 (cal0 (φs:= [int t]) (φ:=bl false) ⟨rfl,trivial⟩ (search.sNaN_ok _) T.ent124 (gy rfl rfl rfl hg1 (pkT rfl hg2 rfl (drp (X:= [(50,_),(49,_)]) ⟨rfl,rfl,trivial⟩ (fin)))))))
    ·intro hg2 fin
     exact gn rfl rfl rfl hg2 rfl rfl (gn rfl rfl rfl hg2 rfl rfl (gy rfl rfl rfl hg1 (pkF rfl hg2 rfl (drp (X:= [(50,_),(49,_)]) ⟨rfl,rfl,trivial⟩ (fin)))))
    exact gy rfl rfl rfl hg0 (pkF rfl hg1 rfl (drp (X:= [(51,_),(48,_),(47,_),(46,_),(45,_),(44,_),(43,_)]) ⟨rfl,rfl,rfl,rfl,rfl,rfl,rfl,trivial⟩ (fin)))
   ·intro hg1 fin
    exact gn rfl rfl rfl hg1 rfl rfl (gn rfl rfl rfl hg1 rfl rfl (gn rfl rfl rfl hg1 rfl rfl (gn rfl rfl rfl hg1 rfl rfl (gn rfl rfl rfl hg1 rfl rfl (gn rfl rfl rfl hg1 rfl rfl (gu rfl rfl rfl rfl rfl (gu rfl rfl rfl rfl rfl (gn rfl rfl rfl hg1 rfl rfl (gy rfl rfl rfl hg0 (pkT rfl hg1 rfl (drp (X:= [(51,_),(50,_),(49,_),(48,_),(47,_),(46,_),(45,_),(44,_),(43,_)]) ⟨rfl,rfl,rfl,rfl,rfl,rfl,rfl,rfl,rfl,trivial⟩ (fin))))))))))))
   exact pkT rfl hg0 rfl (drp (X:= [(52,_),(42,_),(41,_),(40,_),(39,_),(38,_),(37,_),(36,_)]) ⟨rfl,rfl,rfl,rfl,rfl,rfl,rfl,rfl,trivial⟩ (fin))
  ·intro hg0 fin
   exact gn rfl rfl rfl hg0 rfl rfl (gn rfl rfl rfl hg0 rfl rfl (gn rfl rfl rfl hg0 rfl rfl (gn rfl rfl rfl hg0 rfl rfl (gn rfl rfl rfl hg0 rfl rfl (gn rfl rfl rfl hg0 rfl rfl (gn rfl rfl rfl hg0 rfl rfl (gu rfl rfl rfl rfl rfl (gu rfl rfl rfl rfl rfl (gu rfl rfl rfl rfl rfl (gu rfl rfl rfl rfl rfl (gu rfl rfl rfl rfl rfl (gu rfl rfl rfl rfl rfl (gu rfl rfl rfl rfl rfl (gu rfl rfl rfl rfl rfl (gu rfl rfl rfl rfl rfl (gn rfl rfl rfl hg0 rfl rfl (pkF rfl hg0 rfl (drp (X:= [(52,_),(51,_),(50,_),(49,_),(48,_),(47,_),(46,_),(45,_),(44,_),(43,_),(42,_),(41,_),(40,_),(39,_),(38,_),(37,_),(36,_)]) ⟨rfl,rfl,rfl,rfl,rfl,rfl,rfl,rfl,rfl,rfl,rfl,rfl,rfl,rfl,rfl,rfl,rfl,trivial⟩ (fin)))))))))))))))))))
  refine ag (ag (nl (th (rt ?_))))
  have hr0:((i:Int):Int)=(bsP l t:Int):=by
   have:i=j:=by omega
   subst this
   unfold bsP
   rw[tw_len (by omega) (fun k hk=>by simpa using hlo k hk) (fun hil=>by simpa using hhi i (Nat.le_refl _) hil)]
  have hr1:((decide ((i:Int)<(l.length:Int)))&&((decide ((ix l i)=t))||(false&&false)))=(decide (t∈l)):=by
   have:i=j:=by omega
   subst this
   rw[←found_iff hr hlo hhi]
   simp
  have hall:∀x0 x1,(i:Int)=x0→((decide ((i:Int)<(l.length:Int)))&&((decide ((ix l i)=t))||(false&&false)))=x1→resAV [int (i:Int),bl ((decide ((i:Int)<(l.length:Int)))&&((decide ((ix l i)=t))||(false&&false)))]=resAV [int x0,bl x1]:=by rintro _ _ rfl rfl;rfl
  exact rE () [.tmp 4,.tmp 5] rfl [int (i:Int),bl ((decide ((i:Int)<(l.length:Int)))&&((decide ((ix l i)=t))||(false&&false)))] ⟨.tmp rfl,.tmp rfl,trivial⟩ (hall _ _ hr0 hr1) trivial (by first|exact .inr rfl|exact .inl rfl)
theorem Accepts_ok (x:SState) (hr:rising x.accept=true) (t:Int):
 Fn0 Tryd.prog 79 [state x,int t] (bl (decide (t∈x.accept))):=by
 refine fnI Tryd.func79 rfl rfl (fun w0 F0=> ?_)
 refine fcC (inhS 0 rfl) (fun hS0=> ?_)
 obtain⟨hxa0,hxn0⟩:=state_lens hS0
 refine sq (rg (bx (key:=2) (cs:= [sl 1 intE x.accept,sl 1 intE x.next]) rfl fun b2=>(ag (nl (th (sq (rg (fP rfl T.fld69_0 (lP rfl rfl rfl T.one28 (mv (cal0 (φs:= [sl 1 intE x.accept,int t]) (φ:=tup [int (bsP x.accept t:Int),bl (decide (t∈x.accept))]) ⟨rfl,rfl,trivial⟩ (search.Search_ok _ (by assumption) _) T.ent108 (mv (xt rfl rfl (xt rfl rfl (ag (ag (nl (th (sq (rg (mv (ag (nl (th (rt ?_)))))))))))))))))))))))))
 exact rE () [.tmp 4] rfl [bl (decide (t∈x.accept))] ⟨.tmp rfl,trivial⟩ (rfl) trivial (by first|exact .inr rfl|exact .inl rfl)
end search
end Go.Proofs.YtolpjmllmlahfaaDoor
namespace Go.Proofs.YtolpjmllmlahfaaDoor
open AL ref01 ref03 ref04 ref06 Part Rungs LeftM TrimM Itoa Keys RoundM MergeM
set_option linter.all false
namespace BisM
abbrev acc (T:SSpec) (x:Nat):List Int:=(ix T.states x).accept
abbrev nxt (T:SSpec) (x:Nat):List Int:=(ix T.states x).next
def Leads (R:Nat→Nat→Prop) (k j:Int):Prop:=(k<0↔j<0)∧(0≤k→R k.toNat j.toNat)
structure Bis (T U:SSpec) (R:Nat→Nat→Prop):Prop where
 acc:∀{x y},R x y→acc T x=acc U y
 len:∀{x y},R x y→(nxt T x).length=(nxt U y).length
 nxt:∀{x y},R x y→∀a,a<(nxt T x).length→Leads R (ix (nxt T x) a) (ix (nxt U y) a)
def Sim2 (T U:SSpec) (x y:Nat):Prop:=∃R,Bis T U R∧R x y
theorem Sim2.symm {T U:SSpec} {x y:Nat} (h:Sim2 T U x y):Sim2 U T y x:=by
 obtain⟨R,hR,hxy⟩:=h
 refine⟨fun a b=>R b a,⟨fun h=>(hR.acc h).symm,fun h=>(hR.len h).symm,fun {a b} h i hi=> ?_⟩,hxy⟩
 obtain⟨h1,h2⟩:=hR.nxt h i (by rw[hR.len h];exact hi)
 exact⟨h1.symm,fun h0=>h2 (by omega)⟩
theorem Sim2.trans {T U V:SSpec} {x y z:Nat} (h:Sim2 T U x y) (h':Sim2 U V y z):Sim2 T V x z:=by
 obtain⟨R,hR,hxy⟩:=h
 obtain⟨S,hS,hyz⟩:=h'
 refine⟨fun a c=> ∃b,R a b∧S b c,⟨fun⟨b,h1,h2⟩=>(hR.acc h1).trans (hS.acc h2),fun⟨b,h1,h2⟩=>(hR.len h1).trans (hS.len h2),fun {a c} ⟨b,h1,h2⟩ i hi=> ?_⟩,y,hxy,hyz⟩
 obtain⟨g1,g2⟩:=hR.nxt h1 i hi
 obtain⟨g3,g4⟩:=hS.nxt h2 i (by rw[←hR.len h1];exact hi)
 exact⟨g1.trans g3,fun h0=>⟨_,g2 h0,g4 (by omega)⟩⟩
theorem sim_bis (T U:SSpec):Bis T U (Sim2 T U):=by
 refine⟨fun⟨R,hR,h⟩=>hR.acc h,fun⟨R,hR,h⟩=>hR.len h,fun {x y} ⟨R,hR,h⟩ a ha=> ?_⟩
 obtain⟨h1,h2⟩:=hR.nxt h a ha
 exact⟨h1,fun h0=>⟨R,hR,h2 h0⟩⟩
theorem classes_iff {s:SSpec} (hs:okSpec s) {x y:Nat} (hx:x<s.states.length) (hy:y<s.states.length):ix (classesR s) x=ix (classesR s) y↔alike (solid s) (classesR s) x y=true:=by
 have h1:=itR_late hs (R:=s.states.length+1) (Nat.le_refl _)
 have h2:=itR_late hs (R:=s.states.length+2) (by omega)
 have e:=(numOK (itR_eqOn hs (s.states.length+1)) s.states.length (Nat.le_refl _)).iff (itR_eqOn hs (s.states.length+1)) (Nat.le_refl _) hx hy
 rw[h1] at e
 rw[←e]
 show _↔ix (itR s (s.states.length+2)).1 x=_
 have h3:(numBy (alike (solid s) (classesR s)) s.states.length).1=classesR s:=by
  have h4:(numBy (alike (solid s) (itR s (s.states.length+1)).1) s.states.length).1=classesR s:=h2
  rw[h1] at h4
  exact h4
 rw[h3,h2]
theorem class_sim {s:SSpec} (hs:okSpec s) {x y:Nat} (hx:x<s.states.length) (hy:y<s.states.length):ix (classesR s) x=ix (classesR s) y↔Sim2 (solid s) (solid s) x y:=by
 constructor
 ·intro h
  refine⟨fun a b=>a<s.states.length∧b<s.states.length∧ix (classesR s) a=ix (classesR s) b,⟨fun {a b} ⟨ha,hb,h⟩=> ?_,fun {a b} ⟨ha,hb,h⟩=> ?_,fun {a b} ⟨ha,hb,h⟩ i hi=> ?_⟩,hx,hy,h⟩
  ·exact(alike_iff.1 ((classes_iff hs ha hb).1 h)).2.1
  ·show(ix (solid s).states a).next.length=(ix (solid s).states b).next.length
   rw[solid_next hs ha,solid_next hs hb]
  ·obtain⟨h1,h2⟩:=alikeNext_iff.1 (alike_iff.1 ((classes_iff hs ha hb).1 h)).2.2 i hi
   have b1:ix (nxt (solid s) a) i<_:=solid_bd hs ha hi
   have b2:ix (nxt (solid s) b) i<_:=solid_bd hs hb (a:=i) (by rw[solid_next hs hb,←solid_next hs ha];exact hi)
   exact⟨h1,fun h0=>⟨by omega,by omega,h2 h0⟩⟩
 ·rintro⟨R,hR,h⟩
  have key:∀r x y,x<s.states.length→y<s.states.length→R x y→ix (itR s r).1 x=ix (itR s r).1 y:=by
   intro r
   induction r with
   |zero=>
    intro x y hx hy _
    show ix (List.replicate s.states.length (0:Int)) x=ix (List.replicate s.states.length (0:Int)) y
    rw[ix_get (by simpa using hx),ix_get (by simpa using hy)];simp
   |succ r ih=>
    intro x y hx hy hxy
    refine((numOK (itR_eqOn hs r) s.states.length (Nat.le_refl _)).iff (itR_eqOn hs r) (Nat.le_refl _) hx hy).2 (alike_iff.2 ⟨ih x y hx hy hxy,hR.acc hxy,alikeNext_iff.2 (fun i hi=> ?_)⟩)
    obtain⟨h1,h2⟩:=hR.nxt hxy i hi
    have b1:=solid_bd hs hx hi
    have b2:=solid_bd hs hy (a:=i) (by rw[solid_next hs hy,←solid_next hs hx];exact hi)
    exact⟨h1,fun h0=>ih _ _ (by omega) (by omega) (h2 h0)⟩
  exact key _ x y hx hy h
theorem solid_tS {s:SSpec} (hs:okSpec s) (h0:ix (hollow s) 0=false):solid (tS s)=tS s:=by
 unfold solid
 congr 1
 apply List.ext_getElem
 ·simp
 ·intro i h1 h2
  simp only [List.length_map,List.length_range] at h1
  rw[List.getElem_map,List.getElem_range]
  have hi:i<(ordS s).length:=by simpa using h1
  have hk:=tS_keep hs h0 hi
  have e:(List.map (tstate s) (ordS s))[i]=ix (tS s).states i:=(ix_get (by rw[tS_len];exact hi)).symm
  rw[e]
  unfold solidState
  rw[hk,tS_at hi]
  unfold tstate
  congr 1
  unfold cut tnext
  have hl:(List.map (fun(a:Nat)=>if has (orAll (keep s (ix (ordS s) i).toNat)) (a:Int)=true then posN (ordS s) (ix (ix s.states (ix (ordS s) i).toNat).next a) else-1) (List.range s.actions.length)).length=s.actions.length:=by simp
  show List.map _ (List.range (List.map _ (List.range _)).length)=_
  rw[List.length_map,List.length_range]
  refine List.map_congr_left (fun a ha=> ?_)
  have ha:=List.mem_range.1 ha
  rw[ix_map_range ha]
  split
  ·rfl
  ·rfl
theorem tS_sim {s:SSpec} (hs:okSpec s) (h0:ix (hollow s) 0=false) {i:Nat} (hi:i<(ordS s).length):Sim2 (tS s) (solid s) i (ix (ordS s) i).toNat:=by
 refine⟨fun a b=>a<(ordS s).length∧b=(ix (ordS s) a).toNat,⟨fun {a b} ⟨ha,hb⟩=> ?_,fun {a b} ⟨ha,hb⟩=> ?_,fun {a b} ⟨ha,hb⟩ k hk=> ?_⟩,hi,rfl⟩
 ·subst hb
  have hbd:=ord_bd hs ha
  show(ix (tS s).states a).accept=(ix (solid s).states _).accept
  rw[tS_at ha,solid_at (by omega)]
  rfl
 ·subst hb
  have hbd:=ord_bd hs ha
  show(ix (tS s).states a).next.length=(ix (solid s).states _).next.length
  rw[tS_at ha,solid_next hs (by omega)]
  simp[tstate,tnext]
 ·subst hb
  have hbd:=ord_bd hs ha
  have hx:(ix (ordS s) a).toNat<s.states.length:=by omega
  have hk':k<s.actions.length:=by
   have:(nxt (tS s) a).length=s.actions.length:=by show(ix (tS s).states a).next.length=_;rw[tS_at ha];simp[tstate,tnext]
   omega
  have e1:ix (nxt (tS s) a) k=ix (tnext s (ix (ordS s) a)) k:=by show ix (ix (tS s).states a).next k=_;rw[tS_at ha];rfl
  have e2:ix (nxt (solid s) (ix (ordS s) a).toNat) k=ix (cut (ix s.states (ix (ordS s) a).toNat) (orAll (keep s (ix (ordS s) a).toNat))) k:=by show ix (ix (solid s).states _).next k=_;rw[solid_at hx];rfl
  rw[e1,e2,tnext_ix hk',cut_ix (by rw[(hs.st _ hx).len];exact hk')]
  by_cases hh:has (orAll (keep s (ix (ordS s) a).toNat)) (k:Int)=true
  ·rw[if_pos hh,if_pos hh]
   have hg:=can_go hs hx hh
   obtain⟨p1,p2⟩:=posN_at (ord_closed hs ha hh)
   have p0:=(posN_bd (ordS s) (ix (ix s.states (ix (ordS s) a).toNat).next k)).1
   refine⟨⟨fun h=>by omega,fun h=>by omega⟩,fun _=>⟨by omega,by rw[p2]⟩⟩
  ·rw[if_neg hh,if_neg hh]
   exact⟨Iff.rfl,fun h=>by omega⟩
end BisM
end Go.Proofs.YtolpjmllmlahfaaDoor
namespace Go.Proofs.YtolpjmllmlahfaaDoor
open AL ref01 ref03 ref04 ref06 Part Rungs LeftM TrimM Itoa Keys RoundM MergeM BisM
set_option linter.all false
namespace BisM2
noncomputable abbrev clT (s:SSpec):List Int:=classesR (tS s)
noncomputable abbrev cnt (s:SSpec) (k:Nat):Nat:=(numBy (alike (solid (tS s)) (itR (tS s) (tS s).states.length).1) k).2.length
noncomputable abbrev qS (s:SSpec):SSpec:=⟨s.actions,mout (clT s) (tS s).states (ordS s).length⟩
theorem least_not {s:SSpec} (hs:okSpec s) (h0:ix (hollow s) 0=false):(leastR s).1=qS s:=by rw[←merged_eq hs,merged_not h0]
theorem least_hol {s:SSpec} (hs:okSpec s) (h0:ix (hollow s) 0=true):(leastR s).1=nothing s.actions:=by rw[←merged_eq hs,merged_hol h0]
theorem cl_step {s:SSpec} (hs:okSpec s) {k:Nat} (hk:k<(ordS s).length):
 (ix (clT s) k=(cnt s k:Int)∧cnt s (k+1)=cnt s k+1∧∀i,i<k→ix (clT s) i≠ix (clT s) k)∨
 (ix (clT s) k<(cnt s k:Int)∧cnt s (k+1)=cnt s k∧∃i,i<k∧ix (clT s) i=ix (clT s) k):=
 num_step (itR_eqOn (tS_ok hs) (tS s).states.length) (k:=k) (by rw[tS_len];exact hk)
theorem cl_nn {s:SSpec} (hs:okSpec s) (i:Nat):0≤ix (clT s) i:=(cl_bd (tS_ok hs) _ i).1
theorem tS_next {s:SSpec} {i:Nat} (hi:i<(ordS s).length):(ix (tS s).states i).next.length=s.actions.length:=by
 rw[tS_at hi];simp[tstate,tnext]
theorem tS_nb {s:SSpec} (hs:okSpec s) {i:Nat} (hi:i<(ordS s).length) {a:Nat} (ha:a<s.actions.length): -1≤ix (ix (tS s).states i).next a∧ix (ix (tS s).states i).next a<((ordS s).length:Int):=by
 have:=((tS_ok hs).st i (by rw[tS_len];exact hi)).nx a ha
 rw[tS_len] at this;exact this
theorem mst_gen {T:SSpec} {cl:List Int} {n i j:Nat} (hli:(ix T.states i).next.length=n) (hlj:(ix T.states j).next.length=n) (hbi:∀a,a<n→ -1≤ix (ix T.states i).next a) (hbj:∀a,a<n→ -1≤ix (ix T.states j).next a) (h:alike T cl i j=true):mst cl (ix T.states i)=mst cl (ix T.states j):=by
 obtain⟨_,h1,h2⟩:=alike_iff.1 h
 unfold mst
 congr 1
 apply List.ext_getElem
 ·simp only [List.length_map];rw[hli,hlj]
 ·intro a g1 g2
  simp only [List.length_map] at g1 g2
  rw[List.getElem_map,List.getElem_map,←ix_get g1,←ix_get g2]
  obtain⟨e1,e2⟩:=alikeNext_iff.1 h2 a g1
  have b1:=hbi a (by omega)
  have b2:=hbj a (by omega)
  unfold mapK
  by_cases hn:0≤ix (ix T.states i).next a
  ·rw[if_pos hn,if_pos (by omega)];exact e2 hn
  ·rw[if_neg hn,if_neg (by omega)];omega
theorem mst_same {s:SSpec} (hs:okSpec s) (h0:ix (hollow s) 0=false) {i j:Nat} (hi:i<(ordS s).length) (hj:j<(ordS s).length) (h:ix (clT s) i=ix (clT s) j):mst (clT s) (ix (tS s).states i)=mst (clT s) (ix (tS s).states j):=by
 have ha:=(classes_iff (tS_ok hs) (by rw[tS_len];exact hi) (by rw[tS_len];exact hj)).1 h
 rw[solid_tS hs h0] at ha
 exact mst_gen (tS_next hi) (tS_next hj) (fun a h=>(tS_nb hs hi h).1) (fun a h=>(tS_nb hs hj h).1) ha
theorem ixS_left {α:Type} [Inhabited α] {l m:List α} {j:Nat} (h:j<l.length):ix (l++m) j=ix l j:=by
 rw[ix_get (by simp;omega),ix_get h,List.getElem_append_left h]
theorem ixS_last {α:Type} [Inhabited α] {l:List α} {x:α}:ix (l++ [x]) l.length=x:=by
 rw[ix_get (by simp)];simp
theorem mout_at {s:SSpec} (hs:okSpec s) (h0:ix (hollow s) 0=false):∀k,k≤(ordS s).length→
 (mout (clT s) (tS s).states k).length=cnt s k∧(∀i,i<k→ix (clT s) i<(cnt s k:Int)∧ix (mout (clT s) (tS s).states k) (ix (clT s) i).toNat=mst (clT s) (ix (tS s).states i))∧(∀j,j<cnt s k→∃i,i<k∧ix (clT s) i=(j:Int))
 |0,_=>⟨rfl,fun i hi=>by omega,fun j hj=>by simp[cnt,numBy] at hj⟩
 |k+1,hk=>by
  obtain⟨a1,a2,a3⟩:=mout_at hs h0 k (by omega)
  have hkl:k<(ordS s).length:=by omega
  have hmo:mout (clT s) (tS s).states (k+1)=if ix (clT s) k=((mout (clT s) (tS s).states k).length:Int) then mout (clT s) (tS s).states k++ [mst (clT s) (ix (tS s).states k)] else mout (clT s) (tS s).states k:=rfl
  rw[hmo]
  rcases cl_step hs hkl with⟨b1,b2,b3⟩|⟨b1,b2,i0,hi0,b3⟩
  ·rw[if_pos (by rw[a1];exact b1)]
   refine⟨by rw[List.length_append,a1,b2];rfl,fun i hi=> ?_,fun j hj=> ?_⟩
   ·by_cases e:i=k
    ·subst e
     refine⟨by omega,?_⟩
     rw[b1,Int.toNat_natCast,←a1]
     exact ixS_last
    ·obtain⟨c1,c2⟩:=a2 i (by omega)
     have hn:=cl_nn hs i
     refine⟨by omega,?_⟩
     rw[←c2]
     exact ixS_left (by omega)
   ·by_cases e:j=cnt s k
    ·exact⟨k,by omega,by rw[b1,e]⟩
    ·obtain⟨i,hi,h⟩:=a3 j (by omega)
     exact⟨i,by omega,h⟩
  ·rw[if_neg (by rw[a1];omega),b2]
   refine⟨a1,fun i hi=> ?_,fun j hj=> ?_⟩
   ·by_cases e:i=k
    ·subst e
     refine⟨b1,?_⟩
     rw[←b3,(a2 i0 hi0).2]
     exact mst_same hs h0 (by omega) hkl b3
    ·exact a2 i (by omega)
   ·obtain⟨i,hi,h⟩:=a3 j hj
    exact⟨i,by omega,h⟩
theorem q_len {s:SSpec} (hs:okSpec s) (h0:ix (hollow s) 0=false):(qS s).states.length=cnt s (ordS s).length:=(mout_at hs h0 _ (Nat.le_refl _)).1
theorem q_at {s:SSpec} (hs:okSpec s) (h0:ix (hollow s) 0=false) {i:Nat} (hi:i<(ordS s).length):(ix (clT s) i).toNat<(qS s).states.length∧ix (qS s).states (ix (clT s) i).toNat=mst (clT s) (ix (tS s).states i):=by
 obtain⟨a1,a2,a3⟩:=mout_at hs h0 _ (Nat.le_refl _)
 have:=cl_nn hs i
 have h:=a2 i hi
 exact⟨by rw[q_len hs h0];omega,h.2⟩
theorem q_rep {s:SSpec} (hs:okSpec s) (h0:ix (hollow s) 0=false) {k:Nat} (hk:k<(qS s).states.length):∃i,i<(ordS s).length∧ix (clT s) i=(k:Int):=by
 rw[q_len hs h0] at hk
 exact(mout_at hs h0 _ (Nat.le_refl _)).2.2 k hk
theorem q_sim {s:SSpec} (hs:okSpec s) (h0:ix (hollow s) 0=false) {i:Nat} (hi:i<(ordS s).length):Sim2 (tS s) (qS s) i (ix (clT s) i).toNat:=by
 refine⟨fun a b=>a<(ordS s).length∧b=(ix (clT s) a).toNat,⟨fun {a b} ⟨ha,hb⟩=> ?_,fun {a b} ⟨ha,hb⟩=> ?_,fun {a b} ⟨ha,hb⟩ k hk=> ?_⟩,hi,rfl⟩
 ·subst hb
  show _=(ix (qS s).states _).accept
  rw[(q_at hs h0 ha).2];rfl
 ·subst hb
  show(ix (tS s).states a).next.length=(ix (qS s).states _).next.length
  rw[(q_at hs h0 ha).2];simp[mst]
 ·subst hb
  have hk':k<(ix (tS s).states a).next.length:=hk
  have hka:k<s.actions.length:=by rw[tS_next ha] at hk';exact hk'
  have e:ix (ix (qS s).states (ix (clT s) a).toNat).next k=mapK (clT s) (ix (ix (tS s).states a).next k):=by
   rw[(q_at hs h0 ha).2]
   show ix ((ix (tS s).states a).next.map (mapK (clT s))) k=_
   rw[ix_get (by simpa using hk'),ix_get hk',List.getElem_map]
  have b:=tS_nb hs ha hka
  show Leads _ (ix (ix (tS s).states a).next k) (ix (ix (qS s).states (ix (clT s) a).toNat).next k)
  rw[e]
  unfold mapK
  by_cases hn:0≤ix (ix (tS s).states a).next k
  ·rw[if_pos hn]
   have:=cl_nn hs (ix (ix (tS s).states a).next k).toNat
   exact⟨⟨fun h=>by omega,fun h=>by omega⟩,fun _=>⟨by omega,rfl⟩⟩
  ·rw[if_neg hn]
   exact⟨Iff.rfl,fun h=>absurd h hn⟩
theorem cl_zero {s:SSpec} (hs:okSpec s):ix (clT s) 0=0:=by
 have hop:=ordS_pos s
 rcases cl_step hs (k:=0) (by omega) with⟨b1,_⟩|⟨_,_,i,hi,_⟩
 ·rw[b1];rfl
 ·omega
theorem ord_zero (s:SSpec):ix (ordS s) 0=0:=by
 have h:=bq_prefix (solid s) 0 (solid s).states.length
 rw[Nat.zero_add] at h
 exact ix_prefix h (j:=0) (by show 0< [(0:Int)].length;simp)
theorem q_reduced {s:SSpec} (hs:okSpec s) (h0:ix (hollow s) 0=false) {k l:Nat} (hk:k<(qS s).states.length) (hl:l<(qS s).states.length) (h:Sim2 (qS s) (qS s) k l):k=l:=by
 obtain⟨i,hi,ei⟩:=q_rep hs h0 hk
 obtain⟨j,hj,ej⟩:=q_rep hs h0 hl
 have h1:=q_sim hs h0 hi
 have h2:=q_sim hs h0 hj
 rw[ei,Int.toNat_natCast] at h1
 rw[ej,Int.toNat_natCast] at h2
 have h3:=(h1.trans h).trans h2.symm
 have h4:=(class_sim (tS_ok hs) (x:=i) (y:=j) (by rw[tS_len];exact hi) (by rw[tS_len];exact hj)).2 (by rw[solid_tS hs h0];exact h3)
 have h5:ix (clT s) i=ix (clT s) j:=h4
 omega
theorem q_root {s:SSpec} (hs:okSpec s) (h0:ix (hollow s) 0=false):Sim2 (solid s) (qS s) 0 0:=by
 have hop:=ordS_pos s
 have h1:=tS_sim hs h0 (i:=0) (by omega)
 have h2:=q_sim hs h0 (i:=0) (by omega)
 rw[ord_zero] at h1
 rw[cl_zero hs] at h2
 exact h1.symm.trans h2
end BisM2
end Go.Proofs.YtolpjmllmlahfaaDoor
namespace Go.Proofs.YtolpjmllmlahfaaDoor
open AL ref01 ref03 ref04 ref06 Part Rungs LeftM TrimM Itoa Keys RoundM MergeM BisM BisM2
set_option linter.all false
namespace BisM3
def rg (c:Nat):List Int:=(List.range c).map fun(k:Nat)=>(k:Int)
theorem rg_len (c:Nat):(rg c).length=c:=by simp[rg]
theorem rg_ix {c k:Nat} (h:k<c):ix (rg c) k=(k:Int):=ix_map_range h
theorem rg_succ (c:Nat):rg (c+1)=rg c++ [(c:Int)]:=by unfold rg;rw[List.range_succ,List.map_append];rfl
theorem mem_rg {c:Nat} {y:Int}:y∈rg c↔0≤y∧y<(c:Int):=by
 unfold rg
 rw[List.mem_map]
 constructor
 ·rintro⟨k,hk,rfl⟩
  have:=List.mem_range.1 hk
  omega
 ·rintro⟨h0,h1⟩
  exact⟨y.toNat,List.mem_range.2 (by omega),by omega⟩
theorem visit1_in {l:List Int} {k:Int} (h:k<0∨k∈l):visit1 l k=l:=by
 unfold visit1
 rw[if_neg]
 simp only [Bool.and_eq_true,decide_eq_true_eq,Bool.not_eq_true',not_and,Bool.not_eq_false]
 intro h0
 rcases h with h|h
 ·omega
 ·exact List.contains_iff_mem.2 h
theorem visit1_out {l:List Int} {k:Int} (h0:0≤k) (h:k∉l):visit1 l k=l++ [k]:=by
 unfold visit1
 rw[if_pos]
 simp only [Bool.and_eq_true,decide_eq_true_eq,Bool.not_eq_true']
 refine⟨h0,?_⟩
 cases hc:l.contains k with
 |false=>rfl
 |true=>exact absurd (List.contains_iff_mem.1 hc) h
theorem visit_cons (l ks:List Int) (k:Int):visit l (k::ks)=visit (visit1 l k) ks:=rfl
theorem visit_app (l ks:List Int) (k:Int):visit l (ks++ [k])=visit1 (visit l ks) k:=by rw[visit_foldl,List.foldl_append];rfl
theorem visit_all:∀{ks l:List Int},(∀k∈ks,k<0∨k∈l)→visit l ks=l
 | [],_,_=>rfl
 |k::ks,l,h=>by
  rw[visit_cons,visit1_in (h k (by simp))]
  exact visit_all (fun y hy=>h y (List.mem_cons_of_mem _ hy))
theorem visit_merge {g:Int→Int} (hg:∀k,0≤g k):∀(ks l:List Int),visit [] ((visit l ks).map g)=visit (visit [] (l.map g)) (ks.map fun k=>if 0≤k then g k else k)
 | [],_=>rfl
 |k::ks,l=>by
  rw[visit_cons,visit_merge hg ks,List.map_cons,visit_cons]
  congr 1
  by_cases hk:k<0∨k∈l
  ·rw[visit1_in hk]
   by_cases h0:k<0
   ·rw[if_neg (by omega),visit1_in (.inl h0)]
   ·rw[if_pos (by omega),visit1_in (.inr (visit_has (hg k) _ _ (List.mem_map.2 ⟨k,hk.resolve_left h0,rfl⟩)))]
  ·have h0:0≤k:=by have:=fun h=>hk (.inl h);omega
   rw[visit1_out h0 (fun h=>hk (.inr h)),if_pos h0,List.map_append,List.map_cons,List.map_nil,visit_app]
theorem cnt_mono {s:SSpec} (hs:okSpec s) {i j:Nat} (h:i≤j) (hj:j≤(ordS s).length):cnt s i≤cnt s j:=by
 induction j with
 |zero=>have:i=0:=by omega
        subst this;exact Nat.le_refl _
 |succ j ih=>
  by_cases e:i=j+1
  ·subst e;exact Nat.le_refl _
  ·have h1:=ih (by omega) (by omega)
   rcases cl_step hs (k:=j) (by omega) with⟨_,h2,_⟩|⟨_,h2,_⟩<;>omega
theorem cl_len (s:SSpec):(clT s).length=(ordS s).length:=by rw[classes_len,tS_len]
theorem cl_visit {s:SSpec} (hs:okSpec s):∀m,m≤(ordS s).length→visit [] ((clT s).take m)=rg (cnt s m)
 |0,_=>rfl
 |m+1,h=>by
  rw[take_s (by rw[cl_len];omega),visit_app,cl_visit hs m (by omega)]
  rcases cl_step hs (k:=m) (by omega) with⟨b1,b2,_⟩|⟨b1,b2,_⟩
  ·rw[visit1_out (cl_nn hs m) (fun hm=>by have:=(mem_rg.1 hm).2;omega),b2,rg_succ,b1]
  ·rw[visit1_in (.inr (mem_rg.2 ⟨cl_nn hs m,b1⟩)),b2]
theorem prefix_take {α:Type} {l m:List α} (h:l<+:m):l=m.take l.length:=by
 obtain⟨t,rfl⟩:=h
 simp
noncomputable abbrev qn (s:SSpec) (i:Nat):Nat:=(bq (solid s) i).length
theorem bq_take {s:SSpec} (hs:okSpec s) {i:Nat} (hi:i≤s.states.length):bq (solid s) i=(ordS s).take (qn s i):=prefix_take (bq_order hs hi)
theorem qn_le {s:SSpec} (hs:okSpec s) {i:Nat} (hi:i≤s.states.length):qn s i≤(ordS s).length:=(bq_order hs hi).length_le
theorem qn_gt {s:SSpec} (hs:okSpec s) {i:Nat} (hi:i<(ordS s).length):i<qn s i:=by
 have hol:=ord_le hs
 rcases Nat.lt_or_ge i (qn s i) with h|h
 ·exact h
 ·have he:=bq_end hs h (by omega)
  have:(ordS s).length≤i:=by show(order (solid s)).length≤i;rw[←he];exact h
  omega
theorem qn_mono {s:SSpec} {i j:Nat} (h:i≤j):qn s i≤qn s j:=by
 have:=bq_prefix (solid s) i (j- i)
 rw[show i+(j- i)=j by omega] at this
 exact this.length_le
noncomputable def gS (s:SSpec) (y:Int):Int:=ix (clT s) (posN (ordS s) y).toNat
theorem map_gS {s:SSpec} (hs:okSpec s) {m:Nat} (hm:m≤(ordS s).length):((ordS s).take m).map (gS s)=(clT s).take m:=by
 apply List.ext_getElem
 ·simp[cl_len]
 ·intro i h1 h2
  simp only [List.length_map,List.length_take] at h1
  rw[List.getElem_map,List.getElem_take,List.getElem_take]
  have hi:i<(ordS s).length:=by omega
  have:=posN_ix (order_nodup (solid s)) hi
  rw[ix_get hi] at this
  unfold gS
  rw[show posN (ordS s) (ordS s)[i]=(i:Int) from this,Int.toNat_natCast,ix_get (by rw[cl_len];exact hi)]
theorem gS_next {s:SSpec} (hs:okSpec s) (h0:ix (hollow s) 0=false) {i:Nat} (hi:i<(ordS s).length):((ix (solid s).states (ix (ordS s) i).toNat).next.map fun k=>if 0≤k then gS s k else k)=(ix (qS s).states (ix (clT s) i).toNat).next:=by
 rw[(q_at hs h0 hi).2]
 have hbd:=ord_bd hs hi
 have hx:(ix (ordS s) i).toNat<s.states.length:=by omega
 have hl:=(hs.st _ hx).len
 show _=(ix (tS s).states i).next.map (mapK (clT s))
 rw[tS_at hi,solid_at hx]
 show(cut (ix s.states _) (orAll (keep s _))).map _=(tnext s _).map _
 unfold cut tnext
 rw[List.map_map,List.map_map,hl]
 refine List.map_congr_left (fun a ha=> ?_)
 have ha:=List.mem_range.1 ha
 show(if 0≤(if _ then _ else _:Int) then gS s (if _ then _ else _) else(if _ then _ else _))=mapK _ (if _ then _ else _)
 by_cases hh:has (orAll (keep s (ix (ordS s) i).toNat)) (a:Int)=true
 ·rw[if_pos hh,if_pos hh]
  have hg:=can_go hs hx hh
  have p0:=(posN_bd (ordS s) (ix (ix s.states (ix (ordS s) i).toNat).next a)).1
  rw[if_pos hg.2.1]
  unfold mapK gS
  rw[if_pos p0]
 ·rw[if_neg hh,if_neg hh];rfl
theorem rg_step {s:SSpec} (hs:okSpec s) (h0:ix (hollow s) 0=false) {i:Nat} (hi:i<(ordS s).length):rg (cnt s (qn s (i+1)))=visit (rg (cnt s (qn s i))) (ix (qS s).states (ix (clT s) i).toNat).next:=by
 have hol:=ord_le hs
 have hgt:=qn_gt hs hi
 have hix:ix (bq (solid s) i) i=ix (ordS s) i:=(ix_prefix (bq_order hs (i:=i) (by omega)) hgt).symm
 have hstep:bq (solid s) (i+1)=visit (bq (solid s) i) (ix (solid s).states (ix (ordS s) i).toNat).next:=by
  show(if i<(bq (solid s) i).length then _ else _)=_
  rw[if_pos hgt,hix]
 rw[←cl_visit hs _ (qn_le hs (by omega)),←cl_visit hs _ (qn_le hs (i:=i) (by omega)),←map_gS hs (qn_le hs (by omega)),←map_gS hs (qn_le hs (i:=i) (by omega)),←bq_take hs (by omega),←bq_take hs (i:=i) (by omega),hstep,
  visit_merge (g:=gS s) (fun k=>cl_nn hs _),gS_next hs h0 hi]
theorem q_bq {s:SSpec} (hs:okSpec s) (h0:ix (hollow s) 0=false):∀i,i≤(ordS s).length→bq (qS s) (cnt s i)=rg (cnt s (qn s i))
 |0,_=>by
  have hop:=ordS_pos s
  have h1:cnt s 1=1:=by
   rcases cl_step hs (k:=0) (by omega) with⟨_,b2,_⟩|⟨_,_,i,hi,_⟩
   ·rw[b2];rfl
   ·omega
  show [(0:Int)]=rg (cnt s 1)
  rw[h1];rfl
 |i+1,hi1=>by
  have ih:=q_bq hs h0 i (by omega)
  have hi:i<(ordS s).length:=by omega
  have hol:=ord_le hs
  have hst:=rg_step hs h0 hi
  rcases cl_step hs hi with⟨b1,b2,_⟩|⟨b1,b2,j,hj,b3⟩
  ·rw[b2]
   have hlt:cnt s i<cnt s (qn s i):=by
    have:=cnt_mono hs (i:=i+1) (j:=qn s i) (qn_gt hs hi) (qn_le hs (by omega))
    omega
   show(if cnt s i<(bq (qS s) (cnt s i)).length then _ else _)=_
   rw[ih,rg_len,if_pos hlt,rg_ix hlt,hst,b1]
  ·rw[b2,ih,hst]
   symm
   refine visit_all (fun k hk=> ?_)
   by_cases hk0:k<0
   ·exact .inl hk0
   ·right
    have hst2:=rg_step hs h0 (i:=j) (by omega)
    rw[b3] at hst2
    have hmem:k∈rg (cnt s (qn s (j+1))):=by rw[hst2];exact visit_has (by omega) _ _ hk
    have h1:=mem_rg.1 hmem
    have h2:=cnt_mono hs (qn_mono (s:=s) (i:=j+1) (j:=i) (by omega)) (qn_le hs (by omega))
    exact mem_rg.2 ⟨h1.1,by omega⟩
theorem q_order {s:SSpec} (hs:okSpec s) (h0:ix (hollow s) 0=false):order (qS s)=rg (qS s).states.length:=by
 have hol:=ord_le hs
 have h:=q_bq hs h0 _ (Nat.le_refl _)
 have hq:qn s (ordS s).length=(ordS s).length:=by
  have h1:=qn_le hs hol
  have he:=bq_end hs (i:=(ordS s).length) h1 hol
  show(bq (solid s) (ordS s).length).length=_
  rw[he]
 rw[hq,←q_len hs h0] at h
 exact h
structure Num (A:SSpec):Prop where
 ord:order A=rg A.states.length
 pos:0<A.states.length
 nx:∀x,x<A.states.length→∀a,a<(nxt A x).length→ -1≤ix (nxt A x) a∧ix (nxt A x) a<(A.states.length:Int)
 red:∀{x y},x<A.states.length→y<A.states.length→Sim2 A A x y→x=y
theorem last_rg {c:Nat} {l:List Int} {k:Int} (h:l++ [k]<+:rg c):k=(l.length:Int)∧l.length<c:=by
 have h1:=h.length_le
 simp[rg_len] at h1
 have h2:=ix_prefix h (j:=l.length) (by simp)
 rw[rg_ix (by omega)] at h2
 rw[ix_snoc,if_neg (by omega),if_pos rfl] at h2
 exact⟨h2.symm,by omega⟩
theorem mem_prefix_rg {c:Nat} {l:List Int} (h:l<+:rg c) {k:Int} (hk:k∈l):0≤k∧k<(c:Int):=mem_rg.1 (h.subset hk)
theorem lock {A B:SSpec} (hA:Num A) (hB:Num B):∀(ks ks' l:List Int),ks.length=ks'.length→(∀a,a<ks.length→Leads (Sim2 A B) (ix ks a) (ix ks' a))→(∀a,a<ks.length→ix ks a<(A.states.length:Int))→(∀a,a<ks'.length→ix ks' a<(B.states.length:Int))→
 (∀k∈l,Sim2 A B k.toNat k.toNat)→visit l ks<+:rg A.states.length→visit l ks'<+:rg B.states.length→visit l ks=visit l ks'∧∀k∈visit l ks,Sim2 A B k.toNat k.toNat
 | [],[],l,_,_,_,_,hl,_,_=>⟨rfl,hl⟩
 | [],_::_,_,h,_,_,_,_,_,_=>by simp at h
 |_::_,[],_,h,_,_,_,_,_,_=>by simp at h
 |k::ks,k'::ks',l,hlen,hL,hbA,hbB,hl,pA,pB=>by
  rw[visit_cons] at pA pB ⊢
  rw[visit_cons]
  have qA:=(visit_prefix ks (visit1 l k)).trans pA
  have qB:=(visit_prefix ks' (visit1 l k')).trans pB
  obtain⟨e1,e2⟩:(k<0↔k'<0)∧(0≤k→Sim2 A B k.toNat k'.toNat):=hL 0 (by simp)
  have bA:k<(A.states.length:Int):=hbA 0 (by simp)
  have bB:k'<(B.states.length:Int):=hbB 0 (by simp)
  have tl:∀l',visit1 l k=l'→visit1 l k'=l'→(∀y∈l',Sim2 A B y.toNat y.toNat)→visit (visit1 l k) ks=visit (visit1 l k') ks'∧∀y∈visit (visit1 l k) ks,Sim2 A B y.toNat y.toNat:=fun l' h1 h2 h3=>by
   rw[h1] at pA ⊢
   rw[h2] at pB ⊢
   exact lock hA hB ks ks' l' (by simpa using hlen) (fun a ha=>hL (a+1) (by simpa using ha)) (fun a ha=>hbA (a+1) (by simpa using ha)) (fun a ha=>hbB (a+1) (by simpa using ha)) h3 pA pB
  by_cases h0:k<0
  ·exact tl l (visit1_in (.inl h0)) (visit1_in (.inl (e1.1 h0))) hl
  ·have h0':¬k'<0:=fun h=>h0 (e1.2 h)
   have hs:=e2 (by omega)
   by_cases hin:k∈l
   ·have h1:=hl k hin
    have hkB:=mem_prefix_rg ((visit_prefix [k'] l).trans qB) hin
    have:k.toNat=k'.toNat:=hB.red (by omega) (by omega) (h1.symm.trans hs)
    have e:k'=k:=by omega
    exact tl l (visit1_in (.inr hin)) (visit1_in (.inr (by rw[e];exact hin))) hl
   ·have hin':k'∉l:=fun hin'=>by
     have h1:=hl k' hin'
     have hkA:=mem_prefix_rg ((visit_prefix [k] l).trans qA) hin'
     have:k.toNat=k'.toNat:=hA.red (by omega) (by omega) (hs.trans h1.symm)
     have e:k=k':=by omega
     exact hin (by rw[e];exact hin')
    have v1:=visit1_out (l:=l) (k:=k) (by omega) hin
    have v2:=visit1_out (l:=l) (k:=k') (by omega) hin'
    rw[v1] at qA
    rw[v2] at qB
    have g1:=(last_rg qA).1
    have g2:=(last_rg qB).1
    have e:k=k':=by omega
    refine tl (l++ [k]) v1 (by rw[v2,e]) (fun y hy=> ?_)
    rcases List.mem_append.1 hy with hy|hy
    ·exact hl y hy
    ·have:y=k:=by simpa using hy
     subst this
     rw[←e] at hs;exact hs
theorem bq_pre {A:SSpec} {i:Nat} (h:i≤A.states.length):bq A i<+:order A:=by
 have:=bq_prefix A i (A.states.length- i)
 rw[show i+(A.states.length- i)=A.states.length by omega] at this
 exact this
theorem bq_late {A:SSpec} (hA:Num A) {i:Nat} (h:A.states.length≤i):bq A i=rg A.states.length:=by
 have hl:(bq A A.states.length).length≤A.states.length:=by
  have:=congrArg List.length hA.ord
  rw[rg_len] at this
  exact Nat.le_of_eq this
 have:=bq_stable hl (i- A.states.length)
 rw[show A.states.length+(i- A.states.length)=i by omega] at this
 rw[this];exact hA.ord
theorem lock_bq {A B:SSpec} (hA:Num A) (hB:Num B) (h:Sim2 A B 0 0):∀i,bq A i=bq B i∧∀k∈bq A i,Sim2 A B k.toNat k.toNat
 |0=>⟨rfl,fun k hk=>by
  have:k=0:=by simpa [bq] using hk
  subst this;exact h⟩
 |i+1=>by
  obtain⟨ih1,ih2⟩:=lock_bq hA hB h i
  have sA:bq A (i+1)=if i<(bq A i).length then visit (bq A i) (ix A.states (ix (bq A i) i).toNat).next else bq A i:=rfl
  have sB:bq B (i+1)=if i<(bq B i).length then visit (bq B i) (ix B.states (ix (bq B i) i).toNat).next else bq B i:=rfl
  by_cases hi:i<(bq A i).length
  ·have hiA:i<A.states.length:=by
    rcases Nat.lt_or_ge i A.states.length with h|h
    ·exact h
    ·rw[bq_late hA h,rg_len] at hi;omega
   have hiB:i<B.states.length:=by
    rcases Nat.lt_or_ge i B.states.length with h|h
    ·exact h
    ·rw[ih1,bq_late hB h,rg_len] at hi;omega
   have pA:=bq_pre (A:=A) (i:=i+1) (by omega)
   have pB:=bq_pre (A:=B) (i:=i+1) (by omega)
   rw[hA.ord] at pA
   rw[hB.ord] at pB
   rw[sA,if_pos hi] at pA
   rw[sB,←ih1,if_pos hi] at pB
   have hmem:ix (bq A i) i∈bq A i:=ix_mem hi
   have hs:=ih2 _ hmem
   have hpi:=bq_pre (A:=A) (i:=i) (by omega)
   have hpj:=bq_pre (A:=B) (i:=i) (by omega)
   rw[hA.ord] at hpi
   rw[hB.ord,←ih1] at hpj
   have bA:=mem_prefix_rg hpi hmem
   have bB:=mem_prefix_rg hpj hmem
   have hbis:=sim_bis A B
   have:=lock hA hB _ _ (bq A i) (hbis.len hs) (hbis.nxt hs) (fun a ha=>(hA.nx _ (by omega) a ha).2) (fun a ha=>(hB.nx _ (by omega) a ha).2) ih2 pA pB
   rw[sA,sB,←ih1,if_pos hi,if_pos hi]
   exact this
  ·rw[sA,sB,←ih1,if_neg hi,if_neg hi]
   exact⟨rfl,ih2⟩
theorem uniq {A B:SSpec} (hA:Num A) (hB:Num B) (ha:A.actions=B.actions) (h:Sim2 A B 0 0):A=B:=by
 obtain⟨e1,e2⟩:=lock_bq hA hB h (A.states.length+B.states.length)
 rw[bq_late hA (by omega)] at e1 e2
 rw[bq_late hB (by omega)] at e1
 have hl:A.states.length=B.states.length:=by
  have:=congrArg List.length e1
  rwa [rg_len,rg_len] at this
 have hsim:∀k,k<A.states.length→Sim2 A B k k:=fun k hk=>by
  have:=e2 (k:Int) (mem_rg.2 ⟨by omega,by omega⟩)
  rwa [Int.toNat_natCast] at this
 refine SSpec.ext ha (List.ext_getElem hl (fun k h1 h2=> ?_))
 have hk:=hsim k h1
 have hbis:=sim_bis A B
 have ea:=hbis.acc hk
 have en:=hbis.len hk
 rw[←ix_get h1,←ix_get h2]
 refine SState.ext ea (List.ext_getElem en (fun a g1 g2=> ?_))
 rw[←ix_get g1,←ix_get g2]
 obtain⟨l1,l2⟩:=hbis.nxt hk a g1
 have bA:=hA.nx k h1 a g1
 have bB:=hB.nx k h2 a g2
 by_cases hn:ix (nxt A k) a<0
 ·have:=l1.1 hn
  show ix (nxt A k) a=ix (nxt B k) a
  omega
 ·have hs:=l2 (by omega)
  have hnB:¬ix (nxt B k) a<0:=fun h=>hn (l1.2 h)
  have hs2:=hsim (ix (nxt A k) a).toNat (by omega)
  have:=hB.red (x:=(ix (nxt A k) a).toNat) (y:=(ix (nxt B k) a).toNat) (by omega) (by omega) (hs2.symm.trans hs)
  show ix (nxt A k) a=ix (nxt B k) a
  omega
end BisM3
end Go.Proofs.YtolpjmllmlahfaaDoor
namespace Go.Proofs.YtolpjmllmlahfaaDoor
open AL ref01 ref03 ref04 ref06 Part Rungs LeftM TrimM Itoa Keys RoundM MergeM BisM BisM2 BisM3
set_option linter.all false
namespace BisM4
theorem ix_mapL {α β:Type} [Inhabited α] [Inhabited β] {f:α→β} {l:List α} {k:Nat} (h:k<l.length):ix (l.map f) k=f (ix l k):=by
 rw[ix_get (by simpa using h),ix_get h,List.getElem_map]
theorem q_acc {s:SSpec} (hs:okSpec s) (h0:ix (hollow s) 0=false) {i:Nat} (hi:i<(ordS s).length):acc (qS s) (ix (clT s) i).toNat=keep s (ix (ordS s) i).toNat:=by
 show(ix (qS s).states _).accept=_
 rw[(q_at hs h0 hi).2]
 show(ix (tS s).states i).accept=_
 rw[tS_at hi];rfl
theorem q_next {s:SSpec} (hs:okSpec s) (h0:ix (hollow s) 0=false) {i:Nat} (hi:i<(ordS s).length):nxt (qS s) (ix (clT s) i).toNat=(tnext s (ix (ordS s) i)).map (mapK (clT s)):=by
 show(ix (qS s).states _).next=_
 rw[(q_at hs h0 hi).2]
 show(ix (tS s).states i).next.map _=_
 rw[tS_at hi];rfl
theorem q_nextlen {s:SSpec} (hs:okSpec s) (h0:ix (hollow s) 0=false) {k:Nat} (hk:k<(qS s).states.length):(nxt (qS s) k).length=s.actions.length:=by
 obtain⟨i,hi,e⟩:=q_rep hs h0 hk
 have:=q_next hs h0 hi
 rw[e,Int.toNat_natCast] at this
 rw[this];simp[tnext]
theorem q_nextix {s:SSpec} (hs:okSpec s) (h0:ix (hollow s) 0=false) {i:Nat} (hi:i<(ordS s).length) {a:Nat} (ha:a<s.actions.length):ix (nxt (qS s) (ix (clT s) i).toNat) a=mapK (clT s) (ix (tnext s (ix (ordS s) i)) a):=by
 rw[q_next hs h0 hi]
 have hl:(tnext s (ix (ordS s) i)).length=s.actions.length:=by simp[tnext]
 exact ix_mapL (by omega)
theorem q_go {s:SSpec} (hs:okSpec s) (h0:ix (hollow s) 0=false) {i:Nat} (hi:i<(ordS s).length) {a:Nat} (ha:a<s.actions.length):
 (has (orAll (keep s (ix (ordS s) i).toNat)) (a:Int)=true→0≤ix (nxt (qS s) (ix (clT s) i).toNat) a∧ix (nxt (qS s) (ix (clT s) i).toNat) a<((qS s).states.length:Int))∧
 (has (orAll (keep s (ix (ordS s) i).toNat)) (a:Int)=false→ix (nxt (qS s) (ix (clT s) i).toNat) a= -1):=by
 rw[q_nextix hs h0 hi ha,tnext_ix ha]
 refine⟨fun hh=> ?_,fun hh=> ?_⟩
 ·rw[if_pos hh]
  have p0:=(posN_bd (ordS s) (ix (ix s.states (ix (ordS s) i).toNat).next a)).1
  obtain⟨p1,p2⟩:=posN_at (ord_closed hs hi hh)
  unfold mapK
  rw[if_pos p0]
  have:=q_at hs h0 (i:=(posN (ordS s) (ix (ix s.states (ix (ordS s) i).toNat).next a)).toNat) (by omega)
  have hn:=cl_nn hs (posN (ordS s) (ix (ix s.states (ix (ordS s) i).toNat).next a)).toNat
  exact⟨hn,by have:=this.1;omega⟩
 ·rw[if_neg (by simp[hh])];rfl
theorem q_num {s:SSpec} (hs:okSpec s) (h0:ix (hollow s) 0=false):Num (qS s):=by
 have hop:=ordS_pos s
 have hq0:=(q_at hs h0 (i:=0) (by omega)).1
 refine⟨q_order hs h0,by omega,fun x hx a ha=> ?_,fun hx hy h=>q_reduced hs h0 hx hy h⟩
 obtain⟨i,hi,e⟩:=q_rep hs h0 hx
 have ha':a<s.actions.length:=by rw[q_nextlen hs h0 hx] at ha;exact ha
 obtain⟨g1,g2⟩:=q_go hs h0 hi ha'
 rw[e,Int.toNat_natCast] at g1 g2
 cases hh:has (orAll (keep s (ix (ordS s) i).toNat)) (a:Int) with
 |true=>have:=g1 hh;omega
 |false=>have:=g2 hh;omega
theorem q_le {s:SSpec} (hs:okSpec s) (h0:ix (hollow s) 0=false):(qS s).states.length≤s.states.length:=by
 have h1:=mout_len (clT s) (tS s).states (ordS s).length
 have h2:=ord_le hs
 exact Nat.le_trans h1 h2
theorem q_ok {s:SSpec} (hs:okSpec s) (h0:ix (hollow s) 0=false):okSpec (qS s):=by
 have hn:=q_num hs h0
 have hl:=q_le hs h0
 have hf:=hs.few1
 refine⟨hs.acts,hs.n8,hn.pos,by omega,fun k hk=> ?_⟩
 obtain⟨i,hi,e⟩:=q_rep hs h0 hk
 have hb:=ord_bd hs hi
 have hx:(ix (ordS s) i).toNat<s.states.length:=by omega
 have hac:=q_acc hs h0 hi
 rw[e,Int.toNat_natCast] at hac
 have hkb:=keep_bd hs (ix (ordS s) i).toNat
 refine⟨q_nextlen hs h0 hk,fun a ha=>hn.nx k hk a (by rw[q_nextlen hs h0 hk];exact ha),fun j hj=> ?_,fun j hj a ha=> ?_,?_⟩
 ·have hm:ix (acc (qS s) k) j∈acc (qS s) k:=ix_mem hj
  rw[hac] at hm
  have:=hkb.1 _ hm
  rw[←hac] at this
  exact hkb.1 _ (by rw[←hac];exact ix_mem hj)
 ·have hm:ix (acc (qS s) k) j∈keep s (ix (ordS s) i).toNat:=by rw[←hac];exact ix_mem hj
  have hh:has (orAll (keep s (ix (ordS s) i).toNat)) (a:Int)=true:=(orAll_has _ _).2 ⟨_,hm,ha⟩
  have hg:=can_go hs hx hh
  have hal:a<s.actions.length:=by have:=(hs.st _ hx).len;omega
  obtain⟨g1,_⟩:=q_go hs h0 hi hal
  rw[e,Int.toNat_natCast] at g1
  exact⟨hal,(g1 hh).1⟩
 ·show rising (acc (qS s) k)=true
  rw[hac];exact keep_rising hs hx
theorem q_accne {s:SSpec} (hs:okSpec s) (h0:ix (hollow s) 0=false) {k:Nat} (hk:k<(qS s).states.length):acc (qS s) k≠[]:=by
 obtain⟨i,hi,e⟩:=q_rep hs h0 hk
 have hac:=q_acc hs h0 hi
 rw[e,Int.toNat_natCast] at hac
 rw[hac]
 have hb:=ord_bd hs hi
 exact keep_ne (by omega) (ord_solid hs h0 hi)
theorem hol_keep {s:SSpec} {x:Nat} (h:ix (hollow s) x=true):keep s x= []:=by
 unfold keep
 rw[List.filter_eq_nil_iff]
 intro t _
 rw[h];simp
theorem has_zero (a:Nat):has (orAll []) (a:Int)=false:=by
 cases h:has (orAll []) (a:Int) with
 |false=>rfl
 |true=>
  obtain⟨t,ht,_⟩:=(orAll_has [] a).1 h
  cases ht
theorem hol_sim {s t:SSpec} (hs:okSpec s) (ht:okSpec t) (ha:s.actions.length=t.actions.length) {x y:Nat} (hx:x<s.states.length) (hy:y<t.states.length) (h1:ix (hollow s) x=true) (h2:ix (hollow t) y=true):Sim2 (solid s) (solid t) x y:=by
 refine⟨fun a b=>a=x∧b=y,⟨fun {a b} ⟨e1,e2⟩=> ?_,fun {a b} ⟨e1,e2⟩=> ?_,fun {a b} ⟨e1,e2⟩ k hk=> ?_⟩,rfl,rfl⟩
 ·subst e1;subst e2
  show(ix (solid s).states _).accept=(ix (solid t).states _).accept
  rw[solid_at hx,solid_at hy]
  show keep s _=keep t _
  rw[hol_keep h1,hol_keep h2]
 ·subst e1;subst e2
  show(ix (solid s).states _).next.length=(ix (solid t).states _).next.length
  rw[solid_next hs hx,solid_next ht hy,ha]
 ·subst e1;subst e2
  have hk1:k<s.actions.length:=by
   have:k<(ix (solid s).states a).next.length:=hk
   rwa [solid_next hs hx] at this
  have f1:ix (nxt (solid s) a) k= -1:=by
   show ix (ix (solid s).states a).next k= -1
   rw[solid_at hx]
   show ix (cut _ (orAll (keep s a))) k= -1
   rw[hol_keep h1,cut_ix (by rw[(hs.st _ hx).len];exact hk1),has_zero];rfl
  have f2:ix (nxt (solid t) b) k= -1:=by
   show ix (ix (solid t).states b).next k= -1
   rw[solid_at hy]
   show ix (cut _ (orAll (keep t b))) k= -1
   rw[hol_keep h2,cut_ix (by rw[(ht.st _ hy).len];omega),has_zero];rfl
  show Leads _ (ix (nxt (solid s) a) k) (ix (nxt (solid t) b) k)
  rw[f1,f2]
  exact⟨Iff.rfl,fun h=>by omega⟩
theorem not_sim {s t:SSpec} {x y:Nat} (hx:x<s.states.length) (hy:y<t.states.length) (h1:ix (hollow s) x=true) (h2:ix (hollow t) y=false):¬Sim2 (solid s) (solid t) x y:=fun h=>by
 have:=(sim_bis _ _).acc h
 have e:keep s x=keep t y:=by
  have h':(ix (solid s).states x).accept=(ix (solid t).states y).accept:=this
  rw[solid_at hx,solid_at hy] at h'
  exact h'
 rw[hol_keep h1] at e
 exact keep_ne hy h2 e.symm
theorem least_iff {s t:SSpec} (hs:okSpec s) (ht:okSpec t) (ha:s.actions=t.actions):(leastR s).1=(leastR t).1↔Sim2 (solid s) (solid t) 0 0:=by
 have f1:=hs.few0
 have f2:=ht.few0
 cases h1:ix (hollow s) 0 with
 |true=>
  cases h2:ix (hollow t) 0 with
  |true=>
   rw[least_hol hs h1,least_hol ht h2,ha]
   exact⟨fun _=>hol_sim hs ht (by rw[ha]) (by omega) (by omega) h1 h2,fun _=>rfl⟩
  |false=>
   rw[least_hol hs h1,least_not ht h2]
   refine⟨fun h=> ?_,fun h=>absurd h (not_sim (by omega) (by omega) h1 h2)⟩
   exfalso
   have hp:=(q_num ht h2).pos
   have:=q_accne ht h2 hp
   rw[←h] at this
   exact this rfl
 |false=>
  cases h2:ix (hollow t) 0 with
  |true=>
   rw[least_not hs h1,least_hol ht h2]
   refine⟨fun h=> ?_,fun h=>absurd h.symm (not_sim (by omega) (by omega) h2 h1)⟩
   exfalso
   have hp:=(q_num hs h1).pos
   have:=q_accne hs h1 hp
   rw[h] at this
   exact this rfl
  |false=>
   rw[least_not hs h1,least_not ht h2]
   refine⟨fun h=> ?_,fun h=> ?_⟩
   ·have e1:=q_root hs h1
    have e2:=q_root ht h2
    rw[h] at e1
    exact e1.trans e2.symm
   ·exact uniq (q_num hs h1) (q_num ht h2) ha ((q_root hs h1).symm.trans (h.trans (q_root ht h2)))
theorem nothing_ok {l:List ByteArray} (h:actionsOK l=true):okSpec (nothing l):=by
 have hn:=actionsOK_len h
 refine⟨h,hn,Nat.le_refl _,by show 1≤10000;omega,fun k hk=> ?_⟩
 have:k=0:=by have:k<1:=hk;omega
 subst this
 refine⟨by show(List.replicate _ _).length=_;simp[nothing],fun a ha=> ?_,fun i hi=> ?_,fun i hi=> ?_,rfl⟩
 ·have e:ix (ix (nothing l).states 0).next a= -1:=by
   show ix (List.replicate l.length (-1:Int)) a= -1
   have ha:a<l.length:=ha
   rw[ix_get (by simpa using ha)];simp
  rw[e]
  show-1≤(-1:Int)∧(-1:Int)<((1:Nat):Int)
  omega
 ·exact absurd hi (Nat.not_lt_zero i)
 ·exact absurd hi (Nat.not_lt_zero i)
theorem least_ok {s:SSpec} (hs:okSpec s):okSpec (leastR s).1:=by
 cases h:ix (hollow s) 0 with
 |true=>rw[least_hol hs h];exact nothing_ok hs.acts
 |false=>rw[least_not hs h];exact q_ok hs h
theorem least_le {s:SSpec} (hs:okSpec s):(leastR s).1.states.length≤s.states.length:=by
 cases h:ix (hollow s) 0 with
 |true=>rw[least_hol hs h];exact hs.few0
 |false=>rw[least_not hs h];exact q_le hs h
theorem least_acts {s:SSpec} (hs:okSpec s):(leastR s).1.actions=s.actions:=by
 cases h:ix (hollow s) 0 with
 |true=>rw[least_hol hs h];rfl
 |false=>rw[least_not hs h]
end BisM4
end Go.Proofs.YtolpjmllmlahfaaDoor
namespace Go.Proofs.YtolpjmllmlahfaaDoor
open AL Go ref01 ref03 ref04 ref06 MergeM Rungs
set_option linter.all false
namespace TurnM
def swapI (x k:Int):Int:=if k=0 then x else if k=x then 0 else k
def turnState (x:Int) (y:SState):SState:=⟨y.accept,y.next.map (swapI x)⟩
def turnedS (s:SSpec) (x:Int):SSpec:=⟨s.actions,(List.range s.states.length).map fun(i:Nat)=>turnState x (ix s.states (swapI x (i:Int)).toNat)⟩
theorem swapI_lt {x k:Int} {n:Nat} (h0:0≤x) (hx:x<(n:Int)) (hk0:0≤k) (hk:k<(n:Int)):0≤swapI x k∧swapI x k<(n:Int):=by
 unfold swapI;split
 ·omega
 ·split<;>omega
theorem swapI_bd {x k:Int} {n:Nat} (h0:0≤x) (hx:x<(n:Int)) (hk0: -1≤k) (hk:k<(n:Int)): -1≤swapI x k∧swapI x k<(n:Int)∧(0≤swapI x k↔0≤k):=by
 unfold swapI;split
 ·omega
 ·split<;>omega
theorem swapI_swap {x k:Int} (h0:0≤x):swapI x (swapI x k)=k:=by
 unfold swapI
 repeat' split
 all_goals omega
theorem ix_mapS {α β:Type} [Inhabited α] [Inhabited β] {f:α→β} {l:List α} {k:Nat} (h:k<l.length):ix (l.map f) k=f (ix l k):=by
 rw[ix_get (by simpa using h),ix_get h,List.getElem_map]
theorem drop_ixS {α:Type} [Inhabited α] {l:List α} {k:Nat} (h:k<l.length):l.drop k=ix l k::l.drop (k+1):=by
 rw[ix_get h];exact List.drop_eq_getElem_cons h
theorem mapd_ix {α:Type} [Inhabited α] {f:α→α} {l:List α} {k:Nat} (h:k<l.length):ix ((l.take k).map f++l.drop k) k=ix l k:=by
 have hl:((l.take k).map f).length=k:=by simp;omega
 rw[drop_ixS h]
 unfold ix
 rw[List.getD_eq_getElem?_getD,List.getElem?_append_right (by omega),hl,Nat.sub_self];rfl
theorem mapd_set {α:Type} [Inhabited α] {f:α→α} {l:List α} {k:Nat} (h:k<l.length):((l.take k).map f++l.drop k).set k (f (ix l k))=(l.take (k+1)).map f++l.drop (k+1):=by
 have hl:((l.take k).map f).length=k:=by simp;omega
 rw[drop_ixS h,List.set_append_right _ _ (by omega),hl,Nat.sub_self,List.set_cons_zero,take_s h,List.map_append]
 simp only [List.map_cons,List.map_nil,List.append_assoc,List.cons_append,List.nil_append]
theorem mapd_keep {α:Type} [Inhabited α] {f:α→α} {l:List α} {k:Nat} (h:k<l.length) (hf:f (ix l k)=ix l k):(l.take k).map f++l.drop k=(l.take (k+1)).map f++l.drop (k+1):=by
 rw[drop_ixS h,take_s h,List.map_append]
 simp only [List.map_cons,List.map_nil,List.append_assoc,List.cons_append,List.nil_append,hf]
theorem swap_list {α:Type} [Inhabited α] (l:List α) {x:Nat} (hx:x<l.length):(l.set 0 (ix l x)).set x (ix l 0)=(List.range l.length).map fun(i:Nat)=>ix l (swapI x (i:Int)).toNat:=by
 apply List.ext_getElem
 ·simp
 ·intro i h1 h2
  simp only [List.length_set] at h1
  rw[List.getElem_map,List.getElem_range,List.getElem_set,List.getElem_set]
  unfold swapI
  by_cases e1:x=i
  ·subst e1
   rw[if_pos rfl]
   by_cases e2:(x:Int)=0
   ·have:x=0:=by omega
    subst this;rfl
   ·rw[if_neg e2,if_pos rfl];rfl
  ·rw[if_neg e1]
   by_cases e2:0=i
   ·subst e2;simp
   ·rw[if_neg e2,if_neg (by omega),if_neg (by omega),Int.toNat_natCast,ix_get h1]
theorem map_swap {α β:Type} [Inhabited α] [Inhabited β] (f:α→β) (l:List α) (i j:Nat) (hi:i<l.length) (hj:j<l.length):((l.set i (ix l j)).set j (ix l i)).map f=((l.map f).set i (ix (l.map f) j)).set j (ix (l.map f) i):=by
 rw[List.map_set,List.map_set,ix_mapS hi,ix_mapS hj]
theorem swapped_eq {s:SSpec} {x:Nat} (hx:x<s.states.length) {ps:List (List Int × Value)} {nss:List (List Int)} (h1:ps.map Prod.fst=s.states.map SState.accept) (h2:nss=s.states.map SState.next):
 ((((ps.set 0 (ix ps x)).set x (ix ps 0)).map Prod.fst).zip (((nss.set 0 (ix nss x)).set x (ix nss 0)).map (List.map (swapI x)))).map (fun p:List Int × List Int=> [ints p.1]++ [sl 1 intE p.2])=(turnedS s (x:Int)).states.map stateE:=by
 have hl:ps.length=s.states.length:=by simpa using congrArg List.length h1
 have hn:nss.length=s.states.length:=by rw[h2];simp
 rw[map_swap Prod.fst ps 0 x (by omega) (by omega),h1,swap_list (s.states.map SState.accept) (by simpa using hx),swap_list nss (by omega)]
 apply List.ext_getElem
 ·simp[turnedS,hn]
 ·intro i g1 g2
  simp only [turnedS,List.length_map,List.length_range] at g2
  have hr:=swapI_lt (x:=(x:Int)) (k:=(i:Int)) (n:=s.states.length) (by omega) (by omega) (by omega) (by omega)
  simp only [List.getElem_map,List.getElem_zip,List.getElem_range,turnedS,turnState,stateE]
  rw[h2,ix_mapS (by omega),ix_mapS (by omega)]
  rfl
theorem turned_len {s:SSpec} {x:Int}:(turnedS s x).states.length=s.states.length:=by simp[turnedS]
theorem turned_ix {s:SSpec} {x:Int} {i:Nat} (h:i<s.states.length):ix (turnedS s x).states i=turnState x (ix s.states (swapI x i).toNat):=ix_map_range h
theorem turnedS_ok {s:SSpec} (hs:okSpec s) {x:Int} (h0:0≤x) (hx:x<(s.states.length:Int)):okSpec (turnedS s x):=by
 refine⟨hs.acts,hs.n8,by rw[turned_len];exact hs.few0,by rw[turned_len];exact hs.few1,fun k hk=> ?_⟩
 rw[turned_len] at hk ⊢
 rw[turned_ix hk]
 have hr:=swapI_lt (x:=x) (k:=(k:Int)) h0 hx (by omega) (by omega)
 have h:=hs.st (swapI x k).toNat (by omega)
 have hix:∀a,a<s.actions.length→ix ((ix s.states (swapI x k).toNat).next.map (swapI x)) a=swapI x (ix (ix s.states (swapI x k).toNat).next a):=fun a ha=>ix_mapS (by rw[h.len];exact ha)
 refine⟨by show(List.map _ _).length=_;rw[List.length_map];exact h.len,fun a ha=> ?_,h.ac,fun i hi a ha=> ?_,h.rise⟩
 ·show-1≤ix (List.map _ _) a∧ix (List.map _ _) a<_
  rw[hix a ha]
  have:=h.nx a ha
  have:=swapI_bd h0 hx this.1 this.2
  omega
 ·obtain⟨g1,g2⟩:=h.go i hi a ha
  refine⟨g1,?_⟩
  show 0≤ix (List.map _ _) a
  rw[hix a g1]
  have:=h.nx a g1
  have:=swapI_bd h0 hx this.1 this.2
  omega
end TurnM
end Go.Proofs.YtolpjmllmlahfaaDoor
namespace Go.Proofs.YtolpjmllmlahfaaDoor
open AL ref01 ref03 ref04 ref06 Part Rungs LeftM TrimM Itoa Keys RoundM MergeM BisM BisM2 BisM3 BisM4 TurnM
set_option linter.all false
namespace BisM5
theorem solid_acc {s:SSpec} {x:Nat} (hx:x<s.states.length):acc (solid s) x=keep s x:=by
 show(ix (solid s).states x).accept=_
 rw[solid_at hx];rfl
theorem solid_ix {s:SSpec} (hs:okSpec s) {x:Nat} (hx:x<s.states.length) {a:Nat} (ha:a<s.actions.length):ix (nxt (solid s) x) a=if has (orAll (keep s x)) (a:Int)=true then ix (nxt s x) a else-1:=by
 show ix (ix (solid s).states x).next a=_
 rw[solid_at hx]
 exact cut_ix (by rw[(hs.st x hx).len];exact ha)
theorem solid_nlen {s:SSpec} (hs:okSpec s) {x:Nat} (hx:x<s.states.length):(nxt (solid s) x).length=s.actions.length:=solid_next hs hx
structure Ref (T t:SSpec) (R:Nat→Nat→Prop):Prop where
 bd:∀{x y},R x y→x<T.states.length∧y<t.states.length
 acc:∀{x y},R x y→∀u∈acc T x,u∈acc t y
 nxt:∀{x y},R x y→∀a:Nat,has (orAll (BisM.acc T x)) (a:Int)=true→R (ix (nxt T x) a).toNat (ix (nxt t y) a).toNat
def RefP (s t:SSpec):Prop:=ix (hollow s) 0=true∨∃R,Ref (tS s) t R∧R 0 0
theorem tS_acc {s:SSpec} {i:Nat} (hi:i<(ordS s).length):acc (tS s) i=keep s (ix (ordS s) i).toNat:=by
 show(ix (tS s).states i).accept=_
 rw[tS_at hi];rfl
end BisM5
end Go.Proofs.YtolpjmllmlahfaaDoor
namespace Go.Proofs.YtolpjmllmlahfaaDoor
open AL ref01 ref03 ref04 ref06 Part Rungs LeftM TrimM RoundM BisM BisM5
set_option linter.all false
namespace WalkM
structure Mt where
 s:Int
 t:Int
 before:Int
 action:Int
deriving Inhabited,DecidableEq
def metE:Mt→List AV:=fun m=> [int m.s,int m.t,int m.before,int m.action]
instance (m:Mt):OneAll (metE m):=inferInstanceAs (OneAll [int m.s,int m.t,int m.before,int m.action])
def pairOf (m:Mt):Int × Int:=(m.s,m.t)
def blV (b:Bool):AV:=bl b
def smap (mm:List ((Int × Int) × Bool)) (q:List Mt):Prop:=∀p,mget mm p=if p∈q.map pairOf then some true else none
theorem smap_get {mm:List ((Int × Int) × Bool)} {q:List Mt} (h:smap mm q) (p:Int × Int):(mget mm p).getD false=decide (p∈q.map pairOf):=by
 rw[h p]
 by_cases hp:p∈q.map pairOf
 ·rw[if_pos hp,decide_eq_true hp];rfl
 ·rw[if_neg hp,decide_eq_false hp];rfl
theorem smap_push {mm:List ((Int × Int) × Bool)} {q:List Mt} (h:smap mm q) (m:Mt):smap (mset mm (pairOf m) true) (q++ [m]):=by
 intro p
 rw[mget_mset,h p,List.map_append,List.map_cons,List.map_nil]
 by_cases e:pairOf m=p
 ·rw[if_pos e,if_pos (by rw[e];simp)]
 ·rw[if_neg e]
  have:p∈q.map pairOf++ [pairOf m]↔p∈q.map pairOf:=by
   rw[List.mem_append]
   exact⟨fun h=>h.resolve_right (fun h=>e (List.mem_singleton.1 h).symm),.inl⟩
  by_cases hp:p∈q.map pairOf
  ·rw[if_pos hp,if_pos (this.2 hp)]
  ·rw[if_neg hp,if_neg (fun h=>hp (this.1 h))]
structure QInv (T t:SSpec) (q:List Mt):Prop where
 ne:0<q.length
 hd:ix q 0=⟨0,0,-1,0⟩
 bd:∀m∈q,0≤m.s∧m.s<(T.states.length:Int)∧0≤m.t∧m.t<(t.states.length:Int)
 nd:(q.map pairOf).Nodup
 back:∀k,0<k→k<q.length→∃(b a:Nat),(ix q k).before=(b:Int)∧(ix q k).action=(a:Int)∧b<k∧has (orAll (acc T (ix q b).s.toNat)) (a:Int)=true∧(ix q k).s=ix (nxt T (ix q b).s.toNat) a∧(ix q k).t=ix (nxt t (ix q b).t.toNat) a
 all:∀R,Ref T t R→R 0 0→∀m∈q,R m.s.toNat m.t.toNat
def Done (T t:SSpec) (q:List Mt) (k:Nat):Prop:=
 (∀u∈acc T (ix q k).s.toNat,u∈acc t (ix q k).t.toNat)∧∀a:Nat,has (orAll (acc T (ix q k).s.toNat)) (a:Int)=true→(ix (nxt T (ix q k).s.toNat) a,ix (nxt t (ix q k).t.toNat) a)∈q.map pairOf
theorem ixM_left {l m:List Mt} {j:Nat} (h:j<l.length):ix (l++m) j=ix l j:=by
 rw[ix_get (by simp;omega),ix_get h,List.getElem_append_left h]
theorem ixM_last {l:List Mt} {x:Mt}:ix (l++ [x]) l.length=x:=by
 rw[ix_get (by simp)];simp
theorem q_zero {T t:SSpec} (hT:okSpec T) (ht:okSpec t):QInv T t [⟨0,0,-1,0⟩]:=by
 have f1:=hT.few0
 have f2:=ht.few0
 refine⟨by simp,rfl,fun m hm=> ?_,by simp,fun k h1 h2=> ?_,fun R hR h m hm=> ?_⟩
 ·have:m=⟨0,0,-1,0⟩:=by simpa using hm
  subst this
  show 0≤(0:Int)∧(0:Int)<_∧0≤(0:Int)∧(0:Int)<_
  omega
 ·simp at h2;omega
 ·have:m=⟨0,0,-1,0⟩:=by simpa using hm
  subst this;exact h
theorem or_go {T:SSpec} (hT:okSpec T) {x:Nat} (hx:x<T.states.length) {a:Nat} (h:has (orAll (acc T x)) (a:Int)=true):a<T.actions.length∧0≤ix (nxt T x) a∧ix (nxt T x) a<(T.states.length:Int):=by
 obtain⟨u,hu,hh⟩:=(orAll_has _ _).1 h
 obtain⟨i,hi,e⟩:=mem_ix hu
 have hst:=hT.st x hx
 have e':ix (ix T.states x).accept i=u:=e
 obtain⟨g1,g2⟩:=hst.go i hi a (by rw[e'];exact hh)
 exact⟨g1,g2,(hst.nx a g1).2⟩
theorem acc_go {T t:SSpec} (hT:okSpec T) (ht:okSpec t) {x y:Nat} (hx:x<T.states.length) (hy:y<t.states.length) (hall:∀u∈acc T x,u∈acc t y) {a:Nat} (h:has (orAll (acc T x)) (a:Int)=true):a<t.actions.length∧0≤ix (nxt t y) a∧ix (nxt t y) a<(t.states.length:Int):=by
 obtain⟨u,hu,hh⟩:=(orAll_has _ _).1 h
 exact or_go ht hy ((orAll_has _ _).2 ⟨u,hall u hu,hh⟩)
theorem q_push {T t:SSpec} (hT:okSpec T) (ht:okSpec t) {q:List Mt} (h:QInv T t q) {i:Nat} (hi:i<q.length) (hall:∀u∈acc T (ix q i).s.toNat,u∈acc t (ix q i).t.toNat) {a:Nat} (ha:has (orAll (acc T (ix q i).s.toNat)) (a:Int)=true)
 (hn:(ix (nxt T (ix q i).s.toNat) a,ix (nxt t (ix q i).t.toNat) a)∉q.map pairOf):QInv T t (q++ [⟨ix (nxt T (ix q i).s.toNat) a,ix (nxt t (ix q i).t.toNat) a,(i:Int),(a:Int)⟩]):=by
 have hb:=h.bd _ (ix_memS hi)
 have g1:=or_go hT (x:=(ix q i).s.toNat) (by omega) ha
 have g2:=acc_go hT ht (x:=(ix q i).s.toNat) (y:=(ix q i).t.toNat) (by omega) (by omega) hall ha
 refine⟨by simp,by rw[ixM_left h.ne];exact h.hd,fun m hm=> ?_,?_,fun k h1 h2=> ?_,fun R hR h0 m hm=> ?_⟩
 ·rcases List.mem_append.1 hm with hm|hm
  ·exact h.bd m hm
  ·have:m=_:=List.mem_singleton.1 hm
   subst this
   exact⟨g1.2.1,g1.2.2,g2.2.1,g2.2.2⟩
 ·rw[List.map_append,List.nodup_append]
  exact⟨h.nd,by simp,fun p hp p' hp' e=>hn (by
   have:p'=_:=List.mem_singleton.1 hp'
   rw[e,this] at hp;exact hp)⟩
 ·simp at h2
  by_cases e:k=q.length
  ·subst e
   refine⟨i,a,?_⟩
   rw[ixM_last,ixM_left hi]
   exact⟨rfl,rfl,hi,ha,rfl,rfl⟩
  ·obtain⟨b,a',p1,p2,p3,p4⟩:=h.back k h1 (by omega)
   refine⟨b,a',?_⟩
   rw[ixM_left (by omega),ixM_left (by omega)]
   exact⟨p1,p2,p3,p4⟩
 ·rcases List.mem_append.1 hm with hm|hm
  ·exact h.all R hR h0 m hm
  ·have:m=_:=List.mem_singleton.1 hm
   subst this
   exact hR.nxt (h.all R hR h0 _ (ix_memS hi)) a ha
theorem done_push {T t:SSpec} {q:List Mt} {m:Mt} {k:Nat} (hk:k<q.length) (h:Done T t q k):Done T t (q++ [m]) k:=by
 unfold Done
 rw[ixM_left hk]
 exact⟨h.1,fun a ha=>by rw[List.map_append];exact List.mem_append_left _ (h.2 a ha)⟩
theorem q_len {T t:SSpec} {q:List Mt} (h:QInv T t q):q.length≤T.states.length*t.states.length:=by
 have key:∀(n m:Nat) (l:List (Int × Int)),l.Nodup→(∀p∈l,0≤p.1∧p.1<(n:Int)∧0≤p.2∧p.2<(m:Int))→l.length≤n*m:=by
  intro n m l hnd hb
  have h1:(l.map fun p=>p.1.toNat*m+p.2.toNat).Nodup:=by
   rw[List.nodup_iff_pairwise_ne,List.pairwise_map]
   refine List.Pairwise.imp_of_mem ?_ hnd
   intro a b ha hb' hne e
   have b1:=hb a ha
   have b2:=hb b hb'
   have hm:0<m:=by omega
   have e1:a.1.toNat=b.1.toNat:=by
    have:=congrArg (· /m) e
    simp only [Nat.mul_comm _ m] at this
    rw[Nat.mul_add_div hm,Nat.mul_add_div hm,Nat.div_eq_of_lt (by omega),Nat.div_eq_of_lt (by omega)] at this
    omega
   have e2:a.2.toNat=b.2.toNat:=by rw[e1] at e;omega
   exact hne (Prod.ext (by omega) (by omega))
  have h2:∀x∈(l.map fun p=>p.1.toNat*m+p.2.toNat),x∈List.range (n*m):=fun x hx=>by
   obtain⟨p,hp,rfl⟩:=List.mem_map.1 hx
   have b1:=hb p hp
   rw[List.mem_range]
   have:(p.1.toNat+1)*m≤n*m:=Nat.mul_le_mul_right m (by omega)
   rw[Nat.add_mul] at this
   omega
  have h3:=List.Nodup.length_le_of_subset h1 h2
  simpa using h3
 have:=key T.states.length t.states.length (q.map pairOf) h.nd (fun p hp=>by
  obtain⟨m,hm,rfl⟩:=List.mem_map.1 hp
  exact h.bd m hm)
 simpa using this
def RefX (T t:SSpec):Prop:=∃R,Ref T t R∧R 0 0
theorem walk_yes {T t:SSpec} {q:List Mt} (h:QInv T t q) (hd:∀k,k<q.length→Done T t q k):RefX T t:=by
 have hat:∀{x y:Nat},((x:Int),(y:Int))∈q.map pairOf→∃k,k<q.length∧(ix q k).s=(x:Int)∧(ix q k).t=(y:Int):=fun {x y} hm=>by
  obtain⟨m,hm,e⟩:=List.mem_map.1 hm
  obtain⟨k,hk,rfl⟩:=List.getElem_of_mem hm
  unfold pairOf at e
  simp only [Prod.mk.injEq] at e
  exact⟨k,hk,by rw[ix_get hk];exact e.1,by rw[ix_get hk];exact e.2⟩
 refine⟨fun x y=>((x:Int),(y:Int))∈q.map pairOf,⟨fun {x y} hm=> ?_,fun {x y} hm u hu=> ?_,fun {x y} hm a ha=> ?_⟩,?_⟩
 ·obtain⟨k,hk,e1,e2⟩:=hat hm
  have:=h.bd _ (ix_memS hk)
  omega
 ·obtain⟨k,hk,e1,e2⟩:=hat hm
  have:=(hd k hk).1
  rw[e1,e2,Int.toNat_natCast,Int.toNat_natCast] at this
  exact this u hu
 ·obtain⟨k,hk,e1,e2⟩:=hat hm
  have h2:=(hd k hk).2 a
  rw[e1,e2,Int.toNat_natCast,Int.toNat_natCast] at h2
  have h3:=h2 ha
  obtain⟨m,hm',e⟩:=List.mem_map.1 h3
  have hb:=h.bd m hm'
  unfold pairOf at e
  simp only [Prod.mk.injEq] at e
  rw[Int.toNat_of_nonneg (by omega),Int.toNat_of_nonneg (by omega)]
  exact h3
 ·have:=ix_memS (l:=q) h.ne
  rw[h.hd] at this
  exact List.mem_map.2 ⟨_,this,rfl⟩
structure WalkOK (T t:SSpec) (z:List Mt × Int × Int):Prop where
 q:QInv T t z.1
 yes:z.2.1<0→RefX T t∧∀k,k<z.1.length→Done T t z.1 k
 no:0≤z.2.1→¬RefX T t∧z.2.1<(z.1.length:Int)∧z.2.2∈acc T (ix z.1 z.2.1.toNat).s.toNat∧z.2.2∉acc t (ix z.1 z.2.1.toNat).t.toNat
theorem walk_no {T t:SSpec} {q:List Mt} (h:QInv T t q) {i:Nat} (hi:i<q.length) {u:Int} (hu:u∈acc T (ix q i).s.toNat) (hn:u∉acc t (ix q i).t.toNat):WalkOK T t (q,(i:Int),u):=
 ⟨h,fun h0=>by have h0:(i:Int)<0:=h0
               omega,fun _=>⟨fun⟨R,hR,h0⟩=>hn (hR.acc (h.all R hR h0 _ (ix_memS hi)) u hu),by show(i:Int)<(q.length:Int);omega,by show u∈acc T (ix q ((i:Int)).toNat).s.toNat∧u∉acc t (ix q ((i:Int)).toNat).t.toNat;rw[Int.toNat_natCast];exact⟨hu,hn⟩⟩⟩
end WalkM
end Go.Proofs.YtolpjmllmlahfaaDoor
namespace Go.Proofs.YtolpjmllmlahfaaDoor
open AL Go
set_option maxRecDepth 100000
set_option linter.all false
open ref01 ref03 ref04 ref06 prog prog2 prog3 prog4 prog5 search Part Rungs LeftM TrimM RoundM BisM BisM5 WalkM
theorem mem_take_ix {l:List Int} {k:Nat} {u:Int} (hk:k<l.length) (h:u∈l.take (k+1)):u∈l.take k∨u=ix l k:=by
 rw[take_s hk,List.mem_append] at h
 exact h.imp id (fun h=>by simpa using h)
theorem pre_ix {q r:List Mt} {k:Nat} (h:q<+:r) (hk:k<q.length):ix r k=ix q k:=by
 obtain⟨u,rfl⟩:=h
 exact ixM_left hk
abbrev goP (T t:SSpec) (m:Mt) (a:Nat):Int × Int:=(ix (ix T.states m.s.toNat).next a,ix (ix t.states m.t.toNat).next a)
structure Mid (T t:SSpec) (q:List Mt) (i:Nat) (cn:Int) (m:Nat) (q2:List Mt) (mm2:List ((Int × Int) × Bool)):Prop where
 qi:QInv T t q2
 sm:smap mm2 q2
 pre:q<+:q2
 dn:∀k,k<i→Done T t q2 k
 al:∀a:Nat,(a:Int)∈(listOf 63 cn).take m→goP T t (ix q i) a∈q2.map pairOf
theorem smap_zero:smap (mset [] (0,0) true) [⟨0,0,-1,0⟩]:=smap_push (q:= []) (mm:= []) (fun p=>rfl) ⟨0,0,-1,0⟩
theorem take_get {l:List Int} {m:Nat} {x y:Int} (hx:l[m]?=some x) (h:y∈l.take (m+1)):y∈l.take m∨y=x:=by
 rw[List.take_add_one,hx,List.mem_append] at h
 exact h.imp id (fun h=>by simpa using h)
theorem mid_push {T t:SSpec} (hT:okSpec T) (ht:okSpec t) {q:List Mt} {i:Nat} {cn:Int} {m:Nat} {q2:List Mt} {mm2:List ((Int × Int) × Bool)} (h:Mid T t q i cn m q2 mm2) (hi:i<q.length) (hcn:cn=orAll (acc T (ix q i).s.toNat)) (hall:∀u∈acc T (ix q i).s.toNat,u∈acc t (ix q i).t.toNat)
 {a:Nat} (hx:(listOf 63 cn)[m]?=some (a:Int)) (hn:(mget mm2 (goP T t (ix q i) a)).getD false=false):Mid T t q i cn (m+1) (q2++ [⟨(goP T t (ix q i) a).1,(goP T t (ix q i) a).2,(i:Int),(a:Int)⟩]) (mset mm2 (goP T t (ix q i) a) true):=by
 obtain⟨a',e,_,hha⟩:=listOf_get hx
 have e:a'=a:=by omega
 subst e
 have hl:=h.pre.length_le
 have hqi:=pre_ix h.pre hi
 have hn':goP T t (ix q i) a'∉q2.map pairOf:=by
  rw[smap_get h.sm] at hn
  simpa using hn
 have hp:=q_push hT ht h.qi (i:=i) (by omega) (by rw[hqi];exact hall) (a:=a') (by rw[hqi,←hcn];exact hha) (by rw[hqi];exact hn')
 rw[hqi] at hp
 refine⟨hp,smap_push h.sm ⟨(goP T t (ix q i) a').1,(goP T t (ix q i) a').2,(i:Int),(a':Int)⟩,h.pre.trans (List.prefix_append _ _),fun k hk=>done_push (by omega) (h.dn k hk),fun b hb=> ?_⟩
 rw[List.map_append,List.mem_append]
 rcases take_get hx hb with h1|h1
 ·exact .inl (h.al b h1)
 ·have:b=a':=by omega
  subst this
  exact .inr (List.mem_singleton.2 rfl)
theorem mid_skip {T t:SSpec} {q:List Mt} {i:Nat} {cn:Int} {m:Nat} {q2:List Mt} {mm2:List ((Int × Int) × Bool)} (h:Mid T t q i cn m q2 mm2)
 {a:Nat} (hx:(listOf 63 cn)[m]?=some (a:Int)) (hn:(mget mm2 (goP T t (ix q i) a)).getD false=true):Mid T t q i cn (m+1) q2 mm2:=by
 refine⟨h.qi,h.sm,h.pre,h.dn,fun b hb=> ?_⟩
 rcases take_get hx hb with h1|h1
 ·exact h.al b h1
 ·have:b=a:=by omega
  subst this
  rw[smap_get h.sm] at hn
  simpa using hn
theorem mid_end {T t:SSpec} (hT:okSpec T) {q:List Mt} {i:Nat} {cn:Int} {q2:List Mt} {mm2:List ((Int × Int) × Bool)} (hq:QInv T t q) (h:Mid T t q i cn (listOf 63 cn).length q2 mm2) (hi:i<q.length) (hcn:cn=orAll (acc T (ix q i).s.toNat)) (hall:∀u∈acc T (ix q i).s.toNat,u∈acc t (ix q i).t.toNat):
 QInv T t q2∧smap mm2 q2∧i+1≤q2.length∧∀k,k<i+1→Done T t q2 k:=by
 have hl:=h.pre.length_le
 refine⟨h.qi,h.sm,by omega,fun k hk=> ?_⟩
 by_cases e:k=i
 ·subst e
  have hqi:=pre_ix h.pre hi
  have hb:=hq.bd _ (ix_memS hi)
  unfold Done
  rw[hqi]
  refine⟨hall,fun a ha=>h.al a ?_⟩
  rw[List.take_length,hcn]
  have:=(or_go hT (x:=(ix q k).s.toNat) (by omega) ha).1
  have h8:=hT.n8
  exact listOf_mem.2 ⟨a,rfl,by omega,ha⟩
 ·exact h.dn k (by omega)
namespace T
theorem map151:MapT Tryd.prog 151 114 4 pairV pairD:=mapT_pair Tryd.underlying151 Tryd.underlying114 (by kernel_rfl) (by decide+kernel) (by kernel_rfl) (by kernel_rfl) ⟨rfl,rfl,by kernel_rfl,by kernel_rfl⟩ ⟨rfl,rfl,by kernel_rfl,by kernel_rfl⟩ (by kernel_rfl) (by kernel_rfl)
theorem zvb4:∀w F,∃u,(zeroValue 4).run Tryd.prog w= .ok u w∧(blV false).p w F u:=zeroV_of (v:= .bool false) (by kernel_rfl) _ (fun _ _=>eqv_rfl)
theorem z105:ZeroIs Tryd.prog 105 [.slice none 0 0]:=zeroIs_of (by kernel_rfl)
theorem st114:StructT Tryd.prog 114 [(0,1),(1,1)] [.int .i64 0,.int .i64 0]:=structT_of (by kernel_rfl) (by kernel_rfl)
theorem z151:ZeroIs Tryd.prog 151 [.map none]:=zeroIs_of (by kernel_rfl)
theorem one151:IsOne Tryd.prog 151:=isOne_of (by kernel_rfl)
theorem st116:StructT Tryd.prog 116 [(0,2),(2,1),(3,1)] [.int .i64 0,.int .i64 0,.int .i64 0,.int .i64 0]:=structT_of (by kernel_rfl) (by kernel_rfl)
theorem mk105:MakeT Tryd.prog 105 116 4 32 [.int .i64 0,.int .i64 0,.int .i64 0,.int .i64 0]:=makeT_of (by kernel_rfl) (by kernel_rfl)
theorem one105:IsOne Tryd.prog 105:=isOne_of (by kernel_rfl)
theorem sl105:IsSlice Tryd.prog 105 116 4:=isSlice_of (by kernel_rfl)
theorem fld116_0:FieldAt Tryd.prog 116 0 0:=fieldAt_of (by kernel_rfl)
theorem agg114:IsAgg Tryd.prog 114 2:=isAgg_of (by kernel_rfl)
theorem z114:ZeroIs Tryd.prog 114 [.int .i64 0,.int .i64 0]:=zeroIs_of (by kernel_rfl)
theorem fld114_0:FieldAt Tryd.prog 114 0 0:=fieldAt_of (by kernel_rfl)
theorem fld114_1:FieldAt Tryd.prog 114 1 1:=fieldAt_of (by kernel_rfl)
theorem ent79:Ent Tryd.prog 79:=ent_of (by kernel_rfl)
end T
namespace refw
theorem walk_ok (s t:SSpec) (hT:okSpec s) (ht:okSpec t):
 AL.Fn Tryd.prog 74 [spec s,spec t] [] (ι:= { z:List Mt × Int × Int//WalkOK s t z }) (fun _ i=>tup [sl 4 metE i.1.1,int i.1.2.1,int i.1.2.2]) (fun _=> []):=by
 refine fnI Tryd.func74 rfl rfl (fun w0 F0=> ?_)
 have f1:=hT.few1;have f2:=ht.few1;have f3:=hT.n8;have hmm:s.states.length*t.states.length≤10000*10000:=Nat.mul_le_mul f1 f2
 refine fcC (inhS 0 rfl) (fun hS0=> ?_)
 obtain⟨hsa0,hss0,hse0⟩:=spec_lens hS0
 refine fcC (inhS 1 rfl) (fun hS1=> ?_)
 obtain⟨hsa1,hss1,hse1⟩:=spec_lens hS1
 refine sq (rg (bx (key:=2) (cs:= [sl 1 strE s.actions,sl 2 stateE s.states]) rfl fun b2=>(bx (key:=3) (cs:= [sl 1 strE t.actions,sl 2 stateE t.states]) rfl fun b3=>(al (key:=4) T.z105 (ex_cons (ex_nil)) fun b4=>(ag (ag (nl (th (sq (rg (mkm (key:=17) (kE:=pairV) (dom:=pairD) (vE:=blV) fun b17=>(bd (css:= []) T.st114 (ex_cons (ex_cons (ex_nil))) trivial (AL.insert (q:=(0,0)) (u:=true) rfl rfl agg_pair rfl T.map151 ⟨⟨by omega,by omega⟩,⟨by omega,by omega⟩⟩ (mv (al (key:=7) T.z151 (ex_cons (ex_nil)) fun b7=>(sP (φ:=mpv 17 b17) rfl rfl rfl T.one151 rfl (nl (th (sq (rg (bd (css:= [(2,_)]) T.st116 (ex_cons (ex_cons (ex_cons (ex_cons (ex_nil))))) ⟨rfl,rfl,p1 (φ:=int (-1)) rfl,trivial⟩ (bsO 21 (enc:=metE) (xs:= [⟨0,0,(-1),0⟩]) (css:= [[int 0,int 0,int (-1),int 0]]) T.mk105 ⟨rfl,rfl,pA (cs:= [int 0,int 0,int (-1),int 0]) rfl,trivial⟩ rfl rfl rfl rfl fun v21=>(storePO rfl rfl rfl rfl T.one105 rfl (nl (th (sq (sq (rg (al (key:=8) T.z3 (ex_cons (ex_nil)) fun b8=>(sP (φ:=int 0) rfl rfl rfl T.one3 rfl (nl (th (bk ?_)))))))))))))))))))))))))))))))))
 have hI0_0:QInv s t ([⟨0,0,(-1),0⟩]:List Mt)∧smap (mset ([]:List ((Int × Int) × Bool)) (0,0) true) ([⟨0,0,(-1),0⟩]:List Mt)∧0≤([⟨0,0,(-1),0⟩]:List Mt).length∧∀k,k<0→Done s t ([⟨0,0,(-1),0⟩]:List Mt) k:=by
  exact⟨q_zero hT ht,smap_zero,by simp,fun k hk=>absurd hk (by omega)⟩
 refine lp (κ:=Nat × Nat × Value × (List Mt) × (List ((Int × Int) × Bool))) (fun p=> [(2,ptr 2 b2 0),(3,ptr 3 b3 0),(4,ptr 4 b4 0),(7,ptr 7 b7 0),(8,ptr 8 p.2.1 0)]) (fun p=> [(2,cell b2 [sl 1 strE s.actions,sl 2 stateE s.states]),(3,cell b3 [sl 1 strE t.actions,sl 2 stateE t.states]),(4,cell b4 [osl 21 p.2.2.1]),(7,cell b7 [mpv 17 b17]),(8,cell p.2.1 [int (p.1:Int)]),(17,mp b17 pairV pairD blV p.2.2.2.2),(21,own p.2.2.1 116 4 metE p.2.2.2.1)]) (fun p=>QInv s t p.2.2.2.1∧smap p.2.2.2.2 p.2.2.2.1∧p.1≤p.2.2.2.1.length∧∀k,k<p.1→Done s t p.2.2.2.1 k) (fun p=>s.states.length*t.states.length- p.1) ⟨0,b8,v21,([⟨0,0,(-1),0⟩]:List Mt),mset ([]:List ((Int × Int) × Bool)) (0,0) true⟩ hI0_0 ⟨id,id,id,id,id,trivial⟩ ⟨⟨rfl,id⟩,⟨rfl,id⟩,⟨rfl,id⟩,⟨rfl,id⟩,⟨rfl,id⟩,⟨rfl,id⟩,⟨rfl,id⟩,trivial⟩ ?_
 intro⟨i,c8,v,q,mm⟩ hG0
 have hI0:QInv s t q∧smap mm q∧i≤q.length∧∀k,k<i→Done s t q k:=hG0
 show Ct _ _ _ _ [(2,ptr 2 b2 0),(3,ptr 3 b3 0),(4,ptr 4 b4 0),(7,ptr 7 b7 0),(8,ptr 8 c8 0)] [(2,cell b2 [sl 1 strE s.actions,sl 2 stateE s.states]),(3,cell b3 [sl 1 strE t.actions,sl 2 stateE t.states]),(4,cell b4 [osl 21 v]),(7,cell b7 [mpv 17 b17]),(8,cell c8 [int (i:Int)]),(17,mp b17 pairV pairD blV mm),(21,own v 116 4 metE q)] _
 obtain⟨hq,hsm,hil,hdone⟩:=hI0
 have hql:=WalkM.q_len hq
 refine sq (sq (rg (lP rfl rfl rfl T.one3 (lP rfl rfl rfl T.one105 (lnO rfl rfl T.sl105 (bi rfl rfl b_lss (nl (th ?_))))))))
 refine cd rfl (fun hc0=> ?_) (fun hc0=> ?_)
 ·try simp at hc0
  have hbd:=hq.bd _ (ix_memS (l:=q) (i:=i) (by omega))
  have hsx:=hT.st (ix q i).s.toNat (by omega)
  have hsy:=ht.st (ix q i).t.toNat (by omega)
  have hacl:=hsx.acl
  have hxl:=hsx.len
  have hyl:=hsy.len
  have hyn:=ht.n8
  refine sk (th (sq (bk (sq (rg (lP rfl rfl rfl T.one105 (lP rfl rfl rfl T.one3 (iO rfl rfl rfl T.sl105 (by omega) (by omega) (fO rfl T.fld116_0 (lOA rfl rfl (by first|exact gN (by omega)|exact gI (by omega) (by omega)) T.agg114 (by decide) (al (key:=9) T.z114 (ex_cons (ex_cons (ex_nil))) fun b9=>(sPA (cs':= [int ((ix q i).s),int ((ix q i).t)]) rfl rfl rfl T.agg114 rfl rfl (nl (th (sq ?_)))))))))))))))
  refine drH (nh:=16) [0,1,0,4,15,31,0,64,0,256,960,1984,0,0,12351,32767] [(none,[]),(none,[2]),(none,[]),(none,[9]),(none,[]),(none,[]),(none,[]),(none,[3]),(none,[]),(none,[9]),(none,[]),(none,[]),(some 10,[]),(some 11,[]),(some 10,[10]),(some 11,[11])] T.mixed (by kernel_rfl) (by kernel_rfl) ?_
  refine stv (d:=33) (fun β0=>ptr 2 b2 1) [] rfl (fun β β' hb=>rfl) (fun β0 _ _ _ _ gq gh kq=>fP (gq.1.trans rfl) T.fld25_1 kq) ?_
  refine stv (d:=34) (fun β0=>sl 2 stateE s.states) [2] rfl (fun β β' hb=>rfl) (fun β0 _ _ _ _ gq gh kq=>lP (gq.1.trans rfl) (gh.1.trans rfl) rfl T.one23 kq) ?_
  refine stv (d:=35) (fun β0=>ptr 9 b9 0) [] rfl (fun β β' hb=>rfl) (fun β0 _ _ _ _ gq gh kq=>fP (gq.1.trans rfl) T.fld114_0 kq) ?_
  refine stv (d:=36) (fun β0=>int ((ix q i).s)) [9] rfl (fun β β' hb=>rfl) (fun β0 _ _ _ _ gq gh kq=>lP (gq.1.trans rfl) (gh.1.trans rfl) rfl T.one3 kq) ?_
  refine stv (d:=37) (fun β0=>fp [sl 1 intE ((ix s.states (((ix q i).s).toNat)).accept),sl 1 intE ((ix s.states (((ix q i).s).toNat)).next)]) [] rfl (fun β β' hb=>rfl) (fun β0 _ _ _ _ gq gh kq=>iF (gq.1.trans rfl) (gq.2.1.trans rfl) T.sl23 (by omega) (by first|exact gN (by omega)|exact gI (by omega) (by omega)) kq) ?_
  refine stv (d:=38) (fun β0=>agg [sl 1 intE ((ix s.states (((ix q i).s).toNat)).accept),sl 1 intE ((ix s.states (((ix q i).s).toNat)).next)]) [] rfl (fun β β' hb=>rfl) (fun β0 _ _ _ _ gq gh kq=>lFA (gq.1.trans rfl) T.agg69 (Nat.le_of_ble_eq_true rfl) kq) ?_
  refine stv (d:=39) (fun β0=>ptr 3 b3 1) [] rfl (fun β β' hb=>rfl) (fun β0 _ _ _ _ gq gh kq=>fP (gq.1.trans rfl) T.fld25_1 kq) ?_
  refine stv (d:=40) (fun β0=>sl 2 stateE t.states) [3] rfl (fun β β' hb=>rfl) (fun β0 _ _ _ _ gq gh kq=>lP (gq.1.trans rfl) (gh.1.trans rfl) rfl T.one23 kq) ?_
  refine stv (d:=41) (fun β0=>ptr 9 b9 1) [] rfl (fun β β' hb=>rfl) (fun β0 _ _ _ _ gq gh kq=>fP (gq.1.trans rfl) T.fld114_1 kq) ?_
  refine stv (d:=42) (fun β0=>int ((ix q i).t)) [9] rfl (fun β β' hb=>rfl) (fun β0 _ _ _ _ gq gh kq=>lP (gq.1.trans rfl) (gh.1.trans rfl) rfl T.one3 kq) ?_
  refine stv (d:=43) (fun β0=>fp [sl 1 intE ((ix t.states (((ix q i).t).toNat)).accept),sl 1 intE ((ix t.states (((ix q i).t).toNat)).next)]) [] rfl (fun β β' hb=>rfl) (fun β0 _ _ _ _ gq gh kq=>iF (gq.1.trans rfl) (gq.2.1.trans rfl) T.sl23 (by omega) (by first|exact gN (by omega)|exact gI (by omega) (by omega)) kq) ?_
  refine stv (d:=44) (fun β0=>agg [sl 1 intE ((ix t.states (((ix q i).t).toNat)).accept),sl 1 intE ((ix t.states (((ix q i).t).toNat)).next)]) [] rfl (fun β β' hb=>rfl) (fun β0 _ _ _ _ gq gh kq=>lFA (gq.1.trans rfl) T.agg69 (Nat.le_of_ble_eq_true rfl) kq) ?_
  refine sta 10 T.z69 (ex_cons (ex_cons (ex_nil))) ?_
  refine sta 11 T.z69 (ex_cons (ex_cons (ex_nil))) ?_
  refine stw 10 (fun β0=>cell (gbk (β0 12)) [sl 1 intE ((ix s.states (((ix q i).s).toNat)).accept),sl 1 intE ((ix s.states (((ix q i).s).toNat)).next)]) [10] rfl (fun β β' hb=>by first|rw[hb 12 rfl]|(dsimp only;rw[hb 12 rfl])) (fun β0 _ _ _ _ gq gh kq=>sPA (cs':= [sl 1 intE ((ix s.states (((ix q i).s).toNat)).accept),sl 1 intE ((ix s.states (((ix q i).s).toNat)).next)]) (gq.1.trans rfl) (gh.1.trans rfl) (gq.2.1.trans rfl) T.agg69 rfl rfl kq) ?_
  refine stw 11 (fun β0=>cell (gbk (β0 13)) [sl 1 intE ((ix t.states (((ix q i).t).toNat)).accept),sl 1 intE ((ix t.states (((ix q i).t).toNat)).next)]) [11] rfl (fun β β' hb=>by first|rw[hb 13 rfl]|(dsimp only;rw[hb 13 rfl])) (fun β0 _ _ _ _ gq gh kq=>sPA (cs':= [sl 1 intE ((ix t.states (((ix q i).t).toNat)).accept),sl 1 intE ((ix t.states (((ix q i).t).toNat)).next)]) (gq.1.trans rfl) (gh.1.trans rfl) (gq.2.1.trans rfl) T.agg69 rfl rfl kq) ?_
  refine pnH fun β0=>(nl (th (sq (rg (ag (nl (th (sq (sq (rg (fP rfl T.fld69_0 (lP rfl rfl rfl T.one28 (fc (slenI 46 rfl) fun hm46=>(lnF rfl T.sl28 (mv (nl (th (bk ?_))))))))))))))))))
  have hI1_0:0≤(ix s.states (ix q i).s.toNat).accept.length:=by
   first|omega|simp
  have hI1_1:(0:Int)=orAll ((ix s.states (ix q i).s.toNat).accept.take 0)∧0≤(0:Int)∧(0:Int)<256∧∀u∈(ix s.states (ix q i).s.toNat).accept.take 0,u∈(ix t.states (ix q i).t.toNat).accept:=by
   exact⟨rfl,by omega,by omega,fun u hu=>by cases hu⟩
  refine lp (κ:=Nat × Int) (fun p=> [(2,ptr 2 b2 0),(3,ptr 3 b3 0),(4,ptr 4 b4 0),(7,ptr 7 b7 0),(8,ptr 8 c8 0),(10,ptr 10 (gbk (β0 12)) 0),(11,ptr 11 (gbk (β0 13)) 0),(12,int p.2),(46,sl 1 intE ((ix s.states (((ix q i).s).toNat)).accept)),(47,int (((ix s.states (((ix q i).s).toNat)).accept).length:Int)),(48,int (p.1:Int))]) (fun p=> [(2,cell b2 [sl 1 strE s.actions,sl 2 stateE s.states]),(3,cell b3 [sl 1 strE t.actions,sl 2 stateE t.states]),(4,cell b4 [osl 21 v]),(7,cell b7 [mpv 17 b17]),(8,cell c8 [int (i:Int)]),(9,cell b9 [int ((ix q i).s),int ((ix q i).t)]),(10,cell (gbk (β0 12)) [sl 1 intE ((ix s.states (((ix q i).s).toNat)).accept),sl 1 intE ((ix s.states (((ix q i).s).toNat)).next)]),(11,cell (gbk (β0 13)) [sl 1 intE ((ix t.states (((ix q i).t).toNat)).accept),sl 1 intE ((ix t.states (((ix q i).t).toNat)).next)]),(17,mp b17 pairV pairD blV mm),(21,own v 116 4 metE q)]) (fun p=>(p.1≤(ix s.states (ix q i).s.toNat).accept.length)∧(p.2=orAll ((ix s.states (ix q i).s.toNat).accept.take p.1)∧0≤p.2∧p.2<256∧∀u∈(ix s.states (ix q i).s.toNat).accept.take p.1,u∈(ix t.states (ix q i).t.toNat).accept)) (fun p=>(ix s.states (ix q i).s.toNat).accept.length- p.1) ⟨0,(0:Int)⟩ ⟨hI1_0,hI1_1⟩ ⟨id,id,id,id,id,id,id,id,id,id,id,trivial⟩ ⟨⟨rfl,id⟩,⟨rfl,id⟩,⟨rfl,id⟩,⟨rfl,id⟩,⟨rfl,id⟩,⟨rfl,id⟩,⟨rfl,id⟩,⟨rfl,id⟩,⟨rfl,id⟩,⟨rfl,id⟩,trivial⟩ ?_
  intro⟨k1,cn⟩ hG1
  obtain⟨hk1,hI1⟩:(k1≤(ix s.states (ix q i).s.toNat).accept.length)∧(cn=orAll ((ix s.states (ix q i).s.toNat).accept.take k1)∧0≤cn∧cn<256∧∀u∈(ix s.states (ix q i).s.toNat).accept.take k1,u∈(ix t.states (ix q i).t.toNat).accept):=hG1
  show Ct _ _ _ _ [(2,ptr 2 b2 0),(3,ptr 3 b3 0),(4,ptr 4 b4 0),(7,ptr 7 b7 0),(8,ptr 8 c8 0),(10,ptr 10 (gbk (β0 12)) 0),(11,ptr 11 (gbk (β0 13)) 0),(12,int cn),(46,sl 1 intE ((ix s.states (((ix q i).s).toNat)).accept)),(47,int (((ix s.states (((ix q i).s).toNat)).accept).length:Int)),(48,int (k1:Int))] [(2,cell b2 [sl 1 strE s.actions,sl 2 stateE s.states]),(3,cell b3 [sl 1 strE t.actions,sl 2 stateE t.states]),(4,cell b4 [osl 21 v]),(7,cell b7 [mpv 17 b17]),(8,cell c8 [int (i:Int)]),(9,cell b9 [int ((ix q i).s),int ((ix q i).t)]),(10,cell (gbk (β0 12)) [sl 1 intE ((ix s.states (((ix q i).s).toNat)).accept),sl 1 intE ((ix s.states (((ix q i).s).toNat)).next)]),(11,cell (gbk (β0 13)) [sl 1 intE ((ix t.states (((ix q i).t).toNat)).accept),sl 1 intE ((ix t.states (((ix q i).t).toNat)).next)]),(17,mp b17 pairV pairD blV mm),(21,own v 116 4 metE q)] _
  refine sq (rg (bi rfl rfl b_lss (nl (th (sq ?_)))))
  refine cd rfl (fun hc1=> ?_) (fun hc1=> ?_)
  ·try simp at hc1
   have hkb:=hsx.ac k1 (by omega)
   refine sk (th (sq (bk (sq (rg (iF rfl rfl T.sl28 (by omega) (by first|exact gN (by omega)|exact gI (by omega) (by omega)) (lF rfl rfl T.one3 (ag (nl (th (sq (sq (rg (lPA rfl rfl T.agg69 rfl (mv (cal0 (φs:= [agg [sl 1 intE ((ix t.states (((ix q i).t).toNat)).accept),sl 1 intE ((ix t.states (((ix q i).t).toNat)).next)],int (ix ((ix s.states (((ix q i).s).toNat)).accept) k1)]) (φ:=bl (decide ((ix ((ix s.states (((ix q i).s).toNat)).accept) k1)∈(ix t.states (((ix q i).t).toNat)).accept))) ⟨rfl,rfl,trivial⟩ (search.Accepts_ok (ix t.states (((ix q i).t).toNat)) (ht.st _ (by omega)).rise (ix ((ix s.states (((ix q i).s).toNat)).accept) k1)) T.ent79 (no rfl (nl (th ?_)))))))))))))))))))
   refine cd rfl (fun hc2=> ?_) (fun hc2=> ?_)
   ·try simp at hc2
    have hnin:ix (ix s.states (ix q i).s.toNat).accept k1∉(ix t.states (ix q i).t.toNat).accept:=by simpa using hc2
    refine sq ?_
    refine drH (nh:=6) [0,0,0,1,11,31] [(none,[4]),(none,[8]),(none,[]),(some 4,[4,21]),(none,[]),(none,[])] T.mixed (by kernel_rfl) (by kernel_rfl) ?_
    refine stv (d:=56) (fun β1=>osl 21 v) [4] rfl (fun β β' hb=>rfl) (fun β1 _ _ _ _ gq gh kq=>lP (gq.1.trans rfl) (gh.1.trans rfl) rfl T.one105 kq) ?_
    refine stv (d:=57) (fun β1=>int (i:Int)) [8] rfl (fun β β' hb=>rfl) (fun β1 _ _ _ _ gq gh kq=>lP (gq.1.trans rfl) (gh.1.trans rfl) rfl T.one3 kq) ?_
    refine stv (d:=58) (fun β1=>int (ix ((ix s.states (((ix q i).s).toNat)).accept) k1)) [] rfl (fun β β' hb=>rfl) (fun β1 _ _ _ _ gq gh kq=>mv' (gq.1.trans rfl) kq) ?_
    refine stw 4 (fun β1=>cell b4 [osl 21 v]) [4,21] rfl (fun β β' hb=>rfl) (fun β1 _ _ _ _ gq gh kq=>storePO (gq.1.trans rfl) (gh.1.trans rfl) (gq.2.1.trans rfl) (gh.2.1.trans rfl) T.one105 rfl kq) ?_
    refine stv (d:=5) (fun β1=>int (i:Int)) [] rfl (fun β β' hb=>rfl) (fun β1 _ _ _ _ gq gh kq=>ag' (gq.1.trans rfl) kq) ?_
    refine stv (d:=6) (fun β1=>int (ix ((ix s.states (((ix q i).s).toNat)).accept) k1)) [] rfl (fun β β' hb=>rfl) (fun β1 _ _ _ _ gq gh kq=>ag' (gq.1.trans rfl) kq) ?_
    refine pnH fun β1=>(nl (th (rt (rt_ (rb (rt_ (rt_ (rb (rt_ (rb (rt_ (rt_ (rb (rt_ ?_))))))))))))))
    refine fzcA 4 21 0 rfl rfl rfl rfl ?_
    exact rE ⟨(q,(i:Int),ix (ix s.states (ix q i).s.toNat).accept k1),walk_no hq (by omega) (ix_mem (by omega)) hnin⟩ [.cell 4 105,.tmp 5,.tmp 6] rfl [sl 4 metE q,int (i:Int),int (ix ((ix s.states (((ix q i).s).toNat)).accept) k1)] ⟨.one rfl rfl T.one105 rfl,.tmp rfl,.tmp rfl,trivial⟩ (rfl) trivial (by first|exact .inr rfl|exact .inl rfl)
   ·try simp at hc2
    have hin:ix (ix s.states (ix q i).s.toNat).accept k1∈(ix t.states (ix q i).t.toNat).accept:=by simpa using hc2
    refine sk (th (rg (mv (mv (bi rfl rfl (b_orI (by omega) (by omega) (by omega) (by omega)) (ag (nl (eb (th (rg (bi rfl rfl (b_add (by unfold I64;omega)) (mv (nl ?_)))))))))))))
    have hN0:(k1+1)≤(ix s.states (ix q i).s.toNat).accept.length:=by
     first|omega|simp_all
    have hN1:((cn.toNat|||((ix ((ix s.states (((ix q i).s).toNat)).accept) k1).toNat):Nat):Int)=orAll ((ix s.states (ix q i).s.toNat).accept.take (k1+1))∧0≤((cn.toNat|||((ix ((ix s.states (((ix q i).s).toNat)).accept) k1).toNat):Nat):Int)∧((cn.toNat|||((ix ((ix s.states (((ix q i).s).toNat)).accept) k1).toNat):Nat):Int)<256∧∀u∈(ix s.states (ix q i).s.toNat).accept.take (k1+1),u∈(ix t.states (ix q i).t.toNat).accept:=by
     refine⟨?_,by omega,or_lt256 hI1.2.2.1 hkb.2,fun u hu=> ?_⟩
     ·rw[take_s (by omega),orAll_snoc,←hI1.1]
     ·rcases mem_take_ix (by omega) hu with h|h
      ·exact hI1.2.2.2 u h
      ·rw[h];exact hin
    exact ln (⟨k1+1,((cn.toNat|||((ix ((ix s.states (((ix q i).s).toNat)).accept) k1).toNat):Nat):Int)⟩:Nat × Int) ⟨hN0,hN1⟩ (by first|omega|(dsimp only;omega)) ⟨id,id,id,id,id,id,id,id,id,id,id,trivial⟩ ⟨⟨rfl,id⟩,⟨rfl,id⟩,⟨rfl,id⟩,⟨rfl,id⟩,⟨rfl,id⟩,⟨rfl,id⟩,⟨rfl,id⟩,⟨rfl,id⟩,⟨rfl,id⟩,⟨rfl,id⟩,trivial⟩
  ·try simp at hc1
   have hcn:cn=orAll (ix s.states (ix q i).s.toNat).accept:=by rw[hI1.1,show k1=(ix s.states (ix q i).s.toNat).accept.length by omega,List.take_length]
   have hall:∀u∈acc s (ix q i).s.toNat,u∈acc t (ix q i).t.toNat:=fun u hu=>hI1.2.2.2 u (by rw[show k1=(ix s.states (ix q i).s.toNat).accept.length by omega,List.take_length];exact hu)
   refine ex (xt_ (xt_ (xb (th (sq (rg (mv (cal0 (φs:= [int cn]) (φ:=clo 115 [fp [int cn]]) ⟨rfl,trivial⟩ (prog3.In_ok cn) T.ent95 (nl (th (bk ?_)))))))))))
   have hR0:Mid s t q i cn 0 q mm:=by
    exact⟨hq,hsm,List.prefix_rfl,hdone,fun a ha=>by cases ha⟩
   refine rf (κ:=Value × (List Mt) × (List ((Int × Int) × Bool))) 900 (fun p=> [(2,cell b2 [sl 1 strE s.actions,sl 2 stateE s.states]),(3,cell b3 [sl 1 strE t.actions,sl 2 stateE t.states]),(4,cell b4 [osl 21 p.1]),(7,cell b7 [mpv 17 b17]),(8,cell c8 [int (i:Int)]),(9,cell b9 [int ((ix q i).s),int ((ix q i).t)]),(10,cell (gbk (β0 12)) [sl 1 intE ((ix s.states (((ix q i).s).toNat)).accept),sl 1 intE ((ix s.states (((ix q i).s).toNat)).next)]),(11,cell (gbk (β0 13)) [sl 1 intE ((ix t.states (((ix q i).t).toNat)).accept),sl 1 intE ((ix t.states (((ix q i).t).toNat)).next)]),(17,mp b17 pairV pairD blV p.2.2),(21,own p.1 116 4 metE p.2.1)]) (fun iR p=>Mid s t q i cn iR p.2.1 p.2.2) (fun c p=>False) rfl (InIt cn (by omega) (by omega)) T.ent115 rfl (fun _=>rfl) (fun _=>rfl) ⟨v,q,mm⟩ hR0 ⟨⟨rfl,id⟩,⟨rfl,id⟩,⟨rfl,id⟩,⟨rfl,id⟩,⟨rfl,id⟩,⟨rfl,id⟩,⟨rfl,id⟩,⟨rfl,id⟩,⟨rfl,id⟩,⟨rfl,id⟩,trivial⟩ ?_ ?_ (fun k h=>h.elim) (fun id k h=>h.elim) (fun c k h=>h.elim)
   ·intro m0 ⟨v2,q2,mm2⟩ x0 hG0 hx0 l R w1 M1 F1 hRd
    have hR0:Mid s t q i cn m0 q2 mm2:=hG0
    show Ct _ _ _ _ _ ((900,obj l (.loop R)):: [(2,cell b2 [sl 1 strE s.actions,sl 2 stateE s.states]),(3,cell b3 [sl 1 strE t.actions,sl 2 stateE t.states]),(4,cell b4 [osl 21 v2]),(7,cell b7 [mpv 17 b17]),(8,cell c8 [int (i:Int)]),(9,cell b9 [int ((ix q i).s),int ((ix q i).t)]),(10,cell (gbk (β0 12)) [sl 1 intE ((ix s.states (((ix q i).s).toNat)).accept),sl 1 intE ((ix s.states (((ix q i).s).toNat)).next)]),(11,cell (gbk (β0 13)) [sl 1 intE ((ix t.states (((ix q i).t).toNat)).accept),sl 1 intE ((ix t.states (((ix q i).t).toNat)).next)]),(17,mp b17 pairV pairD blV mm2),(21,own v2 116 4 metE q2)]) _
    obtain⟨a,rfl,ha63,hha⟩:=listOf_get hx0
    have hha2:=hha
    rw[hcn] at hha2
    have g1:=or_go hT (x:=(ix q i).s.toNat) (by omega) hha2
    have g2:=acc_go hT ht (x:=(ix q i).s.toNat) (y:=(ix q i).t.toNat) (by omega) (by omega) hall hha2
    obtain⟨g1a,g1b,g1c⟩:=g1
    obtain⟨g2a,g2b,g2c⟩:=g2
    dsimp only [nxt] at g1b g1c g2b g2c
    have hq2l:=WalkM.q_len hR0.qi
    refine rg (ag (nl (aq hRd rfl (bk (sq ?_)))))
    refine drH (nh:=13) [0,1,0,7,15,0,32,0,224,480,1023,0,4095] [(none,[]),(none,[10]),(none,[]),(none,[]),(none,[]),(none,[]),(none,[11]),(none,[]),(none,[]),(none,[]),(none,[]),(some 16,[]),(some 16,[16])] T.mixed (by kernel_rfl) (by kernel_rfl) ?_
    refine stv (d:=66) (fun β2=>ptr 10 (gbk (β0 12)) 1) [] rfl (fun β β' hb=>rfl) (fun β2 _ _ _ _ gq gh kq=>fP (gq.1.trans rfl) T.fld69_1 kq) ?_
    refine stv (d:=67) (fun β2=>sl 1 intE ((ix s.states (((ix q i).s).toNat)).next)) [10] rfl (fun β β' hb=>rfl) (fun β2 _ _ _ _ gq gh kq=>lP (gq.1.trans rfl) (gh.1.trans rfl) rfl T.one28 kq) ?_
    refine stv (d:=68) (fun β2=>int (a:Int)) [] rfl (fun β β' hb=>rfl) (fun β2 _ _ _ _ gq gh kq=>mv' (gq.1.trans rfl) kq) ?_
    refine stv (d:=69) (fun β2=>fp [int (ix ((ix s.states (((ix q i).s).toNat)).next) a)]) [] rfl (fun β β' hb=>rfl) (fun β2 _ _ _ _ gq gh kq=>iF (gq.1.trans rfl) (gq.2.1.trans rfl) T.sl28 (by omega) (by first|exact gN (by omega)|exact gI (by omega) (by omega)) kq) ?_
    refine stv (d:=70) (fun β2=>int (ix ((ix s.states (((ix q i).s).toNat)).next) a)) [] rfl (fun β β' hb=>rfl) (fun β2 _ _ _ _ gq gh kq=>lF (gq.1.trans rfl) rfl T.one3 kq) ?_
    refine stv (d:=71) (fun β2=>ptr 11 (gbk (β0 13)) 1) [] rfl (fun β β' hb=>rfl) (fun β2 _ _ _ _ gq gh kq=>fP (gq.1.trans rfl) T.fld69_1 kq) ?_
    refine stv (d:=72) (fun β2=>sl 1 intE ((ix t.states (((ix q i).t).toNat)).next)) [11] rfl (fun β β' hb=>rfl) (fun β2 _ _ _ _ gq gh kq=>lP (gq.1.trans rfl) (gh.1.trans rfl) rfl T.one28 kq) ?_
    refine stv (d:=73) (fun β2=>int (a:Int)) [] rfl (fun β β' hb=>rfl) (fun β2 _ _ _ _ gq gh kq=>mv' (gq.1.trans rfl) kq) ?_
    refine stv (d:=74) (fun β2=>fp [int (ix ((ix t.states (((ix q i).t).toNat)).next) a)]) [] rfl (fun β β' hb=>rfl) (fun β2 _ _ _ _ gq gh kq=>iF (gq.1.trans rfl) (gq.2.1.trans rfl) T.sl28 (by omega) (by first|exact gN (by omega)|exact gI (by omega) (by omega)) kq) ?_
    refine stv (d:=75) (fun β2=>int (ix ((ix t.states (((ix q i).t).toNat)).next) a)) [] rfl (fun β β' hb=>rfl) (fun β2 _ _ _ _ gq gh kq=>lF (gq.1.trans rfl) rfl T.one3 kq) ?_
    refine stv (d:=76) (fun β2=>agg [int (ix ((ix s.states (((ix q i).s).toNat)).next) a),int (ix ((ix t.states (((ix q i).t).toNat)).next) a)]) [] rfl (fun β β' hb=>rfl) (fun β2 _ _ _ _ gq gh kq=>bd (css:= [(0,_),(1,_)]) T.st114 (ex_cons (ex_cons (ex_nil))) ⟨rfl,rfl,p1 (φ:=int (ix ((ix s.states (((ix q i).s).toNat)).next) a)) (by exact(gq.1.trans rfl)),⟨rfl,rfl,p1 (φ:=int (ix ((ix t.states (((ix q i).t).toNat)).next) a)) (by exact(gq.2.1.trans rfl)),trivial⟩⟩ kq) ?_
    refine sta 16 T.z114 (ex_cons (ex_cons (ex_nil))) ?_
    refine stw 16 (fun β2=>cell (gbk (β2 11)) [int (ix ((ix s.states (((ix q i).s).toNat)).next) a),int (ix ((ix t.states (((ix q i).t).toNat)).next) a)]) [16] rfl (fun β β' hb=>by first|rw[hb 11 rfl]|(dsimp only;rw[hb 11 rfl])) (fun β2 _ _ _ _ gq gh kq=>sPA (cs':= [int (ix ((ix s.states (((ix q i).s).toNat)).next) a),int (ix ((ix t.states (((ix q i).t).toNat)).next) a)]) (gq.1.trans rfl) (gh.1.trans rfl) (gq.2.1.trans rfl) T.agg114 rfl rfl kq) ?_
    refine pnH fun β2=>(nl (th (sq (rg (lP rfl rfl rfl T.one151 (lPA rfl rfl T.agg114 rfl (lookup (z:=false) (q:=(ix ((ix s.states (((ix q i).s).toNat)).next) a,ix ((ix t.states (((ix q i).t).toNat)).next) a)) rfl rfl agg_pair T.map151 ⟨⟨by omega,by omega⟩,⟨by omega,by omega⟩⟩ T.zvb4 (no rfl (nl (th ?_))))))))))
    refine cd rfl (fun hc3=> ?_) (fun hc3=> ?_)
    ·try simp at hc3
     refine sq (rg (lP rfl rfl rfl T.one151 (lPA rfl rfl T.agg114 rfl (mapUpdate (q:=(ix ((ix s.states (((ix q i).s).toNat)).next) a,ix ((ix t.states (((ix q i).t).toNat)).next) a)) (u:=true) rfl rfl agg_pair rfl T.map151 ⟨⟨by omega,by omega⟩,⟨by omega,by omega⟩⟩ (nl (th (rg (lP rfl rfl rfl T.one105 (lPA rfl rfl T.agg114 rfl (lP rfl rfl rfl T.one3 (mv (bd (css:= [(0,_),(2,_),(3,_)]) T.st116 (ex_cons (ex_cons (ex_cons (ex_cons (ex_nil))))) ⟨rfl,rfl,pA (cs:= [int (ix ((ix s.states (((ix q i).s).toNat)).next) a),int (ix ((ix t.states (((ix q i).t).toNat)).next) a)]) rfl,⟨rfl,rfl,p1 (φ:=int (i:Int)) rfl,⟨rfl,rfl,p1 (φ:=int (a:Int)) rfl,trivial⟩⟩⟩ (bsE (enc:=metE) (xs:= [⟨(ix ((ix s.states (((ix q i).s).toNat)).next) a),(ix ((ix t.states (((ix q i).t).toNat)).next) a),(i:Int),(a:Int)⟩]) (css:= [[int (ix ((ix s.states (((ix q i).s).toNat)).next) a),int (ix ((ix t.states (((ix q i).t).toNat)).next) a),int (i:Int),int (a:Int)]]) T.mk105 ⟨rfl,rfl,pA (cs:= [int (ix ((ix s.states (((ix q i).s).toNat)).next) a),int (ix ((ix t.states (((ix q i).t).toNat)).next) a),int (i:Int),int (a:Int)]) rfl,trivial⟩ rfl rfl rfl rfl (ap (key:=21) (zs:= [⟨(ix ((ix s.states (((ix q i).s).toNat)).next) a),(ix ((ix t.states (((ix q i).t).toNat)).next) a),(i:Int),(a:Int)⟩]) osl_eq rfl rfl rfl T.mk105 (by unfold maxL at*;simp;omega) (by unfold maxL at*;simp;omega) fun v89=>(storePO rfl rfl rfl rfl T.one105 rfl (nl (eb ?_)))))))))))))))))
     have hN0:Mid s t q i cn (m0+1) (q2++ [⟨(ix ((ix s.states (((ix q i).s).toNat)).next) a),(ix ((ix t.states (((ix q i).t).toNat)).next) a),(i:Int),(a:Int)⟩]) (mset mm2 (ix ((ix s.states (((ix q i).s).toNat)).next) a,ix ((ix t.states (((ix q i).t).toNat)).next) a) true):=by
      exact mid_push hT ht hR0 (by omega) hcn hall hx0 (by simpa using hc3)
     exact rqN ⟨v89,q2++ [⟨(ix ((ix s.states (((ix q i).s).toNat)).next) a),(ix ((ix t.states (((ix q i).t).toNat)).next) a),(i:Int),(a:Int)⟩],mset mm2 (ix ((ix s.states (((ix q i).s).toNat)).next) a,ix ((ix t.states (((ix q i).t).toNat)).next) a) true⟩ hN0 ⟨⟨rfl,id⟩,⟨rfl,id⟩,⟨rfl,id⟩,⟨rfl,id⟩,⟨rfl,id⟩,⟨rfl,id⟩,⟨rfl,id⟩,⟨rfl,id⟩,⟨rfl,id⟩,⟨rfl,id⟩,⟨rfl,id⟩,trivial⟩
    ·try simp at hc3
     refine sk (eb ?_)
     have hN0:Mid s t q i cn (m0+1) q2 mm2:=by
      exact mid_skip hR0 hx0 (by simpa using hc3)
     exact rqN ⟨v2,q2,mm2⟩ hN0 ⟨⟨rfl,id⟩,⟨rfl,id⟩,⟨rfl,id⟩,⟨rfl,id⟩,⟨rfl,id⟩,⟨rfl,id⟩,⟨rfl,id⟩,⟨rfl,id⟩,⟨rfl,id⟩,⟨rfl,id⟩,⟨rfl,id⟩,trivial⟩
   ·intro⟨v2,q2,mm2⟩ hG0
    have hR0:Mid s t q i cn ((listOf 63 cn).length) q2 mm2:=hG0
    show At _ _ _ _ [(2,cell b2 [sl 1 strE s.actions,sl 2 stateE s.states]),(3,cell b3 [sl 1 strE t.actions,sl 2 stateE t.states]),(4,cell b4 [osl 21 v2]),(7,cell b7 [mpv 17 b17]),(8,cell c8 [int (i:Int)]),(9,cell b9 [int ((ix q i).s),int ((ix q i).t)]),(10,cell (gbk (β0 12)) [sl 1 intE ((ix s.states (((ix q i).s).toNat)).accept),sl 1 intE ((ix s.states (((ix q i).s).toNat)).next)]),(11,cell (gbk (β0 13)) [sl 1 intE ((ix t.states (((ix q i).t).toNat)).accept),sl 1 intE ((ix t.states (((ix q i).t).toNat)).next)]),(17,mp b17 pairV pairD blV mm2),(21,own v2 116 4 metE q2)]
    refine eb (eb (th (sq (sq (rg (lP rfl rfl rfl T.one3 (nl (th (rg (al (key:=8) T.z3 (ex_cons (ex_nil)) fun b8=>(sP (φ:=int (i:Int)) rfl rfl rfl T.one3 rfl (nl (th (rg (lP rfl rfl rfl T.one3 (bi rfl rfl (b_add (by unfold I64;omega)) (sP (φ:=int ((i+1:Nat):Int)) rfl rfl rfl T.one3 rfl (nl ?_))))))))))))))))))
    have hN0:QInv s t q2∧smap mm2 q2∧(i+1)≤q2.length∧∀k,k<(i+1)→Done s t q2 k:=by
     exact mid_end hT hq hR0 (by omega) hcn hall
    exact ln (⟨i+1,b8,v2,q2,mm2⟩:Nat × Nat × Value × (List Mt) × (List ((Int × Int) × Bool))) hN0 (by first|omega|(dsimp only;omega)) ⟨id,id,id,id,id,trivial⟩ ⟨⟨rfl,id⟩,⟨rfl,id⟩,⟨rfl,id⟩,⟨rfl,id⟩,⟨rfl,id⟩,⟨rfl,id⟩,⟨rfl,id⟩,trivial⟩
 ·try simp at hc0
  refine ex (xt_ (xt_ (xb (th (sq (rg (lP rfl rfl rfl T.one105 (fz 21 91 rfl rfl (sP (φ:=sl 4 metE q) rfl rfl rfl T.one105 rfl (ag (ag (nl (th (rt ?_))))))))))))))
  exact rE ⟨(q,-1,0),⟨hq,fun _=>⟨walk_yes hq (fun k hk=>hdone k (by omega)),fun k hk=>hdone k (by have hk:k<q.length:=hk;omega)⟩,fun h=>absurd (show(0:Int)≤ -1 from h) (by decide)⟩⟩ [.cell 4 105,.tmp 5,.tmp 6] rfl [sl 4 metE q,int (-1),int 0] ⟨.one rfl rfl T.one105 rfl,.tmp rfl,.tmp rfl,trivial⟩ (rfl) trivial (by first|exact .inr rfl|exact .inl rfl)
end refw
end Go.Proofs.YtolpjmllmlahfaaDoor
namespace Go.Proofs.YtolpjmllmlahfaaDoor
open AL Go
set_option maxRecDepth 100000
set_option linter.all false
open ref01 ref03 ref04 ref06 prog2 Part TurnM
def nxE:List Int × Value→List AV:=fun p=> [ints p.1,eqv (sv p.2)]
instance (x:List Int × Value):OneAll (nxE x):=inferInstanceAs (OneAll [ints x.1,eqv (sv x.2)])
abbrev NxI (s:SSpec):Type:= { i:Value × List (List Int × Value)//i.2.map Prod.fst=s.states.map SState.accept }
def stepS (s:SSpec) (x a:Int):Int:=if x<0 then-1 else ix (ix s.states x.toNat).next a.toNat
def goS (s:SSpec) (l:List Int):Int:=l.foldl (stepS s) 0
theorem go_succ {s:SSpec} {l:List Int} {k:Nat} (h:k<l.length):(l.take (k+1)).foldl (stepS s) 0=stepS s ((l.take k).foldl (stepS s) 0) (ix l k):=by
 rw[take_s h,List.foldl_append];rfl
namespace T
theorem ent45:Ent Tryd.prog 45:=ent_of (by kernel_rfl)
end T
namespace starts
theorem CopyN_ok (s:SSpec) (hs:size s≤1000000):
 AL.Fn Tryd.prog 14 [spec s] [] (fun _ (i:NxI s)=>agg [strs s.actions,osl 230 (sv i.1.1)]) (fun i=> [(230,own (sv i.1.1) 69 2 nxE i.1.2),(231,bigown (i.1.2.map sv2) 3 1 intE (s.states.map SState.next) none)]):=by
 refine fnI Tryd.func14 rfl rfl (fun w0 F0=> ?_)
 obtain⟨hb0,hb1⟩:=size_bd s
 refine fcC (inhS 0 rfl) (fun hS0=> ?_)
 obtain⟨hsa0,hss0,hse0⟩:=spec_lens hS0
 refine sq (rg (bx (key:=1) (cs:= [sl 1 strE s.actions,sl 2 stateE s.states]) rfl fun b1=>(al (key:=2) T.z25 (ex_cons (ex_cons (ex_nil))) fun b2=>(nl (th (sq (rg (fP rfl T.fld25_0 (lP rfl rfl rfl T.one22 (appendF (enc:=strE) (ys:=s.actions) rfl rfl T.mk22 (by unfold maxL;omega) (bd (css:= [(0,_)]) T.st25 (ex_cons (ex_cons (ex_nil))) ⟨rfl,rfl,p1 (φ:=sl 1 strE s.actions) rfl,trivial⟩ (al (key:=3) T.z25 (ex_cons (ex_cons (ex_nil))) fun b3=>(sPA (cs':= [sl 1 strE s.actions,eqv (.slice none 0 0)]) rfl rfl rfl T.agg25 rfl rfl (nl (th (sq (sq (rg (fP rfl T.fld25_1 (lP rfl rfl rfl T.one23 (fc (slenI 11 rfl) fun hm11=>(lnF rfl T.sl23 (mv (nl (th (bk ?_))))))))))))))))))))))))))
 refine nwC 230 69 2 nxE (kncC 3 1 (osl 230 (.slice none 0 0)) rfl rfl eq_osl (nbBC 231 0 3 1 intE ?_))
 have hI0_0:0≤s.states.length:=by
  first|omega|simp
 have hI0_1:([]:List (List Int × Value)).map Prod.fst=(s.states.take 0).map SState.accept∧([]:List (List Int))=(s.states.take 0).map SState.next:=by
  exact⟨rfl,rfl⟩
 refine lp (κ:=Nat × Value × (List (List Int × Value)) × (List (List Int))) (fun p=> [(2,ptr 2 b2 0),(3,ptr 3 b3 0),(11,sl 2 stateE s.states),(12,int (s.states.length:Int)),(13,int (p.1:Int))]) (fun p=> [(1,cell b1 [sl 1 strE s.actions,sl 2 stateE s.states]),(2,cell b2 [eqv (.slice none 0 0),eqv (.slice none 0 0)]),(3,cell b3 [sl 1 strE s.actions,osl 230 p.2.1]),(230,own p.2.1 69 2 nxE p.2.2.1),(231,bigown (p.2.2.1.map sv2) 3 1 intE p.2.2.2 none)]) (fun p=>(p.1≤s.states.length)∧(p.2.2.1.map Prod.fst=(s.states.take p.1).map SState.accept∧p.2.2.2=(s.states.take p.1).map SState.next)) (fun p=>s.states.length- p.1) ⟨0,(.slice none 0 0),([]:List (List Int × Value)),([]:List (List Int))⟩ ⟨hI0_0,hI0_1⟩ ⟨id,id,id,id,id,trivial⟩ ⟨⟨rfl,id⟩,⟨rfl,id⟩,⟨rfl,id⟩,⟨rfl,id⟩,⟨rfl,id⟩,trivial⟩ ?_
 intro⟨k,v,ps,nss⟩ hG0
 obtain⟨hk0,hI0⟩:(k≤s.states.length)∧(ps.map Prod.fst=(s.states.take k).map SState.accept∧nss=(s.states.take k).map SState.next):=hG0
 show Ct _ _ _ _ [(2,ptr 2 b2 0),(3,ptr 3 b3 0),(11,sl 2 stateE s.states),(12,int (s.states.length:Int)),(13,int (k:Int))] [(1,cell b1 [sl 1 strE s.actions,sl 2 stateE s.states]),(2,cell b2 [eqv (.slice none 0 0),eqv (.slice none 0 0)]),(3,cell b3 [sl 1 strE s.actions,osl 230 v]),(230,own v 69 2 nxE ps),(231,bigown (ps.map sv2) 3 1 intE nss none)] _
 have hlen:ps.length≤k:=by have:=congrArg List.length hI0.1;simp at this;omega
 refine sq (rg (bi rfl rfl b_lss (nl (th (sq ?_)))))
 refine cd rfl (fun hc0=> ?_) (fun hc0=> ?_)
 ·try simp at hc0
  have hb2:=hb1 k (by omega)
  refine sk (th (sq (bk (sq (rg (iF rfl rfl T.sl23 (by omega) (by first|exact gN (by omega)|exact gI (by omega) (by omega)) (lFA rfl T.agg69 (Nat.le_of_ble_eq_true rfl) (al (key:=5) T.z69 (ex_cons (ex_cons (ex_nil))) fun b5=>(sPA (cs':= [sl 1 intE ((ix s.states k).accept),sl 1 intE ((ix s.states k).next)]) rfl rfl rfl T.agg69 rfl rfl (nl (th ?_)))))))))))
  refine drH (nh:=10) [0,1,0,4,12,0,32,124,252,508,1023,2047,4095] [(none,[]),(none,[3]),(none,[]),(none,[5]),(none,[]),(none,[]),(none,[5]),(some 240,[]),(none,[]),(none,[])] T.mixed (by kernel_rfl) (by kernel_rfl) ?_
  refine stv (d:=17) (fun β0=>ptr 3 b3 1) [] rfl (fun β β' hb=>rfl) (fun β0 _ _ _ _ gq gh kq=>fP (gq.1.trans rfl) T.fld25_1 kq) ?_
  refine stv (d:=18) (fun β0=>osl 230 v) [3] rfl (fun β β' hb=>rfl) (fun β0 _ _ _ _ gq gh kq=>lP (gq.1.trans rfl) (gh.1.trans rfl) rfl T.one23 kq) ?_
  refine stv (d:=19) (fun β0=>ptr 5 b5 0) [] rfl (fun β β' hb=>rfl) (fun β0 _ _ _ _ gq gh kq=>fP (gq.1.trans rfl) T.fld69_0 kq) ?_
  refine stv (d:=20) (fun β0=>sl 1 intE ((ix s.states k).accept)) [5] rfl (fun β β' hb=>rfl) (fun β0 _ _ _ _ gq gh kq=>lP (gq.1.trans rfl) (gh.1.trans rfl) rfl T.one28 kq) ?_
  refine stv (d:=21) (fun β0=>sl 1 intE ((ix s.states k).accept)) [] rfl (fun β β' hb=>rfl) (fun β0 _ _ _ _ gq gh kq=>appendF (enc:=intE) (ys:=(ix s.states k).accept) rfl (gq.1.trans rfl) T.mk28 (by unfold maxL;omega) kq) ?_
  refine stv (d:=22) (fun β0=>ptr 5 b5 1) [] rfl (fun β β' hb=>rfl) (fun β0 _ _ _ _ gq gh kq=>fP (gq.1.trans rfl) T.fld69_1 kq) ?_
  refine stv (d:=23) (fun β0=>sl 1 intE ((ix s.states k).next)) [5] rfl (fun β β' hb=>rfl) (fun β0 _ _ _ _ gq gh kq=>lP (gq.1.trans rfl) (gh.1.trans rfl) rfl T.one28 kq) ?_
  refine stc (d:=24) (e:=3) (n:=1) (enc:=intE) (xs:=(ix s.states k).next) 240 [] rfl (fun β0 _ _ _ _ gq gh kq=>apO 240 (gq.1.trans rfl) rfl T.mk28 (by unfold maxL at*;omega) (by unfold maxL at*;omega) fun v=>kq v) ?_
  refine stv (d:=25) (fun β0=>agg [sl 1 intE ((ix s.states k).accept),eqv (sv (sv (β0 7)))]) [] rfl (fun β β' hb=>by first|rw[hb 7 rfl]|(dsimp only;rw[hb 7 rfl])) (fun β0 _ _ _ _ gq gh kq=>bd (css:= [(0,_),(1,_)]) T.st69 (ex_cons (ex_cons (ex_nil))) ⟨rfl,rfl,p1 (φ:=sl 1 intE ((ix s.states k).accept)) (by exact(gq.1.trans rfl)),⟨rfl,rfl,p1 (φ:=osl 240 (sv (β0 7))) (by exact(gq.2.1.trans rfl)),trivial⟩⟩ (kd (φ':=agg [ints (ix s.states k).accept,eqv (sv (sv (β0 7)))]) (agg_le (cs:= [ints (ix s.states k).accept,osl 240 (sv (β0 7))]) (ds:= [ints (ix s.states k).accept,eqv (sv (sv (β0 7)))]) ⟨fun h=>h,fun h=>osl_sv h,trivial⟩) kq)) ?_
  refine stv (d:=26) (fun β0=>sl 2 nxE [((ix s.states k).accept,(sv (β0 7)))]) [] rfl (fun β β' hb=>by first|rw[hb 7 rfl]|(dsimp only;rw[hb 7 rfl])) (fun β0 _ _ _ _ gq gh kq=>bsE (enc:=nxE) (xs:= [((ix s.states k).accept,(sv (β0 7)))]) (css:= [[sl 1 intE ((ix s.states k).accept),eqv (sv (sv (β0 7)))]]) T.mk23 ⟨rfl,rfl,pA (cs:= [sl 1 intE ((ix s.states k).accept),eqv (sv (sv (β0 7)))]) (by exact(gq.1.trans rfl)),trivial⟩ rfl rfl rfl rfl kq) ?_
  refine pnH fun β0=>(ap (key:=230) (zs:= [((ix s.states k).accept,(sv (β0 7)))]) osl_eq rfl rfl rfl T.mk23 (by unfold maxL at*;simp;omega) (by unfold maxL at*;simp;omega) fun v27=>(fP rfl T.fld25_1 (storePO rfl rfl rfl rfl T.one23 rfl (psQ (ps:=ps) ((ix s.states k).accept) 231 240 rfl rfl (by decide) (nl (eb (th (rg (bi rfl rfl (b_add (by unfold I64;omega)) (mv (nl ?_)))))))))))
  have hN0:(k+1)≤s.states.length:=by
   first|omega|simp_all
  have hN1:(ps++ [((ix s.states k).accept,(sv (β0 7)))]).map Prod.fst=(s.states.take (k+1)).map SState.accept∧(nss++ [(ix s.states k).next])=(s.states.take (k+1)).map SState.next:=by
   rw[take_s (by omega),List.map_append,List.map_append,List.map_append,hI0.1,hI0.2]
   exact⟨rfl,rfl⟩
  exact ln (⟨k+1,v27,ps++ [((ix s.states k).accept,(sv (β0 7)))],nss++ [(ix s.states k).next]⟩:Nat × Value × (List (List Int × Value)) × (List (List Int))) ⟨hN0,hN1⟩ (by first|omega|(dsimp only;omega)) ⟨id,id,id,id,id,trivial⟩ ⟨⟨rfl,id⟩,⟨rfl,id⟩,⟨rfl,id⟩,⟨rfl,id⟩,⟨rfl,id⟩,trivial⟩
 ·try simp at hc0
  refine ex (xt_ (xt_ (xb (th (sq (rg (fc (svI 230 rfl) fun hsv230=> ?_)))))))
  rw[←hsv230]
  refine lPA rfl rfl T.agg25 rfl (sPA (cs':= [sl 1 strE s.actions,osl 230 (sv v)]) rfl rfl rfl T.agg25 rfl rfl (nl (th (rt ?_))))
  obtain⟨hp1,hp2⟩:=hI0
  rw[show k=s.states.length by omega,List.take_length] at hp1 hp2
  subst hp2
  exact rE ⟨(v,ps),hp1⟩ [.cell 2 25] rfl [agg [sl 1 strE s.actions,osl 230 (sv v)]] ⟨.agg rfl rfl T.agg25 rfl rfl,trivial⟩ (rfl) ⟨⟨rfl,id⟩,⟨rfl,id⟩,trivial⟩ (by first|exact .inr rfl|exact .inl rfl)
theorem SwappedN_ok (s:SSpec) (hs:okSpec s) (hz:size s≤1000000) (x:Nat) (hx:x<s.states.length):
 Fn0 Tryd.prog 45 [spec s,int (x:Int)] (spec (turnedS s (x:Int))):=by
 refine fnI Tryd.func45 rfl rfl (fun w0 F0=> ?_)
 have hf0:=hs.few0;have hf1:=hs.few1;have hn8:=hs.n8
 refine fcC (inhS 0 rfl) (fun hS0=> ?_)
 obtain⟨hsa0,hss0,hse0⟩:=spec_lens hS0
 refine sq (rg (bx (key:=2) (cs:= [sl 1 strE s.actions,sl 2 stateE s.states]) rfl fun b2=>(al (key:=4) T.z25 (ex_cons (ex_cons (ex_nil))) fun b4=>(nl (th (sq (rg (lPA rfl rfl T.agg25 rfl (cl (CopyN_ok s (by omega)) T.ent14 trivial fun N10 i10=> ?_)))))))))
 have hps:=i10.2
 have hpl:i10.1.2.length=s.states.length:=by simpa using congrArg List.length hps
 refine al (key:=5) T.z25 (ex_cons (ex_cons (ex_nil))) fun b5=>(sPA (cs':= [sl 1 strE s.actions,osl 230 (sv i10.1.1)]) rfl rfl rfl T.agg25 rfl rfl (nl (th (sq ?_))))
 refine drH (nh:=18) [0,1,0,4,0,0,32,0,224,480,0,1024,3072,7168,16355,32739,65535,131071] [(none,[]),(none,[5]),(none,[]),(none,[5]),(none,[]),(none,[]),(none,[5]),(none,[]),(none,[230]),(none,[230]),(none,[]),(none,[5]),(none,[230]),(none,[230]),(none,[230]),(some 230,[230]),(none,[230]),(some 230,[230])] T.mixed (by kernel_rfl) (by kernel_rfl) ?_
 refine stv (d:=11) (fun β0=>ptr 5 b5 1) [] rfl (fun β β' hb=>rfl) (fun β0 _ _ _ _ gq gh kq=>fP (gq.1.trans rfl) T.fld25_1 kq) ?_
 refine stv (d:=12) (fun β0=>osl 230 (sv i10.1.1)) [5] rfl (fun β β' hb=>rfl) (fun β0 _ _ _ _ gq gh kq=>lP (gq.1.trans rfl) (gh.1.trans rfl) rfl T.one23 kq) ?_
 refine stv (d:=13) (fun β0=>ptr 5 b5 1) [] rfl (fun β β' hb=>rfl) (fun β0 _ _ _ _ gq gh kq=>fP (gq.1.trans rfl) T.fld25_1 kq) ?_
 refine stv (d:=14) (fun β0=>osl 230 (sv i10.1.1)) [5] rfl (fun β β' hb=>rfl) (fun β0 _ _ _ _ gq gh kq=>lP (gq.1.trans rfl) (gh.1.trans rfl) rfl T.one23 kq) ?_
 refine stv (d:=15) (fun β0=>int (x:Int)) [] rfl (fun β β' hb=>rfl) (fun β0 _ _ _ _ gq gh kq=>mv' (gq.1.trans rfl) kq) ?_
 refine stv (d:=16) (fun β0=>ptr 5 b5 1) [] rfl (fun β β' hb=>rfl) (fun β0 _ _ _ _ gq gh kq=>fP (gq.1.trans rfl) T.fld25_1 kq) ?_
 refine stv (d:=17) (fun β0=>osl 230 (sv i10.1.1)) [5] rfl (fun β β' hb=>rfl) (fun β0 _ _ _ _ gq gh kq=>lP (gq.1.trans rfl) (gh.1.trans rfl) rfl T.one23 kq) ?_
 refine stv (d:=18) (fun β0=>int (x:Int)) [] rfl (fun β β' hb=>rfl) (fun β0 _ _ _ _ gq gh kq=>mv' (gq.1.trans rfl) kq) ?_
 refine stv (d:=19) (fun β0=>eptr 230 (sv i10.1.1) 2 x 0) [230] rfl (fun β β' hb=>rfl) (fun β0 _ _ _ _ gq gh kq=>iO (gq.1.trans rfl) (gh.1.trans rfl) (gq.2.1.trans rfl) T.sl23 (by omega) (by omega) kq) ?_
 refine stv (d:=20) (fun β0=>agg [sl 1 intE ((ix i10.1.2 x).1),eqv (sv (ix i10.1.2 x).2)]) [230] rfl (fun β β' hb=>rfl) (fun β0 _ _ _ _ gq gh kq=>lOA (gq.1.trans rfl) (gh.1.trans rfl) (by first|exact gN (by omega)|exact gI (by omega) (by omega)) T.agg69 (by decide) kq) ?_
 refine stv (d:=21) (fun β0=>ptr 5 b5 1) [] rfl (fun β β' hb=>rfl) (fun β0 _ _ _ _ gq gh kq=>fP (gq.1.trans rfl) T.fld25_1 kq) ?_
 refine stv (d:=22) (fun β0=>osl 230 (sv i10.1.1)) [5] rfl (fun β β' hb=>rfl) (fun β0 _ _ _ _ gq gh kq=>lP (gq.1.trans rfl) (gh.1.trans rfl) rfl T.one23 kq) ?_
 refine stv (d:=23) (fun β0=>eptr 230 (sv i10.1.1) 2 0 0) [230] rfl (fun β β' hb=>rfl) (fun β0 _ _ _ _ gq gh kq=>iO (gq.1.trans rfl) (gh.1.trans rfl) rfl T.sl23 (by omega) (by omega) kq) ?_
 refine stv (d:=24) (fun β0=>agg [sl 1 intE ((ix i10.1.2 0).1),eqv (sv (ix i10.1.2 0).2)]) [230] rfl (fun β β' hb=>rfl) (fun β0 _ _ _ _ gq gh kq=>lOA (gq.1.trans rfl) (gh.1.trans rfl) (by first|exact gN (by omega)|exact gI (by omega) (by omega)) T.agg69 (by decide) kq) ?_
 refine stv (d:=25) (fun β0=>eptr 230 (sv i10.1.1) 2 0 0) [230] rfl (fun β β' hb=>rfl) (fun β0 _ _ _ _ gq gh kq=>iO (gq.1.trans rfl) (gh.1.trans rfl) rfl T.sl23 (by omega) (by omega) kq) ?_
 refine stw 230 (fun β0=>own (sv i10.1.1) 69 2 nxE (i10.1.2.set 0 (ix i10.1.2 x))) [230] rfl (fun β β' hb=>rfl) (fun β0 _ _ _ _ gq gh kq=>sOA (cs':= [sl 1 intE ((ix i10.1.2 x).1),eqv (sv (ix i10.1.2 x).2)]) (gq.1.trans rfl) (gh.1.trans rfl) (gq.2.1.trans rfl) T.agg69 rfl (gN (by(try simp);omega)) rfl (y':=(ix i10.1.2 x)) rfl kq) ?_
 refine stv (d:=26) (fun β0=>eptr 230 (sv i10.1.1) 2 x 0) [230] rfl (fun β β' hb=>rfl) (fun β0 _ _ _ _ gq gh kq=>iO (gq.1.trans rfl) (gh.1.trans rfl) (gq.2.1.trans rfl) T.sl23 (by omega) (by simp;omega) kq) ?_
 refine stw 230 (fun β0=>own (sv i10.1.1) 69 2 nxE ((i10.1.2.set 0 (ix i10.1.2 x)).set x (ix i10.1.2 0))) [230] rfl (fun β β' hb=>rfl) (fun β0 _ _ _ _ gq gh kq=>sOA (cs':= [sl 1 intE ((ix i10.1.2 0).1),eqv (sv (ix i10.1.2 0).2)]) (gq.1.trans rfl) (gh.1.trans rfl) (gq.2.1.trans rfl) T.agg69 rfl (gN (by(try simp);omega)) rfl (y':=(ix i10.1.2 0)) rfl kq) ?_
 refine pnH fun β0=>(nl (th (sq (sq (rg (swQ 231 0 x rfl (by omega) (by omega) (by simp;omega) (fP rfl T.fld25_1 (lP rfl rfl rfl T.one23 (lnO rfl rfl T.sl23 (mv (nl (th (bk ?_)))))))))))))
 have hI0_0:0≤s.states.length:=by
  first|omega|simp
 have hI0_1:(((s.states.map SState.next).set 0 (ix (s.states.map SState.next) x)).set x (ix (s.states.map SState.next) 0))=((((s.states.map SState.next).set 0 (ix (s.states.map SState.next) x)).set x (ix (s.states.map SState.next) 0)).take 0).map (List.map (swapI (x:Int)))++(((s.states.map SState.next).set 0 (ix (s.states.map SState.next) x)).set x (ix (s.states.map SState.next) 0)).drop 0:=by
  rfl
 refine lp (κ:=Nat × (List (List Int))) (fun p=> [(1,int (x:Int)),(4,ptr 4 b4 0),(5,ptr 5 b5 0),(29,int (((i10.1.2.set 0 (ix i10.1.2 x)).set x (ix i10.1.2 0)).length:Int)),(30,int (p.1:Int))]) (fun p=> [(2,cell b2 [sl 1 strE s.actions,sl 2 stateE s.states]),(4,cell b4 [eqv (.slice none 0 0),eqv (.slice none 0 0)]),(5,cell b5 [sl 1 strE s.actions,osl 230 (sv i10.1.1)]),(230,own (sv i10.1.1) 69 2 nxE ((i10.1.2.set 0 (ix i10.1.2 x)).set x (ix i10.1.2 0))),(231,bigown (((i10.1.2.set 0 (ix i10.1.2 x)).set x (ix i10.1.2 0)).map sv2) 3 1 intE p.2 none)]) (fun p=>(p.1≤s.states.length)∧(p.2=((((s.states.map SState.next).set 0 (ix (s.states.map SState.next) x)).set x (ix (s.states.map SState.next) 0)).take p.1).map (List.map (swapI (x:Int)))++(((s.states.map SState.next).set 0 (ix (s.states.map SState.next) x)).set x (ix (s.states.map SState.next) 0)).drop p.1)) (fun p=>s.states.length- p.1) ⟨0,((s.states.map SState.next).set 0 (ix (s.states.map SState.next) x)).set x (ix (s.states.map SState.next) 0)⟩ ⟨hI0_0,hI0_1⟩ ⟨id,id,id,id,id,trivial⟩ ⟨⟨rfl,id⟩,⟨rfl,id⟩,⟨rfl,id⟩,⟨rfl,id⟩,⟨rfl,id⟩,trivial⟩ ?_
 intro⟨k,ns⟩ hG0
 obtain⟨hk0,hI0⟩:(k≤s.states.length)∧(ns=((((s.states.map SState.next).set 0 (ix (s.states.map SState.next) x)).set x (ix (s.states.map SState.next) 0)).take k).map (List.map (swapI (x:Int)))++(((s.states.map SState.next).set 0 (ix (s.states.map SState.next) x)).set x (ix (s.states.map SState.next) 0)).drop k):=hG0
 show Ct _ _ _ _ [(1,int (x:Int)),(4,ptr 4 b4 0),(5,ptr 5 b5 0),(29,int (((i10.1.2.set 0 (ix i10.1.2 x)).set x (ix i10.1.2 0)).length:Int)),(30,int (k:Int))] [(2,cell b2 [sl 1 strE s.actions,sl 2 stateE s.states]),(4,cell b4 [eqv (.slice none 0 0),eqv (.slice none 0 0)]),(5,cell b5 [sl 1 strE s.actions,osl 230 (sv i10.1.1)]),(230,own (sv i10.1.1) 69 2 nxE ((i10.1.2.set 0 (ix i10.1.2 x)).set x (ix i10.1.2 0))),(231,bigown (((i10.1.2.set 0 (ix i10.1.2 x)).set x (ix i10.1.2 0)).map sv2) 3 1 intE ns none)] _
 have hnsl:ns.length=s.states.length:=by rw[hI0];simp;omega
 have hPl:((i10.1.2.set 0 (ix i10.1.2 x)).set x (ix i10.1.2 0)).length=s.states.length:=by simp;omega
 refine sq (rg (bi rfl rfl b_lss (nl (th (sq ?_)))))
 refine cd rfl (fun hc0=> ?_) (fun hc0=> ?_)
 ·try simp at hc0
  refine sk (th (sq (bk (sq (rg (mv (ag (nl (th (sq (rg (fP rfl T.fld25_1 (lP rfl rfl rfl T.one23 (mv (iO rfl rfl rfl T.sl23 (by omega) (by omega) (fO rfl T.fld69_1 (lO rfl rfl (by first|exact gN (by omega)|exact gI (by omega) (by omega)) rfl T.one28 (tkQ 231 381 k rfl rfl (by decide) (by simp;omega) (gK (by omega)) (kn 38 (osl 381 (sv (ix ((i10.1.2.set 0 (ix i10.1.2 x)).set x (ix i10.1.2 0)) k).2)) rfl eq_osl ?_)))))))))))))))))))
  refine fc (olen 381 rfl) (fun hol=> ?_)
  have hol2:(ix ns k).length≤140737488355328:=hol
  refine lnO rfl rfl T.sl28 (mv (nl (th (bk ?_))))
  have hI1_0:0≤(ix ns k).length:=by
   first|omega|simp
  have hI1_1:(ix ns k)=((ix ns k).take 0).map (swapI (x:Int))++(ix ns k).drop 0:=by
   simp
  refine lp (κ:=Nat × (List Int)) (fun p=> [(1,int (x:Int)),(4,ptr 4 b4 0),(5,ptr 5 b5 0),(6,int (k:Int)),(29,int (((i10.1.2.set 0 (ix i10.1.2 x)).set x (ix i10.1.2 0)).length:Int)),(30,int (k:Int)),(38,osl 381 (sv (ix ((i10.1.2.set 0 (ix i10.1.2 x)).set x (ix i10.1.2 0)) k).2)),(39,int ((ix ns k).length:Int)),(40,int (p.1:Int))]) (fun p=> [(2,cell b2 [sl 1 strE s.actions,sl 2 stateE s.states]),(4,cell b4 [eqv (.slice none 0 0),eqv (.slice none 0 0)]),(5,cell b5 [sl 1 strE s.actions,osl 230 (sv i10.1.1)]),(230,own (sv i10.1.1) 69 2 nxE ((i10.1.2.set 0 (ix i10.1.2 x)).set x (ix i10.1.2 0))),(231,bigown (((i10.1.2.set 0 (ix i10.1.2 x)).set x (ix i10.1.2 0)).map sv2) 3 1 intE ns (some k)),(381,own (sv (ix ((i10.1.2.set 0 (ix i10.1.2 x)).set x (ix i10.1.2 0)) k).2) 3 1 intE p.2)]) (fun p=>(p.1≤(ix ns k).length)∧(p.2=((ix ns k).take p.1).map (swapI (x:Int))++(ix ns k).drop p.1)) (fun p=>(ix ns k).length- p.1) ⟨0,ix ns k⟩ ⟨hI1_0,hI1_1⟩ ⟨id,id,id,id,id,id,id,id,id,trivial⟩ ⟨⟨rfl,id⟩,⟨rfl,id⟩,⟨rfl,id⟩,⟨rfl,id⟩,⟨rfl,id⟩,⟨rfl,id⟩,trivial⟩ ?_
  intro⟨k1,nx⟩ hG1
  obtain⟨hk1,hI1⟩:(k1≤(ix ns k).length)∧(nx=((ix ns k).take k1).map (swapI (x:Int))++(ix ns k).drop k1):=hG1
  show Ct _ _ _ _ [(1,int (x:Int)),(4,ptr 4 b4 0),(5,ptr 5 b5 0),(6,int (k:Int)),(29,int (((i10.1.2.set 0 (ix i10.1.2 x)).set x (ix i10.1.2 0)).length:Int)),(30,int (k:Int)),(38,osl 381 (sv (ix ((i10.1.2.set 0 (ix i10.1.2 x)).set x (ix i10.1.2 0)) k).2)),(39,int ((ix ns k).length:Int)),(40,int (k1:Int))] [(2,cell b2 [sl 1 strE s.actions,sl 2 stateE s.states]),(4,cell b4 [eqv (.slice none 0 0),eqv (.slice none 0 0)]),(5,cell b5 [sl 1 strE s.actions,osl 230 (sv i10.1.1)]),(230,own (sv i10.1.1) 69 2 nxE ((i10.1.2.set 0 (ix i10.1.2 x)).set x (ix i10.1.2 0))),(231,bigown (((i10.1.2.set 0 (ix i10.1.2 x)).set x (ix i10.1.2 0)).map sv2) 3 1 intE ns (some k)),(381,own (sv (ix ((i10.1.2.set 0 (ix i10.1.2 x)).set x (ix i10.1.2 0)) k).2) 3 1 intE nx)] _
  have hnxl:nx.length=(ix ns k).length:=by rw[hI1];simp;omega
  refine sq (rg (bi rfl rfl b_lss (nl (th (sq ?_)))))
  refine cd rfl (fun hc1=> ?_) (fun hc1=> ?_)
  ·try simp at hc1
   have hv:ix nx k1=ix (ix ns k) k1:=by rw[hI1];exact mapd_ix (by omega)
   refine sk (th (sq (bk (sq (rg (mv (iO rfl rfl rfl T.sl28 (by omega) (by omega) (lO rfl rfl (by first|exact gN (by omega)|exact gI (by omega) (by omega)) rfl T.one3 (ag (ag (nl (th (sq (rg (mv (bi rfl rfl b_eql (nl (th ?_))))))))))))))))))
   refine cd rfl (fun hc2=> ?_) (fun hc2=> ?_)
   ·try simp at hc2
    refine rg (fP rfl T.fld25_1 (lP rfl rfl rfl T.one23 (mv (iO rfl rfl rfl T.sl23 (by omega) (by omega) (fO rfl T.fld69_1 (lO rfl rfl (by first|exact gN (by omega)|exact gI (by omega) (by omega)) rfl T.one28 (kn 52 (osl 381 (sv (ix ((i10.1.2.set 0 (ix i10.1.2 x)).set x (ix i10.1.2 0)) k).2)) rfl (eq_osl) (mv (mv (iO rfl rfl rfl T.sl28 (by omega) (by omega) (sO (φ:=int (x:Int)) rfl rfl rfl T.one3 (by first|exact gN (by omega)|exact gI (by omega) (by omega)) rfl (y':=(x:Int)) rfl (nl (eb (th (rg (bi rfl rfl (b_add (by unfold I64;omega)) (mv (nl ?_))))))))))))))))))
    have hN0:(k1+1)≤(ix ns k).length:=by
     first|omega|simp_all
    have hN1:(nx.set k1 (x:Int))=((ix ns k).take (k1+1)).map (swapI (x:Int))++(ix ns k).drop (k1+1):=by
     rw[hI1,←mapd_set (by omega)]
     congr 1
     unfold swapI
     rw[hv] at hc2
     rw[if_pos hc2]
    exact ln (⟨k1+1,nx.set k1 (x:Int)⟩:Nat × (List Int)) ⟨hN0,hN1⟩ (by first|omega|(dsimp only;omega)) ⟨id,id,id,id,id,id,id,id,id,trivial⟩ ⟨⟨rfl,id⟩,⟨rfl,id⟩,⟨rfl,id⟩,⟨rfl,id⟩,⟨rfl,id⟩,⟨rfl,id⟩,trivial⟩
   ·try simp at hc2
    refine sq (rg (mv (mv (bi rfl rfl b_eql (nl (th ?_))))))
    refine cd rfl (fun hc3=> ?_) (fun hc3=> ?_)
    ·try simp at hc3
     refine rg (fP rfl T.fld25_1 (lP rfl rfl rfl T.one23 (mv (iO rfl rfl rfl T.sl23 (by omega) (by omega) (fO rfl T.fld69_1 (lO rfl rfl (by first|exact gN (by omega)|exact gI (by omega) (by omega)) rfl T.one28 (kn 64 (osl 381 (sv (ix ((i10.1.2.set 0 (ix i10.1.2 x)).set x (ix i10.1.2 0)) k).2)) rfl (eq_osl) (mv (iO rfl rfl rfl T.sl28 (by omega) (by omega) (sO (φ:=int 0) rfl rfl rfl T.one3 (by first|exact gN (by omega)|exact gI (by omega) (by omega)) rfl (y':=0) rfl (nl (eb (th (rg (bi rfl rfl (b_add (by unfold I64;omega)) (mv (nl ?_)))))))))))))))))
     have hN0:(k1+1)≤(ix ns k).length:=by
      first|omega|simp_all
     have hN1:(nx.set k1 0)=((ix ns k).take (k1+1)).map (swapI (x:Int))++(ix ns k).drop (k1+1):=by
      rw[hI1,←mapd_set (by omega)]
      congr 1
      unfold swapI
      rw[hv] at hc2 hc3
      rw[if_neg hc2,if_pos hc3]
     exact ln (⟨k1+1,nx.set k1 0⟩:Nat × (List Int)) ⟨hN0,hN1⟩ (by first|omega|(dsimp only;omega)) ⟨id,id,id,id,id,id,id,id,id,trivial⟩ ⟨⟨rfl,id⟩,⟨rfl,id⟩,⟨rfl,id⟩,⟨rfl,id⟩,⟨rfl,id⟩,⟨rfl,id⟩,trivial⟩
    ·try simp at hc3
     refine sk (eb (th (rg (bi rfl rfl (b_add (by unfold I64;omega)) (mv (nl ?_))))))
     have hN0:(k1+1)≤(ix ns k).length:=by
      first|omega|simp_all
     have hN1:nx=((ix ns k).take (k1+1)).map (swapI (x:Int))++(ix ns k).drop (k1+1):=by
      rw[hI1]
      exact mapd_keep (by omega) (by unfold swapI;rw[hv] at hc2 hc3;rw[if_neg hc2,if_neg hc3])
     exact ln (⟨k1+1,nx⟩:Nat × (List Int)) ⟨hN0,hN1⟩ (by first|omega|(dsimp only;omega)) ⟨id,id,id,id,id,id,id,id,id,trivial⟩ ⟨⟨rfl,id⟩,⟨rfl,id⟩,⟨rfl,id⟩,⟨rfl,id⟩,⟨rfl,id⟩,⟨rfl,id⟩,trivial⟩
  ·try simp at hc1
   refine ex (xt_ (xt_ (xb (eb (th (rg (gvQ 231 381 k rfl rfl (by decide) (by simp;omega) (bi rfl rfl (b_add (by unfold I64;omega)) (mv (nl ?_))))))))))
   have hN0:(k+1)≤s.states.length:=by
    first|omega|simp_all
   have hN1:(ns.set k nx)=((((s.states.map SState.next).set 0 (ix (s.states.map SState.next) x)).set x (ix (s.states.map SState.next) 0)).take (k+1)).map (List.map (swapI (x:Int)))++(((s.states.map SState.next).set 0 (ix (s.states.map SState.next) x)).set x (ix (s.states.map SState.next) 0)).drop (k+1):=by
    rw[show k1=(ix ns k).length by omega,List.take_length,List.drop_length,List.append_nil] at hI1
    rw[hI1]
    have hv:ix ns k=ix (((s.states.map SState.next).set 0 (ix (s.states.map SState.next) x)).set x (ix (s.states.map SState.next) 0)) k:=by rw[hI0];exact mapd_ix (by simp;omega)
    rw[hv,hI0]
    exact mapd_set (by simp;omega)
   exact ln (⟨k+1,ns.set k nx⟩:Nat × (List (List Int))) ⟨hN0,hN1⟩ (by first|omega|(dsimp only;omega)) ⟨id,id,id,id,id,trivial⟩ ⟨⟨rfl,id⟩,⟨rfl,id⟩,⟨rfl,id⟩,⟨rfl,id⟩,⟨rfl,id⟩,trivial⟩
 ·try simp at hc0
  refine ex (xt_ (xt_ (xb (th (sq (rg (fzQ (pre:=(fun a=> [ints a])) 231 230 rfl rfl (by decide) (ownEq (enc':=stateE) (ys:=(turnedS s (x:Int)).states) 230 rfl (by rw[hI0,List.take_of_length_le (by simp;omega),List.drop_of_length_le (by simp;omega),List.append_nil];exact swapped_eq hx hps rfl) (fzc 5 230 1 rfl rfl rfl rfl (lPA rfl rfl T.agg25 rfl (sPA (cs':= [sl 1 strE s.actions,sl 2 stateE ((turnedS s (x:Int)).states)]) rfl rfl rfl T.agg25 rfl rfl (nl (th (rt ?_))))))))))))))
  have hr0:s.actions=((turnedS s (x:Int)).actions):=by
   rfl
  have hall:∀x0,s.actions=x0→resAV [agg [sl 1 strE s.actions,sl 2 stateE ((turnedS s (x:Int)).states)]]=resAV [agg [sl 1 strE x0,sl 2 stateE ((turnedS s (x:Int)).states)]]:=by rintro _ rfl;rfl
  exact rE () [.cell 4 25] rfl [agg [sl 1 strE s.actions,sl 2 stateE ((turnedS s (x:Int)).states)]] ⟨.agg rfl rfl T.agg25 rfl rfl,trivial⟩ (hall _ hr0) trivial (by first|exact .inr rfl|exact .inl rfl)
theorem Swapped_ok (s:SSpec) (hs:okSpec s) (x:Int) (h0:0≤x) (hx:x<(s.states.length:Int)) (hz:size s≤1000000):Fn0 Tryd.prog 45 [spec s,int x] (spec (turnedS s x)):=by
 obtain⟨n,rfl⟩:=Int.eq_ofNat_of_zero_le h0
 exact SwappedN_ok s hs hz n (by omega)
theorem From_ok (s:SSpec) (hs:okSpec s) (x:Int) (h0:0≤x) (hx:x<(s.states.length:Int)) (hz:size s≤1000000):
 Fn0 Tryd.prog 21 [spec s,int x] (spec (leastR (turnedS s x)).1):=by
 refine fnI Tryd.func21 rfl rfl (fun w0 F0=> ?_)
 have hto:=turnedS_ok hs h0 hx
 refine fcC (inhS 0 rfl) (fun hS0=> ?_)
 obtain⟨hsa0,hss0,hse0⟩:=spec_lens hS0
 refine sq (rg (bx (key:=2) (cs:= [sl 1 strE s.actions,sl 2 stateE s.states]) rfl fun b2=>(al (key:=4) T.z25 (ex_cons (ex_cons (ex_nil))) fun b4=>(nl (th (sq (rg (lPA rfl rfl T.agg25 rfl (mv (cal0 (φs:= [agg [sl 1 strE s.actions,sl 2 stateE s.states],int x]) (φ:=agg [sl 1 strE ((turnedS s x).actions),sl 2 stateE ((turnedS s x).states)]) ⟨rfl,rfl,trivial⟩ (starts.Swapped_ok s (by assumption) x (by omega) (by omega) (by omega)) T.ent45 (cal0 (φs:= [agg [sl 1 strE ((turnedS s x).actions),sl 2 stateE ((turnedS s x).states)]]) (φ:=tup [agg [sl 1 strE (((leastR (turnedS s x)).1).actions),sl 2 stateE (((leastR (turnedS s x)).1).states)],sl 1 intE ((leastR (turnedS s x)).2)]) ⟨rfl,trivial⟩ (ref06.Least_ok (turnedS s x) (by assumption)) T.ent12 (mv (xt rfl rfl (xt rfl rfl (al (key:=5) T.z25 (ex_cons (ex_cons (ex_nil))) fun b5=>(sPA (cs':= [sl 1 strE (((leastR (turnedS s x)).1).actions),sl 2 stateE (((leastR (turnedS s x)).1).states)]) rfl rfl rfl T.agg25 rfl rfl (ag (nl (th (sq (rg (lPA rfl rfl T.agg25 rfl (sPA (cs':= [sl 1 strE (((leastR (turnedS s x)).1).actions),sl 2 stateE (((leastR (turnedS s x)).1).states)]) rfl rfl rfl T.agg25 rfl rfl (nl (th (rt ?_))))))))))))))))))))))))))
 exact rE () [.cell 4 25] rfl [agg [sl 1 strE (((leastR (turnedS s x)).1).actions),sl 2 stateE (((leastR (turnedS s x)).1).states)]] ⟨.agg rfl rfl T.agg25 rfl rfl,trivial⟩ (rfl) trivial (by first|exact .inr rfl|exact .inl rfl)
end starts
end Go.Proofs.YtolpjmllmlahfaaDoor
namespace Go.Proofs.YtolpjmllmlahfaaDoor
open AL Go
set_option maxRecDepth 100000
set_option linter.all false
open ref01 ref03 ref04 ref06 prog prog2 prog3 prog10 prog11 prog12 prog13 starts Part TurnM Itoa
def idxF (p:Int→Bool) (l:List Int):Int:=if l.any p=true then(l.findIdx p:Int) else-1
theorem idx_none {p:Int→Bool} {l:List Int} (h:∀k,k<l.length→p (ix l k)=false):idxF p l= -1:=by
 unfold idxF
 rw[if_neg]
 intro h2
 obtain⟨x,hx,hp⟩:=List.any_eq_true.1 h2
 obtain⟨k,hk,rfl⟩:=List.getElem_of_mem hx
 have:=h k hk
 rw[ix_get hk,hp] at this
 cases this
theorem idx_some {p:Int→Bool} {l:List Int} {k:Nat} (hk:k<l.length) (hp:p (ix l k)=true) (h:∀j,j<k→p (ix l j)=false):idxF p l=(k:Int):=by
 unfold idxF
 rw[if_pos (List.any_eq_true.2 ⟨ix l k,Rungs.ix_memS hk,hp⟩)]
 congr 1
 refine(List.findIdx_eq hk).2 ⟨by rw[←ix_get hk];exact hp,fun j hj=> ?_⟩
 have:=h j hj
 rw[ix_get (by omega)] at this
 simp[this]
theorem idx_any {p:Int→Bool} {l:List Int}:decide (0≤idxF p l)=l.any p:=by
 unfold idxF
 split
 ·next h=>rw[h];simp
 ·next h=>simp at h ⊢;exact h
noncomputable def fromS (s:SSpec) (x:Int):SSpec:=if specOK s=true∧0≤x∧x<(s.states.length:Int) then(leastR (turnedS s x)).1 else⟨[],[]⟩
def fromE (s:SSpec) (x:Int):Int:=if specOK s=true then(if 0≤x∧x<(s.states.length:Int) then 0 else 1) else 30
namespace T
theorem ent70:Ent Tryd.prog 70:=ent_of (by kernel_rfl)
theorem ent100:Ent Tryd.prog 100:=ent_of (by kernel_rfl)
theorem ent46:Ent Tryd.prog 46:=ent_of (by kernel_rfl)
end T
namespace prog15
theorem turned1_ok (i x:Int):
 Fn0 Tryd.prog 70 [int i,fp [int x]] (int (swapI x i)):=by
 refine fnI Tryd.func70 rfl rfl (fun w0 F0=> ?_)
 refine sq (rg (ag (nl (th (sq (sq (rg (mv (nl (th (bk (sq (rg (bi rfl rfl b_eql (ag (nl (th ?_)))))))))))))))))
 refine cd rfl (fun hc0=> ?_) (fun hc0=> ?_)
 ·try simp at hc0
  refine sq (rg (lF rfl rfl T.one3 (ag (nl (th (rt (rb (rt_ ?_))))))))
  have hr0:(x:Int)=(swapI x i):=by
   unfold swapI;rw[if_pos hc0]
  have hall:∀x0,x=x0→resAV [int x]=resAV [int x0]:=by rintro _ rfl;rfl
  exact rE () [.tmp 3] rfl [int x] ⟨.tmp rfl,trivial⟩ (hall _ hr0) trivial (by first|exact .inr rfl|exact .inl rfl)
 ·try simp at hc0
  refine sq (rg (lF rfl rfl T.one3 (bi rfl rfl b_eql (ag (nl (th ?_))))))
  refine cd rfl (fun hc1=> ?_) (fun hc1=> ?_)
  ·try simp at hc1
   refine sq (rg (ag (nl (th (rt (rb (rt_ ?_)))))))
   have hr0:(0:Int)=(swapI x i):=by
    unfold swapI;rw[if_neg hc0,if_pos hc1]
   have hall:∀x0,0=x0→resAV [int 0]=resAV [int x0]:=by rintro _ rfl;rfl
   exact rE () [.tmp 3] rfl [int 0] ⟨.tmp rfl,trivial⟩ (hall _ hr0) trivial (by first|exact .inr rfl|exact .inl rfl)
  ·try simp at hc1
   refine sk (eb (th (sq (rg (mv (ag (nl (th (rt ?_)))))))))
   have hr0:(i:Int)=(swapI x i):=by
    unfold swapI;rw[if_neg hc0,if_neg hc1]
   have hall:∀x0,i=x0→resAV [int i]=resAV [int x0]:=by rintro _ rfl;rfl
   exact rE () [.tmp 3] rfl [int i] ⟨.tmp rfl,trivial⟩ (hall _ hr0) trivial (by first|exact .inr rfl|exact .inl rfl)
theorem turned_ok (s:SSpec) (hs:okSpec s) (x:Int) (h0:0≤x) (hx:x<(s.states.length:Int)):
 Fn0 Tryd.prog 46 [spec s,int x] (spec (turnedS s x)):=by
 refine fnI Tryd.func46 rfl rfl (fun w0 F0=> ?_)
 have hf0:=hs.few0;have hf1:=hs.few1;have hn8:=hs.n8
 refine fcC (inhS 0 rfl) (fun hS0=> ?_)
 obtain⟨hsa0,hss0,hse0⟩:=spec_lens hS0
 refine sq (rg (bx (key:=2) (cs:= [sl 1 strE s.actions,sl 2 stateE s.states]) rfl fun b2=>(bx1 (key:=3) (φ:=int x) rfl fun b3=>(al (key:=4) T.z25 (ex_cons (ex_cons (ex_nil))) fun b4=>(nl (th (sq (rg (fzv 3 3 rfl rfl (fP rfl T.fld25_0 (lP rfl rfl rfl T.one22 (bd (css:= [(0,_)]) T.st25 (ex_cons (ex_cons (ex_nil))) ⟨rfl,rfl,p1 (φ:=sl 1 strE s.actions) rfl,trivial⟩ (al (key:=5) T.z25 (ex_cons (ex_cons (ex_nil))) fun b5=>(sPA (cs':= [sl 1 strE s.actions,eqv (.slice none 0 0)]) rfl rfl rfl T.agg25 rfl rfl (nl (th (sq (rg (mkf (ag (nl (th (sq (sq (rg (fP rfl T.fld25_1 (lP rfl rfl rfl T.one23 (fc (slenI 17 rfl) fun hm17=>(lnF rfl T.sl23 (mv (nl (th (bk ?_)))))))))))))))))))))))))))))))))
 refine nwC 50 69 2 stateE (kncC 5 1 (osl 50 (.slice none 0 0)) rfl rfl eq_osl ?_)
 have hI0_0:0≤s.states.length:=by
  first|omega|simp
 have hI0_1:([]:List SState)=(turnedS s x).states.take 0:=by
  rfl
 refine lp (κ:=Nat × Value × (List SState)) (fun p=> [(2,ptr 2 b2 0),(4,ptr 4 b4 0),(5,ptr 5 b5 0),(6,clo 70 [fp [int x]]),(18,int (s.states.length:Int)),(19,int (p.1:Int))]) (fun p=> [(2,cell b2 [sl 1 strE s.actions,sl 2 stateE s.states]),(4,cell b4 [eqv (.slice none 0 0),eqv (.slice none 0 0)]),(5,cell b5 [sl 1 strE s.actions,osl 50 p.2.1]),(50,own p.2.1 69 2 stateE p.2.2)]) (fun p=>(p.1≤s.states.length)∧(p.2.2=(turnedS s x).states.take p.1)) (fun p=>s.states.length- p.1) ⟨0,(.slice none 0 0),([]:List SState)⟩ ⟨hI0_0,hI0_1⟩ ⟨id,id,id,id,id,id,trivial⟩ ⟨⟨rfl,id⟩,⟨rfl,id⟩,⟨rfl,id⟩,⟨rfl,id⟩,trivial⟩ ?_
 intro⟨k,v,acc⟩ hG0
 obtain⟨hk0,hI0⟩:(k≤s.states.length)∧(acc=(turnedS s x).states.take k):=hG0
 show Ct _ _ _ _ [(2,ptr 2 b2 0),(4,ptr 4 b4 0),(5,ptr 5 b5 0),(6,clo 70 [fp [int x]]),(18,int (s.states.length:Int)),(19,int (k:Int))] [(2,cell b2 [sl 1 strE s.actions,sl 2 stateE s.states]),(4,cell b4 [eqv (.slice none 0 0),eqv (.slice none 0 0)]),(5,cell b5 [sl 1 strE s.actions,osl 50 v]),(50,own v 69 2 stateE acc)] _
 have hlen:acc.length≤k:=by rw[hI0];simp;omega
 refine sq (rg (bi rfl rfl b_lss (nl (th (sq ?_)))))
 refine cd rfl (fun hc0=> ?_) (fun hc0=> ?_)
 ·try simp at hc0
  have hr:=swapI_lt (k:=(k:Int)) h0 hx (by omega) (by omega)
  have hst:=hs.st (swapI x (k:Int)).toNat (by omega)
  have hsl:=hst.len
  refine sk (th (sq (bk (sq (rg (mv (ag (nl (th (sq ?_))))))))))
  refine drH (nh:=9) [0,1,0,0,12,31,63,0,255] [(none,[]),(none,[2]),(none,[]),(none,[]),(none,[]),(none,[]),(none,[]),(some 8,[]),(some 8,[8])] T.mixed (by kernel_rfl) (by kernel_rfl) ?_
  refine stv (d:=22) (fun β0=>ptr 2 b2 1) [] rfl (fun β β' hb=>rfl) (fun β0 _ _ _ _ gq gh kq=>fP (gq.1.trans rfl) T.fld25_1 kq) ?_
  refine stv (d:=23) (fun β0=>sl 2 stateE s.states) [2] rfl (fun β β' hb=>rfl) (fun β0 _ _ _ _ gq gh kq=>lP (gq.1.trans rfl) (gh.1.trans rfl) rfl T.one23 kq) ?_
  refine stv (d:=24) (fun β0=>clo 70 [fp [int x]]) [] rfl (fun β β' hb=>rfl) (fun β0 _ _ _ _ gq gh kq=>mv' (gq.1.trans rfl) kq) ?_
  refine stv (d:=25) (fun β0=>int (k:Int)) [] rfl (fun β β' hb=>rfl) (fun β0 _ _ _ _ gq gh kq=>mv' (gq.1.trans rfl) kq) ?_
  refine stv (d:=26) (fun β0=>int (swapI x (k:Int))) [] rfl (fun β β' hb=>rfl) (fun β0 _ _ _ _ gq gh kq=>calC0 (φs:= [int (k:Int)]) (φ:=int (swapI x (k:Int))) (gq.1.trans rfl) ⟨(gq.2.1.trans rfl),trivial⟩ (turned1_ok (k:Int) x) T.ent70 kq) ?_
  refine stv (d:=27) (fun β0=>fp [sl 1 intE ((ix s.states ((swapI x (k:Int)).toNat)).accept),sl 1 intE ((ix s.states ((swapI x (k:Int)).toNat)).next)]) [] rfl (fun β β' hb=>rfl) (fun β0 _ _ _ _ gq gh kq=>iF (gq.1.trans rfl) (gq.2.1.trans rfl) T.sl23 (by omega) (by first|exact gN (by omega)|exact gI (by omega) (by omega)) kq) ?_
  refine stv (d:=28) (fun β0=>agg [sl 1 intE ((ix s.states ((swapI x (k:Int)).toNat)).accept),sl 1 intE ((ix s.states ((swapI x (k:Int)).toNat)).next)]) [] rfl (fun β β' hb=>rfl) (fun β0 _ _ _ _ gq gh kq=>lFA (gq.1.trans rfl) T.agg69 (Nat.le_of_ble_eq_true rfl) kq) ?_
  refine sta 8 T.z69 (ex_cons (ex_cons (ex_nil))) ?_
  refine stw 8 (fun β0=>cell (gbk (β0 7)) [sl 1 intE ((ix s.states ((swapI x (k:Int)).toNat)).accept),sl 1 intE ((ix s.states ((swapI x (k:Int)).toNat)).next)]) [8] rfl (fun β β' hb=>by first|rw[hb 7 rfl]|(dsimp only;rw[hb 7 rfl])) (fun β0 _ _ _ _ gq gh kq=>sPA (cs':= [sl 1 intE ((ix s.states ((swapI x (k:Int)).toNat)).accept),sl 1 intE ((ix s.states ((swapI x (k:Int)).toNat)).next)]) (gq.1.trans rfl) (gh.1.trans rfl) (gq.2.1.trans rfl) T.agg69 rfl rfl kq) ?_
  refine pnH fun β0=>(nl (th (sq (rg (fP rfl T.fld69_0 (lP rfl rfl rfl T.one28 (bd (css:= [(0,_)]) T.st69 (ex_cons (ex_cons (ex_nil))) ⟨rfl,rfl,p1 (φ:=sl 1 intE ((ix s.states ((swapI x (k:Int)).toNat)).accept)) rfl,trivial⟩ (al (key:=9) T.z69 (ex_cons (ex_cons (ex_nil))) fun b9=>(sPA (cs':= [sl 1 intE ((ix s.states ((swapI x (k:Int)).toNat)).accept),eqv (.slice none 0 0)]) rfl rfl rfl T.agg69 rfl rfl (nl (th (sq (sq (rg (fP rfl T.fld69_1 (lP rfl rfl rfl T.one28 (fc (slenI 33 rfl) fun hm33=>(lnF rfl T.sl28 (mv (nl (th (bk ?_))))))))))))))))))))))
  refine nwC 90 3 1 intE (kncC 9 1 (osl 90 (.slice none 0 0)) rfl rfl eq_osl ?_)
  have hI1_0:0≤((ix s.states ((swapI x (k:Int)).toNat)).next).length:=by
   first|omega|simp
  have hI1_1:([]:List Int)=((ix s.states (swapI x (k:Int)).toNat).next.take 0).map (swapI x):=by
   rfl
  refine lp (κ:=Nat × Value × (List Int)) (fun p=> [(2,ptr 2 b2 0),(4,ptr 4 b4 0),(5,ptr 5 b5 0),(6,clo 70 [fp [int x]]),(9,ptr 9 b9 0),(18,int (s.states.length:Int)),(19,int (k:Int)),(33,sl 1 intE ((ix s.states ((swapI x (k:Int)).toNat)).next)),(34,int (((ix s.states ((swapI x (k:Int)).toNat)).next).length:Int)),(35,int (p.1:Int))]) (fun p=> [(2,cell b2 [sl 1 strE s.actions,sl 2 stateE s.states]),(4,cell b4 [eqv (.slice none 0 0),eqv (.slice none 0 0)]),(5,cell b5 [sl 1 strE s.actions,osl 50 v]),(8,cell (gbk (β0 7)) [sl 1 intE ((ix s.states ((swapI x (k:Int)).toNat)).accept),sl 1 intE ((ix s.states ((swapI x (k:Int)).toNat)).next)]),(9,cell b9 [sl 1 intE ((ix s.states (swapI x (k:Int)).toNat).accept),osl 90 p.2.1]),(50,own v 69 2 stateE acc),(90,own p.2.1 3 1 intE p.2.2)]) (fun p=>(p.1≤((ix s.states ((swapI x (k:Int)).toNat)).next).length)∧(p.2.2=((ix s.states (swapI x (k:Int)).toNat).next.take p.1).map (swapI x))) (fun p=>((ix s.states ((swapI x (k:Int)).toNat)).next).length- p.1) ⟨0,(.slice none 0 0),([]:List Int)⟩ ⟨hI1_0,hI1_1⟩ ⟨id,id,id,id,id,id,id,id,id,id,trivial⟩ ⟨⟨rfl,id⟩,⟨rfl,id⟩,⟨rfl,id⟩,⟨rfl,id⟩,⟨rfl,id⟩,⟨rfl,id⟩,⟨rfl,id⟩,trivial⟩ ?_
  intro⟨k1,v9,nx⟩ hG1
  obtain⟨hk1,hI1⟩:(k1≤((ix s.states ((swapI x (k:Int)).toNat)).next).length)∧(nx=((ix s.states (swapI x (k:Int)).toNat).next.take k1).map (swapI x)):=hG1
  show Ct _ _ _ _ [(2,ptr 2 b2 0),(4,ptr 4 b4 0),(5,ptr 5 b5 0),(6,clo 70 [fp [int x]]),(9,ptr 9 b9 0),(18,int (s.states.length:Int)),(19,int (k:Int)),(33,sl 1 intE ((ix s.states ((swapI x (k:Int)).toNat)).next)),(34,int (((ix s.states ((swapI x (k:Int)).toNat)).next).length:Int)),(35,int (k1:Int))] [(2,cell b2 [sl 1 strE s.actions,sl 2 stateE s.states]),(4,cell b4 [eqv (.slice none 0 0),eqv (.slice none 0 0)]),(5,cell b5 [sl 1 strE s.actions,osl 50 v]),(8,cell (gbk (β0 7)) [sl 1 intE ((ix s.states ((swapI x (k:Int)).toNat)).accept),sl 1 intE ((ix s.states ((swapI x (k:Int)).toNat)).next)]),(9,cell b9 [sl 1 intE ((ix s.states (swapI x (k:Int)).toNat).accept),osl 90 v9]),(50,own v 69 2 stateE acc),(90,own v9 3 1 intE nx)] _
  have hnl:nx.length=k1:=by rw[hI1];simp;omega
  refine sq (rg (bi rfl rfl b_lss (nl (th (sq ?_)))))
  refine cd rfl (fun hc1=> ?_) (fun hc1=> ?_)
  ·try simp at hc1
   refine sk (th (sq (bk (sq (rg (iF rfl rfl T.sl28 (by omega) (by first|exact gN (by omega)|exact gI (by omega) (by omega)) (lF rfl rfl T.one3 (ag (nl (th ?_))))))))))
   refine drH (nh:=6) [0,1,0,0,12,28,63,127,255] [(none,[]),(none,[9]),(none,[]),(none,[]),(none,[]),(none,[])] T.mixed (by kernel_rfl) (by kernel_rfl) ?_
   refine stv (d:=39) (fun β1=>ptr 9 b9 1) [] rfl (fun β β' hb=>rfl) (fun β1 _ _ _ _ gq gh kq=>fP (gq.1.trans rfl) T.fld69_1 kq) ?_
   refine stv (d:=40) (fun β1=>osl 90 v9) [9] rfl (fun β β' hb=>rfl) (fun β1 _ _ _ _ gq gh kq=>lP (gq.1.trans rfl) (gh.1.trans rfl) rfl T.one28 kq) ?_
   refine stv (d:=41) (fun β1=>clo 70 [fp [int x]]) [] rfl (fun β β' hb=>rfl) (fun β1 _ _ _ _ gq gh kq=>mv' (gq.1.trans rfl) kq) ?_
   refine stv (d:=42) (fun β1=>int (ix ((ix s.states ((swapI x (k:Int)).toNat)).next) k1)) [] rfl (fun β β' hb=>rfl) (fun β1 _ _ _ _ gq gh kq=>mv' (gq.1.trans rfl) kq) ?_
   refine stv (d:=43) (fun β1=>int (swapI x (ix ((ix s.states ((swapI x (k:Int)).toNat)).next) k1))) [] rfl (fun β β' hb=>rfl) (fun β1 _ _ _ _ gq gh kq=>calC0 (φs:= [int (ix ((ix s.states ((swapI x (k:Int)).toNat)).next) k1)]) (φ:=int (swapI x (ix ((ix s.states ((swapI x (k:Int)).toNat)).next) k1))) (gq.1.trans rfl) ⟨(gq.2.1.trans rfl),trivial⟩ (turned1_ok (ix ((ix s.states ((swapI x (k:Int)).toNat)).next) k1) x) T.ent70 kq) ?_
   refine stv (d:=44) (fun β1=>sl 1 intE [(swapI x (ix ((ix s.states ((swapI x (k:Int)).toNat)).next) k1))]) [] rfl (fun β β' hb=>rfl) (fun β1 _ _ _ _ gq gh kq=>bsE (enc:=intE) (xs:= [(swapI x (ix ((ix s.states ((swapI x (k:Int)).toNat)).next) k1))]) (css:= [[int (swapI x (ix ((ix s.states ((swapI x (k:Int)).toNat)).next) k1))]]) T.mk28 ⟨rfl,rfl,p1 (φ:=int (swapI x (ix ((ix s.states ((swapI x (k:Int)).toNat)).next) k1))) (by exact(gq.1.trans rfl)),trivial⟩ rfl rfl rfl rfl kq) ?_
   refine pnH fun β1=>(ap (key:=90) (zs:= [(swapI x (ix ((ix s.states ((swapI x (k:Int)).toNat)).next) k1))]) osl_eq rfl rfl rfl T.mk28 (by unfold maxL at*;simp;omega) (by unfold maxL at*;simp;omega) fun v45=>(fP rfl T.fld69_1 (storePO rfl rfl rfl rfl T.one28 rfl (nl (eb (th (rg (bi rfl rfl (b_add (by unfold I64;omega)) (mv (nl ?_))))))))))
   have hN0:(k1+1)≤((ix s.states ((swapI x (k:Int)).toNat)).next).length:=by
    first|omega|simp_all
   have hN1:(nx++ [(swapI x (ix ((ix s.states ((swapI x (k:Int)).toNat)).next) k1))])=((ix s.states (swapI x (k:Int)).toNat).next.take (k1+1)).map (swapI x):=by
    rw[hI1,take_s (by omega),List.map_append];rfl
   exact ln (⟨k1+1,v45,nx++ [(swapI x (ix ((ix s.states ((swapI x (k:Int)).toNat)).next) k1))]⟩:Nat × Value × (List Int)) ⟨hN0,hN1⟩ (by first|omega|(dsimp only;omega)) ⟨id,id,id,id,id,id,id,id,id,id,trivial⟩ ⟨⟨rfl,id⟩,⟨rfl,id⟩,⟨rfl,id⟩,⟨rfl,id⟩,⟨rfl,id⟩,⟨rfl,id⟩,⟨rfl,id⟩,trivial⟩
  ·try simp at hc1
   refine ex (xt_ (xt_ (xb (th (rg (fP rfl T.fld25_1 (lP rfl rfl rfl T.one23 (fzc 9 90 1 rfl rfl rfl rfl (lPA rfl rfl T.agg69 rfl (bsE (enc:=stateE) (xs:= [(⟨(ix s.states (swapI x (k:Int)).toNat).accept,nx⟩)]) (css:= [[sl 1 intE ((ix s.states (swapI x (k:Int)).toNat).accept),sl 1 intE nx]]) T.mk23 ⟨rfl,rfl,pA (cs:= [sl 1 intE ((ix s.states (swapI x (k:Int)).toNat).accept),sl 1 intE nx]) rfl,trivial⟩ rfl rfl rfl rfl (ap (key:=50) (zs:= [(⟨(ix s.states (swapI x (k:Int)).toNat).accept,nx⟩)]) osl_eq rfl rfl rfl T.mk23 (by unfold maxL at*;simp;omega) (by unfold maxL at*;simp;omega) fun v52=>(fP rfl T.fld25_1 (storePO rfl rfl rfl rfl T.one23 rfl (nl (eb (th (rg (bi rfl rfl (b_add (by unfold I64;omega)) (mv (nl ?_))))))))))))))))))))
   have hN0:(k+1)≤s.states.length:=by
    first|omega|simp_all
   have hN1:(acc++ [(⟨(ix s.states (swapI x (k:Int)).toNat).accept,nx⟩)])=(turnedS s x).states.take (k+1):=by
    rw[hI0,take_s (by rw[turned_len];omega),turned_ix (by omega)]
    unfold turnState
    rw[hI1,show k1=(ix s.states (swapI x (k:Int)).toNat).next.length by omega,List.take_length]
   exact ln (⟨k+1,v52,acc++ [(⟨(ix s.states (swapI x (k:Int)).toNat).accept,nx⟩)]⟩:Nat × Value × (List SState)) ⟨hN0,hN1⟩ (by first|omega|(dsimp only;omega)) ⟨id,id,id,id,id,id,trivial⟩ ⟨⟨rfl,id⟩,⟨rfl,id⟩,⟨rfl,id⟩,⟨rfl,id⟩,trivial⟩
 ·try simp at hc0
  refine ex (xt_ (xt_ (xb (th (sq (rg (fzc 5 50 1 rfl rfl rfl rfl (lPA rfl rfl T.agg25 rfl (sPA (cs':= [sl 1 strE s.actions,sl 2 stateE acc]) rfl rfl rfl T.agg25 rfl rfl (nl (th (rt ?_))))))))))))
  have hr0:s.actions=((turnedS s x).actions):=by
   rfl
  have hr1:acc=((turnedS s x).states):=by
   rw[hI0,List.take_of_length_le (by rw[turned_len];omega)]
  have hall:∀x0 x1,s.actions=x0→acc=x1→resAV [agg [sl 1 strE s.actions,sl 2 stateE acc]]=resAV [agg [sl 1 strE x0,sl 2 stateE x1]]:=by rintro _ _ rfl rfl;rfl
  exact rE () [.cell 4 25] rfl [agg [sl 1 strE s.actions,sl 2 stateE acc]] ⟨.agg rfl rfl T.agg25 rfl rfl,trivial⟩ (hall _ _ hr0 hr1) trivial (by first|exact .inr rfl|exact .inl rfl)
theorem From_ok (s:SSpec) (hsm:smallSpec s) (x:Int):
 AL.Fn Tryd.prog 23 [tabbed (spec s),int x] [] (ι:=Unit) (fun N _=>tup [nspec N (fromS s x),int (fromE s x)]) (fun _=> []):=by
 refine fnI Tryd.func23 rfl rfl (fun w0 F0=> ?_)
 refine tbI 0 9999 rfl ?_
 refine fcC (inhS 0 rfl) (fun hS0=> ?_)
 obtain⟨hsa0,hss0,hse0⟩:=spec_lens hS0
 refine sq (rg (bx (key:=2) (cs:= [sl 1 strE s.actions,sl 2 stateE s.states]) rfl fun b2=>(al (key:=4) T.z25 (ex_cons (ex_cons (ex_nil))) fun b4=>(ag (nl (th (sq (bk (sq (rg (lPA rfl rfl T.agg25 rfl (cal0 (φs:= [agg [sl 1 strE s.actions,sl 2 stateE s.states]]) (φ:=bl (specOK s)) ⟨rfl,trivial⟩ (prog2.Valid_ok s (by assumption)) T.ent39 (no rfl (ag (nl (th ?_))))))))))))))))
 refine cd rfl (fun hc0=> ?_) (fun hc0=> ?_)
 ·try simp at hc0
  refine sq (rg (bd (css:= []) T.st25 (ex_cons (ex_cons (ex_nil))) trivial (sPA (cs':= [eqv (.slice none 0 0),eqv (.slice none 0 0)]) rfl rfl rfl T.agg25 rfl rfl (ag (nl (th (rt (rb (rt_ ?_)))))))))
  refine kncA 4 0 (fre w0.heap.size (sl 1 strE [])) rfl rfl nw_nil ?_
  refine kncA 4 1 (fre w0.heap.size (sl 2 stateE [])) rfl rfl nw_nil ?_
  have hr0: []=((fromS s x).actions):=by
   unfold fromS;rw[if_neg (by simp[hc0])]
  have hr1: []=((fromS s x).states):=by
   unfold fromS;rw[if_neg (by simp[hc0])]
  have hr2:(30:Int)=(fromE s x):=by
   unfold fromE;rw[if_neg (by simp[hc0])]
  have hall:∀x0 x1 x2,[]=x0→[]=x1→30=x2→resAV [agg [fre w0.heap.size (sl 1 strE []),fre w0.heap.size (sl 2 stateE [])],int 30]=resAV [agg [fre w0.heap.size (sl 1 strE x0),fre w0.heap.size (sl 2 stateE x1)],int x2]:=by rintro _ _ _ rfl rfl rfl;rfl
  exact rE () [.cell 4 25,.tmp 5] rfl [agg [fre w0.heap.size (sl 1 strE []),fre w0.heap.size (sl 2 stateE [])],int 30] ⟨.agg rfl rfl T.agg25 rfl rfl,.tmp rfl,trivial⟩ (hall _ _ _ hr0 hr1 hr2) trivial (by first|exact .inr rfl|exact .inl rfl)
 ·try simp at hc0
  have hs:=okSpec_of hc0
  refine sq (rg (mv (bi rfl rfl b_lss (mv ?_))))
  apply gOr (t:=16) (pd:=22) rfl
  rotate_left
  ·intro hg0 fin
   have hg0':=hg0
   try simp at hg0'
   exact gy rfl rfl rfl hg0 (mv (gy rfl rfl rfl hg0 (fP rfl T.fld25_1 (gy rfl rfl rfl hg0 (lP rfl rfl rfl T.one23 (gy rfl rfl rfl hg0 (fc (slenI 19 rfl) fun hm19=>(lnF rfl T.sl23 (gy rfl rfl rfl hg0 (bi rfl rfl b_geq (pkF rfl hg0 rfl (drp (X:= [(21,_),(20,_),(19,_),(18,_),(17,_)]) ⟨rfl,rfl,rfl,rfl,rfl,trivial⟩ (fin)))))))))))))
  ·intro hg0 fin
   exact gn rfl rfl rfl hg0 rfl rfl (gn rfl rfl rfl hg0 rfl rfl (gn rfl rfl rfl hg0 rfl rfl (gn rfl rfl rfl hg0 rfl rfl (gn rfl rfl rfl hg0 rfl rfl (pkT rfl hg0 rfl (drp (X:= [(21,_),(20,_),(19,_),(18,_),(17,_)]) ⟨rfl,rfl,rfl,rfl,rfl,trivial⟩ (fin)))))))
  refine ag (nl (th ?_))
  refine cd rfl (fun hc1=> ?_) (fun hc1=> ?_)
  ·try simp at hc1
   refine sq (rg (bd (css:= []) T.st25 (ex_cons (ex_cons (ex_nil))) trivial (sPA (cs':= [eqv (.slice none 0 0),eqv (.slice none 0 0)]) rfl rfl rfl T.agg25 rfl rfl (ag (nl (th (rt (rb (rt_ ?_)))))))))
   refine kncA 4 0 (fre w0.heap.size (sl 1 strE [])) rfl rfl nw_nil ?_
   refine kncA 4 1 (fre w0.heap.size (sl 2 stateE [])) rfl rfl nw_nil ?_
   have hr0: []=((fromS s x).actions):=by
    unfold fromS;rw[if_neg (by omega)]
   have hr1: []=((fromS s x).states):=by
    unfold fromS;rw[if_neg (by omega)]
   have hr2:(1:Int)=(fromE s x):=by
    unfold fromE;rw[if_pos hc0,if_neg (by omega)]
   have hall:∀x0 x1 x2,[]=x0→[]=x1→1=x2→resAV [agg [fre w0.heap.size (sl 1 strE []),fre w0.heap.size (sl 2 stateE [])],int 1]=resAV [agg [fre w0.heap.size (sl 1 strE x0),fre w0.heap.size (sl 2 stateE x1)],int x2]:=by rintro _ _ _ rfl rfl rfl;rfl
   exact rE () [.cell 4 25,.tmp 5] rfl [agg [fre w0.heap.size (sl 1 strE []),fre w0.heap.size (sl 2 stateE [])],int 1] ⟨.agg rfl rfl T.agg25 rfl rfl,.tmp rfl,trivial⟩ (hall _ _ _ hr0 hr1 hr2) trivial (by first|exact .inr rfl|exact .inl rfl)
  ·try simp at hc1
   have hto:=turnedS_ok hs (x:=x) (by omega) (by omega)
   refine sk (eb (th (sq (rg (lPA rfl rfl T.agg25 rfl (mv (cal0 (φs:= [agg [sl 1 strE s.actions,sl 2 stateE s.states],int x]) (φ:=agg [sl 1 strE ((turnedS s x).actions),sl 2 stateE ((turnedS s x).states)]) ⟨rfl,rfl,trivial⟩ (prog15.turned_ok s (by assumption) x (by omega) (by omega)) T.ent46 (tbU (ψ:=tab) 27 9999 rfl rfl (calW (φs:= [both (agg [sl 1 strE ((turnedS s x).actions),sl 2 stateE ((turnedS s x).states)]) tab]) (φ:=tup [agg [fre w0.heap.size (sl 1 strE (((leastR (turnedS s x)).1).actions)),fre w0.heap.size (sl 2 stateE (((leastR (turnedS s x)).1).states))],fre w0.heap.size (sl 1 intE ((leastR (turnedS s x)).2))]) ⟨rfl,trivial⟩ (prog12.Merged_ok (turnedS s x) (by assumption)) T.ent41 (fun N hN=>fun h=>tup_le (cs:= [agg [fre N (sl 1 strE (((leastR (turnedS s x)).1).actions)),fre N (sl 2 stateE (((leastR (turnedS s x)).1).states))],fre N (sl 1 intE ((leastR (turnedS s x)).2))]) (ds:= [agg [fre w0.heap.size (sl 1 strE (((leastR (turnedS s x)).1).actions)),fre w0.heap.size (sl 2 stateE (((leastR (turnedS s x)).1).states))],fre w0.heap.size (sl 1 intE ((leastR (turnedS s x)).2))]) ⟨fun h=>agg_le (cs:= [fre N (sl 1 strE (((leastR (turnedS s x)).1).actions)),fre N (sl 2 stateE (((leastR (turnedS s x)).1).states))]) (ds:= [fre w0.heap.size (sl 1 strE (((leastR (turnedS s x)).1).actions)),fre w0.heap.size (sl 2 stateE (((leastR (turnedS s x)).1).states))]) ⟨fun h=>nw_mono (hN) h,fun h=>nw_mono (hN) h,trivial⟩ h,fun h=>nw_mono (hN) h,trivial⟩ h) (mv (xt rfl rfl (xt rfl rfl (al (key:=6) T.z25 (ex_cons (ex_cons (ex_nil))) fun b6=>(sPA (cs':= [fre w0.heap.size (sl 1 strE (((leastR (turnedS s x)).1).actions)),fre w0.heap.size (sl 2 stateE (((leastR (turnedS s x)).1).states))]) rfl rfl rfl T.agg25 rfl rfl (ag (nl (th (sq (rg (lPA rfl rfl T.agg25 rfl (sPA (cs':= [fre w0.heap.size (sl 1 strE (((leastR (turnedS s x)).1).actions)),fre w0.heap.size (sl 2 stateE (((leastR (turnedS s x)).1).states))]) rfl rfl rfl T.agg25 rfl rfl (ag (nl (th (rt ?_)))))))))))))))))))))))))
   have hr0:(((leastR (turnedS s x)).1).actions)=((fromS s x).actions):=by
    unfold fromS;rw[if_pos ⟨hc0,by omega,by omega⟩]
   have hr1:(((leastR (turnedS s x)).1).states)=((fromS s x).states):=by
    unfold fromS;rw[if_pos ⟨hc0,by omega,by omega⟩]
   have hr2:(0:Int)=(fromE s x):=by
    unfold fromE;rw[if_pos hc0,if_pos (by omega)]
   have hall:∀x0 x1 x2,(((leastR (turnedS s x)).1).actions)=x0→(((leastR (turnedS s x)).1).states)=x1→0=x2→resAV [agg [fre w0.heap.size (sl 1 strE (((leastR (turnedS s x)).1).actions)),fre w0.heap.size (sl 2 stateE (((leastR (turnedS s x)).1).states))],int 0]=resAV [agg [fre w0.heap.size (sl 1 strE x0),fre w0.heap.size (sl 2 stateE x1)],int x2]:=by rintro _ _ _ rfl rfl rfl;rfl
   exact rE () [.cell 4 25,.tmp 5] rfl [agg [fre w0.heap.size (sl 1 strE (((leastR (turnedS s x)).1).actions)),fre w0.heap.size (sl 2 stateE (((leastR (turnedS s x)).1).states))],int 0] ⟨.agg rfl rfl T.agg25 rfl rfl,.tmp rfl,trivial⟩ (hall _ _ _ hr0 hr1 hr2) trivial (by first|exact .inr rfl|exact .inl rfl)
end prog15
end Go.Proofs.YtolpjmllmlahfaaDoor
namespace Go.Proofs.YtolpjmllmlahfaaDoor
open AL ref01 ref03 ref04 ref06 prog15 starts Part Rungs LeftM TrimM RoundM BisM BisM5 WalkM
set_option linter.all false
namespace StepM
def upF (q:List Mt):Nat→Nat→List Int
 |0,_=> []
 |n+1,k=>if 0≤(ix q k).before then(ix q k).action::upF q n (ix q k).before.toNat else []
def BackOK (q:List Mt):Prop:=∀k,k<q.length→0≤(ix q k).before→(ix q k).before<(k:Int)
theorem upF_fuel {q:List Mt} (hb:BackOK q):∀(k n:Nat),k<n→k<q.length→upF q n k=upF q (k+1) k:=by
 intro k
 induction k using Nat.strongRecOn with
 |_ k ih=>
  intro n hn hk
  obtain⟨m,rfl⟩:∃m,n=m+1:=⟨n- 1,by omega⟩
  unfold upF
  by_cases h:0≤(ix q k).before
  ·have:=hb k hk h
   rw[if_pos h,if_pos h,ih _ (by omega) m (by omega) (by omega),ih _ (by omega) k (by omega) (by omega)]
  ·rw[if_neg h,if_neg h]
def wordTo (q:List Mt) (k:Nat):List Int:=(upF q (k+1) k).reverse
theorem wordTo_nil {q:List Mt} {k:Nat} (h:(ix q k).before<0):wordTo q k= []:=by
 unfold wordTo upF;rw[if_neg (by omega)];rfl
theorem wordTo_snoc {q:List Mt} (hb:BackOK q) {k:Nat} (hk:k<q.length) (h:0≤(ix q k).before):wordTo q k=wordTo q (ix q k).before.toNat++ [(ix q k).action]:=by
 have:=hb k hk h
 unfold wordTo
 rw[upF,if_pos h,List.reverse_cons,upF_fuel hb _ k (by omega) (by omega)]
theorem wordTo_len {q:List Mt} (hb:BackOK q):∀k,k<q.length→(wordTo q k).length≤k:=by
 intro k
 induction k using Nat.strongRecOn with
 |_ k ih=>
  intro hk
  by_cases h:0≤(ix q k).before
  ·have h1:=hb k hk h
   have h2:=ih (ix q k).before.toNat (by omega) (by omega)
   rw[wordTo_snoc hb hk h,List.length_append,List.length_singleton];omega
  ·rw[wordTo_nil (by omega)];simp
inductive Runs (T:SSpec):List Int→Nat→Prop
 |nil:Runs T [] 0
 |snoc {w:List Int} {x a:Nat}:Runs T w x→has (orAll (acc T x)) (a:Int)=true→Runs T (w++ [(a:Int)]) (ix (nxt T x) a).toNat
def xAt (T:SSpec) (w:List Int) (j:Nat):Int:=(w.take j).foldl (stepS T) 0
theorem xAt_zero (T:SSpec) (w:List Int):xAt T w 0=0:=by simp[xAt]
theorem xAt_succ {T:SSpec} {w:List Int} {j:Nat} (h:j<w.length):xAt T w (j+1)=stepS T (xAt T w j) (ix w j):=go_succ h
theorem xAt_left {T:SSpec} {w v:List Int} {j:Nat} (h:j≤w.length):xAt T (w++v) j=xAt T w j:=by
 unfold xAt;rw[List.take_append_of_le_length h]
theorem xAt_all (T:SSpec) (w:List Int):xAt T w w.length=goS T w:=by unfold xAt goS;rw[List.take_length]
theorem goS_snoc (T:SSpec) (w:List Int) (a:Int):goS T (w++ [a])=stepS T (goS T w) a:=by unfold goS;rw[List.foldl_append];rfl
theorem stepS_nat {T:SSpec} {x:Int} (h:0≤x) (a:Nat):stepS T x (a:Int)=ix (nxt T x.toNat) a:=by unfold stepS;rw[if_neg (by omega)];rfl
theorem Runs.lt {T:SSpec} (hT:okSpec T) {w:List Int} {x:Nat} (h:Runs T w x):x<T.states.length:=by
 induction h with
 |nil=>have:=hT.few0;omega
 |snoc h ha ih=>have:=(or_go hT ih ha);omega
theorem Runs.go {T:SSpec} (hT:okSpec T) {w:List Int} {x:Nat} (h:Runs T w x):goS T w=(x:Int):=by
 induction h with
 |nil=>rfl
 |snoc h ha ih=>
  have:=or_go hT (h.lt hT) ha
  rw[goS_snoc,ih,stepS_nat (by omega),Int.toNat_natCast];omega
def Alive (T:SSpec) (w:List Int):Prop:=∀j,j<w.length→0≤xAt T w j∧xAt T w j<(T.states.length:Int)∧∃a:Nat,ix w j=(a:Int)∧has (orAll (acc T (xAt T w j).toNat)) (a:Int)=true
theorem ixI_left {l m:List Int} {j:Nat} (h:j<l.length):ix (l++m) j=ix l j:=by
 rw[ix_get (by simp;omega),ix_get h,List.getElem_append_left h]
theorem ixI_last {l:List Int} {x:Int}:ix (l++ [x]) l.length=x:=by rw[ix_get (by simp)];simp
theorem Runs.alive {T:SSpec} (hT:okSpec T) {w:List Int} {x:Nat} (h:Runs T w x):Alive T w:=by
 induction h with
 |nil=>intro j hj;simp at hj
 | @snoc w x a h ha ih=>
   intro j hj
   by_cases e:j<w.length
   ·rw[xAt_left (by omega),ixI_left e];exact ih j e
   ·have:j=w.length:=by simp at hj;omega
    subst this
    have hlt:=h.lt hT
    rw[xAt_left (Nat.le_refl _),xAt_all,h.go hT,ixI_last]
    exact⟨by omega,by omega,a,rfl,by rw[Int.toNat_natCast];exact ha⟩
theorem q_back {T t:SSpec} {q:List Mt} (h:QInv T t q):BackOK q:=fun k hk h0=>by
 rcases Nat.eq_zero_or_pos k with e|e
 ·subst e;rw[h.hd] at h0
  have h0:(0:Int)≤ -1:=h0
  omega
 ·obtain⟨b,a,e1,e2,e3,_⟩:=h.back k e hk
  rw[e1];omega
theorem q_runs {T t:SSpec} {q:List Mt} (h:QInv T t q):∀k,k<q.length→Runs T (wordTo q k) (ix q k).s.toNat∧goS t (wordTo q k)=(ix q k).t:=by
 intro k
 induction k using Nat.strongRecOn with
 |_ k ih=>
  intro hk
  rcases Nat.eq_zero_or_pos k with e|e
  ·subst e
   rw[wordTo_nil (by rw[h.hd];show(-1:Int)<0;omega),h.hd]
   exact⟨.nil,rfl⟩
  ·obtain⟨b,a,e1,e2,e3,e4,e5,e6⟩:=h.back k e hk
   have hw:=wordTo_snoc (q_back h) hk (by rw[e1];omega)
   rw[e1,Int.toNat_natCast,e2] at hw
   obtain⟨g1,g2⟩:=ih b e3 (by omega)
   have hb:=h.bd _ (ix_memS (l:=q) (i:=b) (by omega))
   rw[hw,e5,e6]
   exact⟨.snoc g1 e4,by rw[goS_snoc,g2,stepS_nat (by omega)]⟩
theorem alive_act {T:SSpec} (hT:okSpec T) {w:List Int} (h:Alive T w) {j:Nat} (hj:j<w.length):0≤ix w j∧ix w j<(T.actions.length:Int):=by
 obtain⟨h1,h2,a,h3,h4⟩:=h j hj
 have:=or_go hT (x:=(xAt T w j).toNat) (by omega) h4
 omega
theorem alive_next {T:SSpec} (hT:okSpec T) {w:List Int} (h:Alive T w):∀j,j≤w.length→0≤xAt T w j∧xAt T w j<(T.states.length:Int)
 |0,_=>by rw[xAt_zero];have:=hT.few0;omega
 |j+1,hj=>by
  obtain⟨h1,h2,a,h3,h4⟩:=h j (by omega)
  have:=or_go hT (x:=(xAt T w j).toNat) (by omega) h4
  rw[xAt_succ (by omega),h3,stepS_nat h1]
  omega
def leadI (x:SState) (a:Int):Int:=ix x.accept (idxF (fun u=>has u a) x.accept).toNat
def leadB (x:SState) (a:Int):Bool:=x.accept.any fun u=>has u a
theorem leadB_of {x:SState} {a:Nat} (h:has (orAll x.accept) (a:Int)=true):leadB x (a:Int)=true:=by
 obtain⟨u,hu,hh⟩:=(orAll_has _ _).1 h
 exact List.any_eq_true.2 ⟨u,hu,hh⟩
theorem lead_ix {x:SState} {a:Int} (h:leadB x a=true):0≤idxF (fun u=>has u a) x.accept∧idxF (fun u=>has u a) x.accept<(x.accept.length:Int)∧has (leadI x a) a=true:=by
 unfold leadB at h
 have e:idxF (fun u=>has u a) x.accept=((x.accept.findIdx fun u=>has u a:Nat):Int):=by unfold idxF;rw[if_pos h]
 have hl:x.accept.findIdx (fun u=>has u a)<x.accept.length:=List.findIdx_lt_length.2 (List.any_eq_true.1 h)
 refine⟨by omega,by omega,?_⟩
 unfold leadI
 rw[e,Int.toNat_natCast,ix_get hl]
 exact List.findIdx_getElem (w:=hl)
theorem lead_mem {x:SState} {a:Int} (h:leadB x a=true):leadI x a∈x.accept:=by
 obtain⟨h1,h2,_⟩:=lead_ix h
 exact ix_memS (by omega)
def stepL (T:SSpec) (w:List Int) (j:Nat):Int × Int:=(xAt T w j,leadI (ix T.states (xAt T w j).toNat) (ix w j))
def pathL (T:SSpec) (w:List Int) (u:Int):List (Int × Int):=(List.range w.length).map (stepL T w)++ [(xAt T w w.length,u)]
theorem pathL_len (T:SSpec) (w:List Int) (u:Int):(pathL T w u).length=w.length+1:=by simp[pathL]
theorem pathL_mem {T:SSpec} (hT:okSpec T) {w:List Int} (h:Alive T w) {u:Int} (hu:u∈acc T (goS T w).toNat):∀p∈pathL T w u,0≤p.1∧p.1<(T.states.length:Int)∧p.2∈acc T p.1.toNat:=by
 intro p hp
 unfold pathL at hp
 rcases List.mem_append.1 hp with hp|hp
 ·obtain⟨j,hj,rfl⟩:=List.mem_map.1 hp
  rw[List.mem_range] at hj
  obtain⟨h1,h2,a,h3,h4⟩:=h j hj
  refine⟨h1,h2,lead_mem ?_⟩
  rw[h3];exact leadB_of h4
 ·have:p=(xAt T w w.length,u):=by simpa using hp
  subst this
  have:=alive_next hT h w.length (Nat.le_refl _)
  exact⟨this.1,this.2,by rw[xAt_all];exact hu⟩
end StepM
end Go.Proofs.YtolpjmllmlahfaaDoor
