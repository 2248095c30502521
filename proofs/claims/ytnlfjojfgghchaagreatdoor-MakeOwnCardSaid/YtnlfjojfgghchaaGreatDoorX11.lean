/- The abstract logic. Own texts of this claim, packed: MkALRegion, MkALSort. -/
import Derived.Test.YtnlfjojfgghchaaGreatDoorX02
import Derived.Test.YtnlfjojfgghchaaGreatDoorX05
import Derived.Test.YtnlfjojfgghchaaGreatDoorX09
import Derived.Shelf.SlSortCmp.NoneTotal
set_option linter.all false
set_option linter.unusedVariables false
namespace AL
open Go
attribute [local semireducible] any eqv agg tup fp ptr sl eD emp cell own obj osl dX clo pf mp mpv
def reg (D:Fz) (ψs:List AV) (vs:List Value):HA:=
 ⟨D,fun w _=>All2 w D ψs vs∧∀b,D b→wr w b,fun _ hw ⟨h1,h2⟩=>⟨h1.st (fun _ h=>h) (fun b hb=>hw b (.inr hb)),fun b hb=>Rf (hw b (.inr hb)) (h2 b hb)⟩⟩
inductive Sh where
 |i
 |s
def Sh.is:Sh→Value→Prop
 | .i,v=> ∃k m,v= .int k m
 | .s,v=> ∃s,v= .string s
def cellW (W:World) (b o:Nat) (u:Value):Prop:=∃c ty fr,W.heap[b]?=some (.cells c ty fr)∧c[o]?=some u
def kin (z:Prop) (u u':Value):Prop:=u'=u∨(∃k m k' m',u= .int k m∧u'= .int k' m')∨(∃s s',u= .string s∧u'= .string s')∨(z∧(∃A m c,u= .slice A m c)∧u'= .slice none 0 0)
def Pw (Z:Nat→Nat→Prop) (W w:World) (b:Nat):Prop:=∃c ty c' ty',W.heap[b]?=some (.cells c ty (0,0))∧w.heap[b]?=some (.cells c' ty' (0,0))∧c'.size=c.size∧∀(j:Nat) (u:Value),c[j]?=some u→∃u',c'[j]?=some u'∧kin (Z b j) u u'
def rgz (D:Fz) (W:World) (Z:Nat→Nat→Prop):HA:=
 ⟨D,fun w _=> ∀b,D b→Pw Z W w b,fun _ hw h b hb=>by
   obtain⟨c,ty,c',ty',h1,h2,h3⟩:=h b hb
   exact⟨c,ty,c',ty',h1,(hw b (.inr hb)).trans h2,h3⟩⟩
def noZ:Nat→Nat→Prop:=fun _ _=>False
def eT (v:Value) (n k:Nat):Nat→Nat→Prop:=fun b o=> ∃off m c,v= .slice (some ⟨b,off,none⟩) m c∧off≤o∧o<off+k*n
def wv (W:World) (D:Fz) (φ:AV):AV:=⟨fun _ _ v=>φ.p W D v,fun _ _ h=>h⟩
def tp (W:World) (D:Fz) (n:Nat) (f:Nat→Sh):AV:=⟨fun _ _ v=> ∃b off,v= .pointer (some ⟨b,off,none⟩)∧D b∧∀j,j<n→∃u,cellW W b (off+j) u∧(f j).is u,fun _ _ h=>h⟩
def xp (v:Value) (n i j:Nat):AV:=⟨fun _ _ u=> ∃b off m c,v= .slice (some ⟨b,off,none⟩) m c∧u= .pointer (some ⟨b,off+i*n+j,none⟩),fun _ _ h=>h⟩
class Fit (τ:Sh) (φ:AV):Prop where
 fit:∀{z w F u v},τ.is u→φ.p w F v→kin z u v∧v.oneCell'=true
instance (k:IntKind) (m:Int):Fit .i (eqv (.int k m)):=⟨fun {z w F u v} h hv=>by
 obtain⟨k',m',rfl⟩:=h
 have hv:v= .int k m:=hv
 subst hv
 exact⟨.inr (.inl ⟨_,_,_,_,rfl,rfl⟩),rfl⟩⟩
instance (s:ByteArray):Fit .s (eqv (.string s)):=⟨fun {z w F u v} h hv=>by
 obtain⟨s',rfl⟩:=h
 have hv:v= .string s:=hv
 subst hv
 exact⟨.inr (.inr (.inl ⟨_,_,rfl,rfl⟩)),rfl⟩⟩
class Kinds {α:Type} (enc:α→List AV) (n:Nat) (f:Nat→Sh):Prop where
 kinds:∀(x:α) {w F vs},All2 w F (enc x) vs→∀(j:Nat) (v:Value),vs[j]?=some v→(f j).is v
theorem AG {W:World} {b off j:Nat} {vs:List Value} {u:Value} (h:rdAt W b off vs) (hj:vs[j]?=some u):cellW W b (off+j) u:=by
 obtain⟨c,ty,fr,hc,hv⟩:=h
 exact⟨c,ty,fr,hc,hv j u hj⟩
theorem zS {α:Type} {W:World} {D:Fz} {n:Nat} {enc:α→List AV} {xs:List α} {v:Value} (h:(AL.sl n enc xs).p W D v) {i:Nat} {x:α} (hi:xs[i]?=some x):
 ∃b off c us,v= .slice (some ⟨b,off,none⟩) xs.length c∧D b∧us.length=n∧rdAt W b (off+i*n) us∧All2 W D (enc x) us:=by
 have hlt:i<xs.length:=(List.getElem?_eq_some_iff.1 hi).1
 obtain⟨A,cap,hv,_,_,hA⟩:=h
 obtain⟨b,off,vs,rfl,hD,hr,he⟩:=hA (by intro e;subst e;simp at hlt)
 exact⟨b,off,cap,_,hv,hD,he.lenD hlt,(hr.drop (i*n)).take n,he.el i x hi⟩
section
variable {P:Program} {r:Option Nat} {ops:Array Oper} {Q:Exit→Act→World→Prop} {rest:List Oper} {B:Base} {E:Env} {H:Hp} {a:Act} {w:World}
variable {d ty:Nat} {pos:String} {af:Array Edge} {ι:Type}
theorem UW {f:FuncId} {xs:List Operand} {φs:List AV} {res:Nat→Unit→AV} {ts:Array TypeId} (key:Nat) (S:List Value→AV) (ψs:List AV) (h:Sim B E H a w) (hx:OpdsIs E xs φs) (hf:Fn P f φs [] res (fun _=> [])) (he:Ent P f) (hk:lkH key H=emp)
 (hres:∀N {w F v},(res N ()).p w F v→∃vs,(∀{w' F'},(S vs).p w' F' v)∧All2 w (pF N w F) ψs vs)
 (k:∀D vs a w,Sim B ((d,S vs)::E) ((key,reg D ψs vs)::H) a w→wl r P ops Q rest a w) (hn:Nat.blt d B.nt=true:=by rfl):
 wl r P ops Q ({ dst:=some d,op:= .call { callee:= .value (.func f),args:=xs.toArray,argTypes:=ts },type:=ty,pos:=pos,after:=af,guard:=none }::rest) a w:=by
 obtain⟨F,Ds,hs⟩:=h
 have hf:Fn P f (opds xs E) [] res (fun _=> []):=by rw[hx.eq];exact hf
 refine Ap (f:=f) (args:=(xs.map a.eval).toArray) rfl (fun _=>nofun) ?_ (hf w F _ (hs.opds xs) (fun b hb=>(hs.Fb b hb).1) (rU _ _)) (fun e w' hR=> ?_)
 ·simp[execOp,resolve,Act.eval,Deferred.ofValue,invoke,he.run]
 ·obtain⟨_,v,F',rfl,hl⟩:=hR
  obtain⟨vs,hS,hvs⟩:=hres _ hl.res
  have hnf:∀b,¬fB [] b:=fun b ⟨k,h⟩=>h
  refine⟨v,rfl,k (pF w.heap.size w' F') vs _ _ ⟨F,Ds,(hs.upd key (reg (pF w.heap.size w' F') ψs vs) hl.size hl.os hl.tape hl.out (fun b hb _=>hl.old b hb (hnf b)) (fun b hb=>⟨.inr hb.2.1,?_⟩) ⟨hvs,fun b hb=>hb.2.2⟩).put (by simpa using hn) hS⟩⟩
  obtain⟨c,t,hc⟩:=hb.2.2
  exact(Array.getElem?_eq_some_iff.1 hc).1
theorem Gv {f:FuncId} {xs:List Operand} {φs:List AV} {res:Nat→Unit→AV} {ts:Array TypeId} (key:Nat) (S:List Value→AV) (ψs:List AV) (hx:OpdsIs E xs φs) (hf:Fn P f φs [] res (fun _=> [])) (he:Ent P f) (hk:lkH key H=emp)
 (hres:∀N {w F v},(res N ()).p w F v→∃vs,(∀{w' F'},(S vs).p w' F' v)∧All2 w (pF N w F) ψs vs)
 (k:∀D vs,St r P ops Q B ((d,S vs)::E) ((key,reg D ψs vs)::H) rest) (hn:Nat.blt d B.nt=true:=by rfl):
 St r P ops Q B E H ({ dst:=some d,op:= .call { callee:= .value (.func f),args:=xs.toArray,argTypes:=ts },type:=ty,pos:=pos,after:=af,guard:=none }::rest):=
 fun a w h=>UW key S ψs h hx hf he hk hres (fun D vs a w hs=>k D vs a w hs) hn
theorem KX {α:Type} {n:Nat} {enc:α→List AV} {xs:List α} {w:World} {F:Fz} {v:Value} (h:(sl n enc xs).p w F v):sv v=v:=by
 obtain⟨A,c,rfl,_⟩:=h;rfl
theorem rgT {D:Fz} {ψs:List AV} {vs:List Value} (key:Nat) (hk:lkH key H=reg D ψs vs) (k:∀W,All2 W D ψs vs→St r P ops Q B E ((key,rgz D W noZ)::H) rest):St r P ops Q B E H rest:=fun a w ⟨F,Ds,hs⟩=>by
 have h:=hs.hp key
 rw[hk] at h
 refine k w h.1 a w ⟨F,Ds,hs.upd key (rgz D w noZ) (Nat.le_refl _) rfl rfl rfl (fun _ _ _=>rfl) (fun b hb=>⟨.inl (by rw[hk];exact hb),(hs.hN key b (by rw[hk];exact hb)).1⟩) (fun b hb=> ?_)⟩
 obtain⟨c,ty,hc⟩:=h.2 b hb
 exact⟨c,ty,c,ty,hc,hc,rfl,fun j u hu=>⟨u,hu,.inl rfl⟩⟩
theorem rgM {D:Fz} {W:World} {Z Z':Nat→Nat→Prop} (key:Nat) (hk:lkH key H=rgz D W Z) (hZ:∀b o,Z b o→Z' b o) (k:St r P ops Q B E ((key,rgz D W Z')::H) rest):St r P ops Q B E H rest:=fun a w ⟨F,Ds,hs⟩=>by
 have h:=hs.hp key
 rw[hk] at h
 refine k a w ⟨F,Ds,hs.upd key (rgz D W Z') (Nat.le_refl _) rfl rfl rfl (fun _ _ _=>rfl) (fun b hb=>⟨.inl (by rw[hk];exact hb),(hs.hN key b (by rw[hk];exact hb)).1⟩) (fun b hb=> ?_)⟩
 obtain⟨c,ty,c',ty',h1,h2,h3,h4⟩:=h b hb
 exact⟨c,ty,c',ty',h1,h2,h3,fun j u hu=>by
  obtain⟨u',hu',hk⟩:=h4 j u hu
  exact⟨u',hu',hk.imp id (fun h=>h.imp id (fun h=>h.imp id (fun h=>⟨hZ b j h.1,h.2⟩)))⟩⟩
theorem Gw {α:Type} {W:World} {D:Fz} {T e n' n:Nat} {enc:α→List AV} {xs:List α} {x:Operand} (hx:lkO x E=wv W D (sl n enc xs)) (hT:IsSlice P T e n')
 (k:St r P ops Q B ((d,int (xs.length:Int))::E) H rest) (hn:Nat.blt d B.nt=true:=by rfl):
 St r P ops Q B E H ({ dst:=some d,op:= .call { callee:= .builtin .len,args:= #[x],argTypes:= #[T] },type:=ty,pos:=pos,after:=af,guard:=none }::rest):=fun a w h=>
 cB h rfl rfl hn (fun _=>nofun) (fun F Ds hs=>by
  have h1:=hs.opd x
  rw[hx] at h1
  obtain⟨A,cap,hv,_⟩:=h1
  exact⟨.int .i64 xs.length,by simp[execOp,resolve,hv,invoke,builtin,Builtin.len_,hT.run,goInt],rfl⟩) (fun a w hs=>k a w hs)
theorem Gx {α:Type} {W:World} {D:Fz} {T e n:Nat} {enc:α→List AV} {xs:List α} {x i:Operand} {j:Int} (f:Nat→Sh) [hK:Kinds enc n f] (hx:lkO x E=wv W D (sl n enc xs)) (hi:lkO i E=int j) (hT:IsSlice P T e n) (h0:0≤j) (hj:j<(xs.length:Int))
 (k:St r P ops Q B ((d,tp W D n f)::E) H rest) (hn:Nat.blt d B.nt=true:=by rfl):
 St r P ops Q B E H ({ dst:=some d,op:= .indexAddr T x i,type:=ty,pos:=pos,after:=af,guard:=none }::rest):=fun a w h=>
 cB h rfl rfl hn (fun _=>nofun) (fun F Ds hs=>by
  have h1:=hs.opd x
  have h2:=hs.opd i
  rw[hx] at h1
  rw[hi] at h2
  have h2:a.eval i= .int .i64 j:=h2
  obtain⟨b,off,c,us,hv,hD,hl,hr,ha⟩:=zS h1 (i:=j.toNat) (x:=xs[j.toNat]' O) (List.getElem?_eq_getElem O)
  refine⟨.pointer (some ⟨b,off+j.toNat*n,none⟩),by simp[execOp,hv,h2,Instr.indexAt,asIntOf,hT.run,h0,hj,hT.size,iK],b,off+j.toNat*n,rfl,hD,fun q hq=> ?_⟩
  exact⟨us[q],AG hr (List.getElem?_eq_getElem O),hK.kinds _ ha q _ (List.getElem?_eq_getElem O)⟩) (fun a w hs=>k a w hs)
theorem UX {α:Type} {W:World} {D:Fz} {T e n:Nat} {enc:α→List AV} {xs:List α} {v:Value} {x i:Operand} {j:Int} (hx:lkO x E=eqv v) (hv:(sl n enc xs).p W D v) (hi:lkO i E=int j) (hT:IsSlice P T e n) (h0:0≤j) (hj:j<(xs.length:Int))
 (k:St r P ops Q B ((d,xp v n j.toNat 0)::E) H rest) (hn:Nat.blt d B.nt=true:=by rfl):
 St r P ops Q B E H ({ dst:=some d,op:= .indexAddr T x i,type:=ty,pos:=pos,after:=af,guard:=none }::rest):=fun a w h=>
 cB h rfl rfl hn (fun _=>nofun) (fun F Ds hs=>by
  have h1:=hs.opd x
  have h2:=hs.opd i
  rw[hx] at h1
  rw[hi] at h2
  have h1:a.eval x=v:=h1
  have h2:a.eval i= .int .i64 j:=h2
  obtain⟨b,off,c,us,hv,hD,hl,hr,ha⟩:=zS hv (i:=j.toNat) (x:=xs[j.toNat]' O) (List.getElem?_eq_getElem O)
  exact⟨.pointer (some ⟨b,off+j.toNat*n,none⟩),by simp[execOp,h1,hv,h2,Instr.indexAt,asIntOf,hT.run,h0,hj,hT.size,iK],b,off,xs.length,c,hv,rfl⟩) (fun a w hs=>k a w hs)
theorem ldX {α β:Type} {W:World} {D:Fz} {T n n' k0 i j key:Nat} {enc:α→List AV} {xs:List α} {enc':β→List AV} {ys:List β} {v:Value} {x:Operand} (hx:lkO x E=xp v n i j) (hk:lkH key H=rgz D W (eT v n k0)) (hv:(sl n enc xs).p W D v) {y:α} (hi:xs[i]?=some y) (hj:(enc y)[j]?=some (sl n' enc' ys)) (hki:k0≤i) (ht:dK P T)
 (k:St r P ops Q B ((d,wv W D (sl n' enc' ys))::E) H rest) (hn:Nat.blt d B.nt=true:=by rfl):
 St r P ops Q B E H ({ dst:=some d,op:= .load T x,type:=ty,pos:=pos,after:=af,guard:=none }::rest):=fun a w h=>
 cB h rfl rfl hn (fun _=>nofun) (fun F Ds hs=>by
  have h1:=hs.opd x
  rw[hx] at h1
  obtain⟨b,o,m,c,hv2,hu⟩:=h1
  obtain⟨b',off,c',us,hv3,hD,hl,hr,ha⟩:=zS hv hi
  rw[hv2] at hv3
  simp at hv3
  obtain⟨⟨rfl,rfl⟩,_⟩:=hv3
  obtain⟨u,hu2,hp⟩:=ha.get hj
  obtain⟨c0,ty0,fr0,hc0,hu3⟩:=AG hr hu2
  have h2:=hs.hp key
  rw[hk] at h2
  obtain⟨cc,t,c',t',g1,g2,g3,g4⟩:=h2 b hD
  have e:c0=cc:=by rw[hc0] at g1;cases g1;rfl
  subst e
  obtain⟨u',hu',hkin⟩:=g4 _ u hu3
  obtain⟨A,cp,rfl,hrest⟩:=hp
  have he:u'= .slice A ys.length cp:=by
   rcases hkin with h|⟨_,_,_,_,h,_⟩|⟨_,_,h,_⟩|⟨hz,_⟩
   ·exact h
   ·cases h
   ·cases h
   ·exfalso
    obtain⟨off2,m2,c2,hv4,h5,h6⟩:=hz
    rw[hv2] at hv4
    simp at hv4
    obtain⟨rfl,_⟩:=hv4
    have:k0*n≤i*n:=Nat.mul_le_mul_right n hki
    omega
  subst he
  have hcell:w.cell? ⟨b,o+i*n+j,none⟩=some (.slice A ys.length cp):=by simp[World.cell?,g2];simpa using hu'
  exact⟨_,by simp[execOp,hu,Instr.loadAt,Instr.sureAddr,jK ht hcell],A,cp,rfl,hrest⟩) (fun a w hs=>k a w hs)
theorem Gy {Z:Nat→Nat→Prop} {W w:World} {b o:Nat} {vs:List Value} {c':Array Value} {t':TypeId} (hg:w.heap[b]?=some (.cells c' t' (0,0))) (hkin:Pw Z W w b) (h0:0<vs.length) (hc:∀(j:Nat) (v:Value),vs[j]?=some v→∃u,cellW W b (o+j) u∧kin (Z b (o+j)) u v):
 o+vs.length≤c'.size∧Pw Z W (w.setRow b (c'.toList.take o++vs++c'.toList.drop (o+vs.length)).toArray) b:=by
 obtain⟨c,t,c2,t2,g1,g2,g3,g4⟩:=hkin
 have e:c2=c'∧t2=t':=by rw[g2] at hg;cases hg;exact⟨rfl,rfl⟩
 obtain⟨rfl,rfl⟩:=e
 have hlen:o+vs.length≤c2.size:=by
  obtain⟨u,⟨c0,_,_,hc0,hu⟩,_⟩:=hc (vs.length- 1) _ (List.getElem?_eq_getElem O)
  rw[g1] at hc0;cases hc0
  have:=(Array.getElem?_eq_some_iff.1 hu).1
  omega
 refine⟨hlen,c,t,_,t2,g1,setRow_heap w b _ _ t2 _ g2,?_,fun j u hu=> ?_⟩
 ·simp;omega
 ·have hj:j<c.size:=(Array.getElem?_eq_some_iff.1 hu).1
  have htk:(c2.toList.take o).length=o:=by simp;omega
  by_cases h1:j<o
  ·obtain⟨u',hu',hk⟩:=g4 j u hu
   refine⟨u',?_,hk⟩
   rw[List.getElem?_toArray,List.append_assoc,List.getElem?_append_left (by rw[htk];exact h1),List.getElem?_take,if_pos h1]
   simpa using hu'
  ·by_cases h2:j<o+vs.length
   ·obtain⟨u0,⟨c0,_,_,hc0,hu0⟩,hk⟩:=hc (j- o) _ (List.getElem?_eq_getElem O)
    rw[g1] at hc0;cases hc0
    rw[show o+(j- o)=j by omega] at hu0 hk
    rw[hu] at hu0
    cases hu0
    refine⟨_,?_,hk⟩
    rw[List.getElem?_toArray,List.getElem?_append_left (by rw[List.length_append,htk];exact h2),List.getElem?_append_right (by rw[htk];omega),htk]
    exact List.getElem?_eq_getElem O
   ·obtain⟨u',hu',hk⟩:=g4 j u hu
    refine⟨u',?_,hk⟩
    rw[List.getElem?_toArray,List.getElem?_append_right (by rw[List.length_append,htk];omega),List.length_append,htk,List.getElem?_drop,show o+vs.length+(j- (o+vs.length))=j by omega]
    simpa using hu'
theorem Ek {Z:Nat→Nat→Prop} {W w:World} {D:Fz} {F:Fz} {Ds:List Nat} {key b o:Nat} {vs:List Value} {c':Array Value} {t':TypeId} (hs:SimF B E H a w F Ds) (hk:lkH key H=rgz D W Z) (hD:D b) (hg:w.heap[b]?=some (.cells c' t' (0,0))) (h0:0<vs.length) (hc:∀(j:Nat) (v:Value),vs[j]?=some v→∃u,cellW W b (o+j) u∧kin (Z b (o+j)) u v):
 Sim B E H a (w.setRow b (c'.toList.take o++vs++c'.toList.drop (o+vs.length)).toArray):=by
 have h:=hs.hp key
 rw[hk] at h
 obtain⟨hlen,hkb⟩:=Gy hg (h b hD) h0 hc
 have h1:=hs.row key (rgz D W Z) (c'.toList.take o++vs++c'.toList.drop (o+vs.length)).toArray (g:=b) (by rw[hk];exact hD) (fun b' hb'=>by rw[hk];exact hb') (fun b' hb'=>by
  by_cases e:b'=b
  ·subst e;exact hkb
  ·obtain⟨c,t,c2,t2,g1,g2,g3⟩:=h b' hb'
   exact⟨c,t,c2,t2,g1,(setRow_other w b b' _ e).trans g2,g3⟩)
 refine Sim.less ⟨F,Ds,h1⟩ (fun _ _ _ _ h=>h) (fun t=> ?_)
 by_cases e:key=t
 ·subst e;rw[bD,hk];exact⟨fun _ h=>h,fun h=>h⟩
 ·rw[bF _ _ e];exact⟨fun _ h=>h,fun h=>h⟩
theorem stT {Z:Nat→Nat→Prop} {W:World} {D:Fz} {T n key:Nat} {f:Nat→Sh} {φ:AV} {x y:Operand} (hx:lkO x E=tp W D n f) (hk:lkH key H=rgz D W Z) (h0:Nat.blt 0 n=true) (ht:dK P T) (hy:lkO y E=φ) [hfit:Fit (f 0) φ]
 (k:St r P ops Q B E H rest):St r P ops Q B E H ({ dst:=none,op:= .store T x y,type:=ty,pos:=pos,after:=af,guard:=none }::rest):=fun a w h=>
 qF (ι:=Unit) (E':=fun _=>E) (H':=fun _=>H) h rfl (fun _=>nofun) (fun F Ds hs=>by
  have h1:=hs.opd x
  have hvy:=hs.opd y
  rw[hx] at h1
  rw[hy] at hvy
  obtain⟨b,o,hv,hD,hc⟩:=h1
  obtain⟨u,hu,hcf⟩:=hc 0 (by simpa using h0)
  obtain⟨hkin,hone⟩:=hfit.fit (z:=Z b (o+0)) hcf hvy
  have h2:=hs.hp key
  rw[hk] at h2
  obtain⟨c,t,c',t',g1,g2,g3,g4⟩:=h2 b hD
  have hlt:o<c'.size:=by
   obtain⟨c0,_,_,hc0,hu0⟩:=hu
   rw[g1] at hc0;cases hc0
   have:=(Array.getElem?_eq_some_iff.1 hu0).1
   omega
  refine⟨w.setRow b (c'.toList.take o++ [a.eval y]++c'.toList.drop (o+1)).toArray,?_,(),?_⟩
  ·have:=run_storeVar_one (P:=P) (v:=a.eval y) ht g2 hlt hone
   simp only [execOp,hv,Instr.storeAt,Instr.sureAddr,Sem.run_bind,Sem.run_pure,Result.andThen_ok]
   rw[this];rfl
  ·exact Ek (vs:= [a.eval y]) hs hk hD g2 (by simp) (fun j v hj=>by
    cases j with
    |zero=>simp at hj;subst hj;exact⟨u,hu,hkin⟩
    |succ j=>simp at hj)) (fun _ a w hs=>k a w hs)
def FitAll:List Sh→List AV→Prop
 | [],[]=>True
 |τ::ts,φ::cs=>Fit τ φ∧FitAll ts cs
 |_,_=>False
theorem FitAll.get:∀{ts:List Sh} {cs:List AV},FitAll ts cs→∀{F:Fz} {w:World} {us:List Value},All2 w F cs us→ts.length=us.length∧∀(j:Nat) (τ:Sh) (v:Value),ts[j]?=some τ→us[j]?=some v→∀{z u},τ.is u→kin z u v∧v.oneCell'=true
 | [],[],_,F,w,[],_=>⟨rfl,fun j τ v h=>by simp at h⟩
 |τ::ts,φ::cs,h,F,w,u::us,ha=>by
  obtain⟨h1,h2⟩:=FitAll.get h.2 ha.2
  refine⟨by simp[h1],fun j τ' v hj hv z u' hu'=> ?_⟩
  cases j with
  |zero=>simp at hj hv;subst hj;subst hv;exact h.1.fit hu' ha.1
  |succ j=>exact h2 j τ' v (by simpa using hj) (by simpa using hv) hu'
 | [],_::_,h,_,_,_,_=>h.elim
 |_::_,[],h,_,_,_,_=>h.elim
 | [],[],_,_,_,_::_,ha=>ha.elim
 |_::_,_::_,_,_,_,[],ha=>ha.elim
theorem Xo {Z:Nat→Nat→Prop} {W:World} {D:Fz} {T n key:Nat} {f:Nat→Sh} {cs:List AV} {x y:Operand} (hx:lkO x E=tp W D n f) (hk:lkH key H=rgz D W Z) (h0:Nat.blt 0 n=true) (ht:gX P T n) (hy:lkO y E=agg cs) (hfit:FitAll ((List.range n).map f) cs)
 (k:St r P ops Q B E H rest):St r P ops Q B E H ({ dst:=none,op:= .store T x y,type:=ty,pos:=pos,after:=af,guard:=none }::rest):=fun a w h=>
 qF (ι:=Unit) (E':=fun _=>E) (H':=fun _=>H) h rfl (fun _=>nofun) (fun F Ds hs=>by
  have h1:=hs.opd x
  have hvy:=hs.opd y
  rw[hx] at h1
  rw[hy] at hvy
  obtain⟨b,o,hv,hD,hc⟩:=h1
  obtain⟨us,hus,hau⟩:=hvy
  obtain⟨hl,hfa⟩:=hfit.get hau
  simp only [List.length_map,List.length_range] at hl
  have h0:0<n:=by simpa using h0
  have hall:∀(j:Nat) (v:Value),us[j]?=some v→∃u,cellW W b (o+j) u∧kin (Z b (o+j)) u v∧v.oneCell'=true:=fun j v hj=>by
   have hjn:j<n:=by rw[hl];exact(List.getElem?_eq_some_iff.1 hj).1
   obtain⟨u,hu,hcf⟩:=hc j hjn
   obtain⟨g1,g2⟩:=hfa j (f j) v (by simp[hjn]) hj hcf
   exact⟨u,hu,g1,g2⟩
  have h2:=hs.hp key
  rw[hk] at h2
  obtain⟨c,t,c',t',g1,g2,g3,g4⟩:=h2 b hD
  have hone:∀v∈us,v.oneCell'=true:=fun v hv'=>by
   obtain⟨j,hj⟩:=List.getElem?_of_mem hv'
   obtain⟨_,_,_,h⟩:=hall j v hj
   exact h
  have hlt:=(Gy (o:=o) (vs:=us) g2 (h2 b hD) O (fun j v hj=>by obtain⟨u,h1,h2,_⟩:=hall j v hj;exact⟨u,h1,h2⟩)).1
  refine⟨w.setRow b (c'.toList.take o++us++c'.toList.drop (o+us.length)).toArray,?_,(),Ek hs hk hD g2 O (fun j v hj=>by obtain⟨u,h1,h2,_⟩:=hall j v hj;exact⟨u,h1,h2⟩)⟩
  have:=nD (P:=P) (vs:=us) (cur:=c') (o:=o) ht O g2 O hone
  simp only [execOp,hv,hus,Instr.storeAt,Instr.sureAddr,Sem.run_bind,Sem.run_pure,Result.andThen_ok]
  rw[this];rfl) (fun _ a w hs=>k a w hs)
theorem Fe {W:World} {D:Fz} {φ:AV} {v:Value} (hv:φ.p W D v) {w:World} {F:Fz} {u:Value} (h:(eqv v).p w F u):(wv W D φ).p w F u:=by
 have h:u=v:=h
 subst h;exact hv
theorem yH {α:Type} {n:Nat} {enc:α→List AV} {xs:List α} {w:World} {F:Fz} {v:Value} (h:(sl n enc xs).p w F v):xs.length≤aR:=by
 obtain⟨_,_,_,_,h,_⟩:=h
 exact h
theorem wvI {α:Type} {W:World} {D:Fz} {n:Nat} {enc:α→List AV} {xs:List α} (t:Nat) (hx:lk t E=wv W D (sl n enc xs)):∀a w,Sim B E H a w→xs.length≤aR:=fun a w ⟨F,Ds,hs⟩=>by
 have h:=hs.env t
 rw[hx] at h
 exact yH (w:=W) (F:=D) h
end
theorem mH (c k:Nat) (x:HA):lkH k [(c,x)]=if c=k then x else emp:=by
 by_cases hc:c=k
 ·subst hc;rw[bD,if_pos rfl]
 ·rw[bF _ _ hc,if_neg hc];rfl
theorem cI (c:Nat) (x:HA) (b:Nat):fB [(c,x)] b↔x.foot b:=by
 constructor
 ·rintro⟨k,hk⟩
  rw[mH] at hk
  split at hk
  ·exact hk
  ·exact hk.elim
 ·intro hx
  exact⟨c,by rw[mH,if_pos rfl];exact hx⟩
theorem HpOk.rekey {c c':Nat} {x:HA} {w:World} {F:Fz} (h:HpOk [(c,x)] w F):HpOk [(c',x)] w F:=by
 have h1:=h.hp c
 have h2:=h.hF c
 have h3:=h.hN c
 rw[mH,if_pos rfl] at h1 h2 h3
 refine⟨fun k=> ?_,fun k b hb=> ?_,fun k k' b hne hb hb'=> ?_,fun k b hb=> ?_⟩
 ·rw[mH];split
  ·exact h1
  ·trivial
 ·rw[mH] at hb;split at hb
  ·exact h2 b hb
  ·exact hb.elim
 ·rw[mH] at hb hb'
  split at hb
  ·next e=>rw[if_neg O] at hb';exact hb'.elim
  ·exact hb.elim
 ·rw[mH] at hb;split at hb
  ·exact h3 b hb
  ·exact hb.elim
theorem jI {P:Program} {f:FuncId} {args:List AV} {x y:HA} {ι:Type} {res:Nat→ι→AV} (c c':Nat) (h:Fn P f args [(c,x)] res (fun _=> [(c,y)])):Fn P f args [(c',x)] res (fun _=> [(c',y)]):=
 fun w F vs h1 h2 h3=>(h w F vs h1 h2 h3.rekey).mono (fun en w' hq=>by
  obtain⟨i,v,F',he,hl⟩:=hq
  exact⟨i,v,F',he,{ hl with
     res:=hl.res
     ok:=hl.ok.rekey
     new:=fun b hb=>(hl.new b hb).imp id (fun h=>h.imp id (fun h=>(cI c' x b).2 ((cI c x b).1 h)))
     foot:=fun b hb=>(hl.foot b ((cI c y b).2 ((cI c' y b).1 hb))).imp id (fun h=>(cI c' x b).2 ((cI c x b).1 h))
     old:=fun b hb hn=>hl.old b hb (fun h=>hn ((cI c' x b).2 ((cI c x b).1 h))) }⟩)
theorem lA {α:Type} {w:World} {D:Fz} {ψs:List AV} {vs:List Value} {i n:Nat} {enc:α→List AV} {xs:List α} (h:All2 w D ψs vs) (hi:ψs[i]?=some (sl n enc xs)):(sl n enc xs).p w D (sv (ix vs i)):=by
 obtain⟨u,hu,hp⟩:=h.get hi
 have:ix vs i=u:=by unfold ix;rw[List.getD_eq_getElem?_getD,hu];rfl
 rw[this,KX hp];exact hp
theorem Rp {α:Type} {N n:Nat} {enc:α→List AV} {xs:List α} {w:World} {F:Fz} {u:Value} (h:(fre N (sl n enc xs)).p w F u):(∀{w':World} {F':Fz},(eqv (sv u)).p w' F' u)∧(sl n enc xs).p w (pF N w F) u:=
 ⟨fun {w' F'}=>(KX (w:=w) (F:=pF N w F) h).symm,h⟩
theorem WA {α β:Type} {N n m:Nat} {enc:α→List AV} {xs:List α} {enc':β→List AV} {ys:List β} {w:World} {F:Fz} {u:Value} (h:(agg [fre N (sl n enc xs),fre N (sl m enc' ys)]).p w F u):
 ∃v0 v1,(∀{w':World} {F':Fz},(agg [eqv (sv v0),eqv (sv v1)]).p w' F' u)∧(sl n enc xs).p w (pF N w F) v0∧(sl m enc' ys).p w (pF N w F) v1:=by
 obtain⟨us,hu,ha⟩:=h
 match us,ha with
 | [u0,u1],⟨g0,g1,_⟩=>exact⟨u0,u1,fun {w' F'}=>⟨[u0,u1],hu,(Rp g0).1,(Rp g1).1,tV⟩,g0,g1⟩
theorem Cd {α β:Type} {N n m:Nat} {enc:α→List AV} {xs:List α} {enc':β→List AV} {ys:List β} {x:Value} {w:World} {F:Fz} {v:Value} (h:(tup [agg [fre N (sl n enc xs),fre N (sl m enc' ys)],eqv x]).p w F v):
 ∃vs,(∀{w':World} {F':Fz},(tup [agg [eqv (sv (ix vs 0)),eqv (sv (ix vs 1))],eqv x]).p w' F' v)∧All2 w (pF N w F) [sl n enc xs,sl m enc' ys] vs:=by
 obtain⟨us,hu,ha⟩:=h
 match us,ha with
 | [u0,u1],⟨g0,g1,_⟩=>
   obtain⟨a0,a1,h0,h1,h2⟩:=WA g0
   exact⟨[a0,a1],fun {w' F'}=>⟨[u0,u1],hu,h0,g1,tV⟩,h1,h2,tV⟩
theorem MO {α:Type} {f:α→Value} {τ:Sh} (h:∀x,τ.is (f x)):Kinds (fun x=> [eqv (f x)]) 1 (fun _=>τ):=⟨fun x {w F vs} ha j v hj=>by
 match vs,ha with
 | [u],⟨h0,_⟩=>
   have h0:u=f x:=h0
   cases j with
   |zero=>simp at hj;subst hj;rw[h0];exact h x
   |succ j=>simp at hj⟩
end AL
set_option linter.unusedVariables false
namespace AL
open Go Go.Sort Go.Shelf
attribute [local semireducible] any eqv agg tup own osl emp
abbrev BP:= { p:Int × Int//bdP p }
instance:Inhabited BP:=⟨⟨(0,0),by unfold bdP;omega⟩⟩
def sS (p:BP):List Value:= [.int .i64 p.1.1,.int .i64 p.1.2]
def Ce (p:Int × Int):List AV:= [int p.1,int p.2]
theorem MP {w:World} {F:Fz} {xs:List (Int × Int)} {vs:List Value} (h:Els w F 2 Ce xs vs) {i:Nat} (hi:i<xs.length):vs[i*2]?=some (.int .i64 (ix xs i).1)∧vs[i*2+1]?=some (.int .i64 (ix xs i).2):=by
 have h1:=h.el i (ix xs i) (by rw[aK hi];simp[hi])
 have hl:=h.lenD hi
 match hv:(vs.drop (i*2)).take 2,h1 with
 | [a,b],⟨ha,hb,_⟩=>
   have ha:a= .int .i64 (ix xs i).1:=ha
   have hb:b= .int .i64 (ix xs i).2:=hb
   subst ha;subst hb
   have g:∀j,j<2→vs[i*2+j]?=([Value.int .i64 (ix xs i).1,.int .i64 (ix xs i).2]:List Value)[j]?:=fun j hj=>by
     rw[←hv,List.getElem?_take,if_pos hj,List.getElem?_drop]
   exact⟨g 0 O,g 1 O⟩
theorem Px {t n:Nat} (h:t<n*2):t/2<n∧t=t/2*2+t % 2∧t % 2<2:=by omega
def pZ (xs:List (Int × Int)) (h:∀p∈xs,bdP p):List BP:=xs.attach.map fun p=>⟨p.1,h p.1 p.2⟩
theorem MQ (xs:List (Int × Int)) (h:∀p∈xs,bdP p):(pZ xs h).map Subtype.val=xs:=by
 unfold pZ;rw[List.map_map];exact List.attach_map_subtype_val xs
theorem MR (xs:List (Int × Int)) (h:∀p∈xs,bdP p):(pZ xs h).length=xs.length:=by simp[pZ]
theorem Jw {d:List BP} {xs:List (Int × Int)} (h:d.map Subtype.val=xs) {i:Nat} (hi:i<xs.length):(d.toArray[i]!).1=ix xs i:=by
 have hl:d.length=xs.length:=by rw[←h];simp
 subst h
 rw[aK hi,getElem!_pos _ i (by simpa using(show i<d.length by simpa using hi))]
 simp
theorem holds_of {w:World} {F:Fz} {xs:List (Int × Int)} {vs:List Value} {d:List BP} {g e:Nat} {cur:Array Value} (hh:w.heap[g]?=some (.cells cur e (0,0))) (hc:cur.toList.take (xs.length*2)=vs) (h:Els w F 2 Ce xs vs) (hd:d.map Subtype.val=xs):
 HoldsK sS 2 w g 0 d.toArray:=by
 have hl:d.length=xs.length:=by rw[←hd];simp
 intro j hj
 rw[size_flatK] at hj
 have hj':j<xs.length*2:=by simpa [hl] using hj
 obtain⟨h1,h2,h3⟩:=Px hj'
 refine⟨?_,by simp[World.frozen?,hh]⟩
 rw[get_flatK _ _ _ _ (by simpa using hj)]
 obtain⟨g1,g2⟩:=MP h h1
 have hx:=Jw hd h1
 have hcell:∀u,vs[j]?=some u→w.cell? ⟨g,0+j,none⟩=some u:=fun u hu=>by
  rw[←hc,List.getElem?_take,if_pos hj'] at hu
  simp only [World.cell?,hh,Nat.zero_add]
  simpa using hu
 rcases Nat.lt_or_ge (j % 2) 1 with h4|h4
 ·have e0:j % 2=0:=by omega
  rw[e0] at h2
  rw[e0,hcell _ (by rw[h2];exact g1)]
  show some _=some (Value.int .i64 (d.toArray[j/2]!).1.1)
  rw[hx]
 ·have e0:j % 2=1:=by omega
  rw[e0] at h2
  rw[e0,hcell _ (by rw[h2];exact g2)]
  show some _=some (Value.int .i64 (d.toArray[j/2]!).1.2)
  rw[hx]
theorem Ai {cur:Array Value} {n:Nat} {d:List BP} (hd:d.length=n) (hs:n*2≤cur.size) (i:Nat) (hi:i<n) (c:Nat) (hc:c<2):
 (putCells id 0 (flatK sS 2 d.toArray) cur).toList[i*2+c]?=(sS (d.toArray[i]!))[c]?:=by
 rw[Array.getElem?_toList]
 unfold putCells
 have hlt:i*2+c<cur.size:=by omega
 rw[Array.getElem?_mapIdx,Array.getElem?_eq_getElem hlt,Option.map_some,size_flatK,if_pos ⟨Nat.zero_le _,by simp[hd];omega⟩,Nat.sub_zero,get_flatK _ _ _ _ (by simp[hd];omega)]
 have e1:(i*2+c)/2=i:=by omega
 have e2:(i*2+c) % 2=c:=by omega
 rw[e1,e2]
 rcases(show c=0∨c=1 by omega) with rfl|rfl<;>rfl
theorem MS {w:World} {F:Fz} {cur:Array Value} {xs:List (Int × Int)} {d:List BP} (hd:d.map Subtype.val=xs) (hs:xs.length*2≤cur.size):
 Els w F 2 Ce xs ((putCells id 0 (flatK sS 2 d.toArray) cur).toList.take (xs.length*2)):=by
 have hl:d.length=xs.length:=by rw[←hd];simp
 have hsz:(putCells id 0 (flatK sS 2 d.toArray) cur).size=cur.size:=by simp[putCells]
 refine⟨by simp[hsz];omega,fun i x hi=> ?_⟩
 obtain⟨hlt,rfl⟩:=List.getElem?_eq_some_iff.1 hi
 have h0:=Ai hl hs i hlt 0 O
 have h1:=Ai hl hs i hlt 1 O
 have hx:=Jw hd hlt
 have e:(((putCells id 0 (flatK sS 2 d.toArray) cur).toList.take (xs.length*2)).drop (i*2)).take 2= [.int .i64 (ix xs i).1,.int .i64 (ix xs i).2]:=by
  apply List.ext_getElem?
  intro t
  rw[List.getElem?_take]
  split
  ·next ht=>
   rw[List.getElem?_drop,List.getElem?_take,if_pos O]
   rcases(show t=0∨t=1 by omega) with rfl|rfl
   ·rw[h0,←hx];rfl
   ·rw[h1,←hx];rfl
  ·next ht=>rw[List.getElem?_eq_none (by simp;omega)]
 rw[e,aK hlt]
 exact⟨rfl,rfl,tV⟩
theorem pL {c:Nat} {x:HA} {w:World} {F:Fz} (hp:x.p w F) (hF:∀b,x.foot b→¬F b) (hN:∀b,x.foot b→b<w.heap.size):HpOk [(c,x)] w F:=by
 have hf:∀k b,(lkH k [(c,x)]).foot b→c=k∧x.foot b:=fun k b h=>by
  rw[mH] at h
  split at h
  ·next e=>exact⟨e,h⟩
  ·exact h.elim
 refine⟨fun k=> ?_,fun k b h=>hF b (hf k b h).2,fun k k' b e h h'=>e ((hf k b h).1.symm.trans (hf k' b h').1),fun k b h=>hN b (hf k b h).2⟩
 rw[mH]
 split
 ·exact hp
 ·trivial
theorem SI {cf:BP→BP→Int} (hcf:∀p q:BP,decide (cf p q<0)=lexB p.1 q.1):SWO (Go.Proofs.ltOf cf):=by
 have e:∀p q:BP,Go.Proofs.ltOf cf p q=true↔p.1.1<q.1.1∨(p.1.1=q.1.1∧p.1.2<q.1.2):=fun p q=>by
  unfold Go.Proofs.ltOf
  rw[hcf];unfold lexB;simp
 have e':∀p q:BP,Go.Proofs.ltOf cf p q=false↔¬(p.1.1<q.1.1∨(p.1.1=q.1.1∧p.1.2<q.1.2)):=fun p q=>by
  rw[←e p q];simp
 refine⟨fun x=>(e' x x).2 O,fun x y z h1 h2=> ?_,fun x y z h1 h2=> ?_⟩
 ·rw[e] at*;omega
 ·rw[e'] at*;omega
theorem CZ {P:Program} {ρ:Ren} (L:Go.Proofs.SlLaysF0.n6 P ρ) {e:Nat} (he:ρ.t 24=e) (hag:gX P e 2) {g:Nat} (eg:Ent P g) (cf:BP→BP→Int) (hcf:∀p q:BP,decide (cf p q<0)=lexB p.1 q.1)
 (hcmp:∀(p q:BP) (W:World),Calls P g #[.agg #[.int .i64 p.1.1,.int .i64 p.1.2],.agg #[.int .i64 q.1.1,.int .i64 q.1.2]] W fun en W'=>en= .returned (.int .i64 (cf p q))∧∃n os,W'=grow (W.drewN n) os)
 (v:Value) (xs:List (Int × Int)) (hb:∀p∈xs,bdP p):
 Fn P (ρ.f 6) [osl 5 v,eqv (.func (.func g) #[] #[])] [(5,own v e 2 Ce xs)] (ι:=Unit) (fun _ _=>tup []) (fun _=> [(5,own v e 2 Ce (cF xs))]):=by
 intro w F vs hvs hFb hH
 match vs,hvs with
 | [u0,u1],⟨h0,h1,_⟩=>
 have h0:u0=v:=h0
 have h1:u1= .func (.func g) #[] #[]:=h1
 subst h0;subst h1
 have hp:=hH.hp 5
 rw[bD] at hp
 have hfoot:∀b,ownB u0 b→b<w.heap.size∧¬F b:=fun b hb=>⟨hH.hN 5 b (by rw[bD];exact hb),hH.hF 5 b (by rw[bD];exact hb)⟩
 obtain⟨hm,us,⟨hul,hrow⟩,hels⟩:=hp
 have hpl:=(eV xs).length_eq
 by_cases hx:xs= []
 ·subst hx
  have hv:∃p cap,u0= .slice p 0 cap:=by
   rcases hrow with⟨h,_⟩|⟨g',cap,cur,h,_⟩
   ·exact⟨_,_,h⟩
   ·exact⟨_,_,h⟩
  obtain⟨p,cap,hv⟩:=hv
  have e0:cF ([]:List (Int × Int))= []:=List.mergeSort_nil
  rw[e0,hv]
  refine(Go.Proofs.AnyF.slices_SortFunc_none L p cap _ w).mono ?_
  rintro en w' ⟨rfl,rfl⟩
  rw[←hv]
  exact⟨(),_,F,rfl,{ res:=⟨[],rfl,tV⟩,ok:=pL ⟨hm,us,⟨hul,hrow⟩,hels⟩ (fun b hb=>(hfoot b hb).2) (fun b hb=>(hfoot b hb).1),sub:=fun _ h=>h,new:=fun b h=> .inl h,foot:=fun b h=> .inr h,old:=fun _ _ _=>rfl,size:=Nat.le_refl _,os:=rfl,tape:=rfl,out:=rfl }⟩
 ·rcases hrow with⟨_,h⟩|⟨g',cap,cur,rfl,_,hh,hcap,hcm,hcs,htk⟩
  ·exact absurd (List.eq_nil_of_length_eq_zero h) hx
  have hgl:=(hfoot g' rfl).1
  have hd:=MQ xs hb
  have hdl:=MR xs hb
  have hmx:(140737488355328:Nat)<4611686018427387904:=by omega
  have hsz:(pZ xs hb).toArray.size=xs.length:=by simpa using hdl
  have hT:∀x y:BP,(Go.Proofs.ltOf cf) x y=false→(Go.Proofs.ltOf cf) y x=false→x=y:=fun x y h1 h2=>by
   unfold Go.Proofs.ltOf at h1 h2
   rw[hcf] at h1 h2
   unfold lexB at h1 h2
   simp at h1 h2
   exact Subtype.ext (Prod.ext O O)
  have key:=Go.Proofs.AnyQ.slices_SortFunc_total L 2 (fun W=>by rw[he];exact hag.agg W) (fun W=>by rw[he];exact hag.size W) sS (fun _=>rfl) (fun x u hu=>by
   unfold sS at hu
   rcases List.mem_cons.1 hu with rfl|hu
   ·rfl
   ·rcases List.mem_cons.1 hu with rfl|hu
    ·rfl
    ·cases hu) cf (SI hcf) g #[] g' 0 cap (pZ xs hb).toArray w eg.run (fun m os dk hk x y=>hcmp x y _) (holds_of hh htk hels hd) hgl (by rw[hsz];unfold aR at hm;omega) hT
  rw[hsz] at key
  refine key.mono ?_
  rintro en w' ⟨rfl,n,os,rfl⟩
  have hsd:((pZ xs hb).mergeSort fun x y=> !(Go.Proofs.ltOf cf) y x).map Subtype.val=cF xs:=by
   unfold cF
   rw[List.map_mergeSort (s:=fun p q=> !lexB q p) (fun a _ b _=>by unfold Go.Proofs.ltOf;rw[hcf]),hd]
  have hheap:∀b,b<w.heap.size→(Go.Proofs.sortWorldK sS 2 w g' 0 n ((pZ xs hb).mergeSort fun x y=> !(Go.Proofs.ltOf cf) y x).toArray os).heap[b]?=if b=g' then some (.cells (putCells id 0 (flatK sS 2 ((pZ xs hb).mergeSort fun x y=> !(Go.Proofs.ltOf cf) y x).toArray) cur) e (0,0)) else w.heap[b]?:=fun b hb'=>by
   unfold Go.Proofs.sortWorldK
   rw[heap_grow_old _ _ (by simpa [putRowK] using hb')]
   show(w.heap.modify g' _)[b]?=_
   rw[Array.getElem?_modify]
   by_cases e1:g'=b
   ·subst e1;rw[if_pos rfl,if_pos rfl,hh];rfl
   ·rw[if_neg e1,if_neg (Ne.symm e1)]
  have hsize:(Go.Proofs.sortWorldK sS 2 w g' 0 n ((pZ xs hb).mergeSort fun x y=> !(Go.Proofs.ltOf cf) y x).toArray os).heap.size=w.heap.size+os.size:=by simp[Go.Proofs.sortWorldK,putRowK]
  refine⟨(),_,F,rfl,{ res:=⟨[],rfl,tV⟩,ok:=pL ⟨by rw[hpl];exact hm,_,⟨?_,.inr ⟨g',cap,_,by rw[hpl],Nat.zero_le _,(hheap g' hgl).trans (if_pos rfl),by rw[hpl];exact hcap,hcm,by simpa [putCells] using hcs,rfl⟩⟩,MS hsd (by rw[hpl,hcs];exact Nat.mul_le_mul_right 2 hcap)⟩ (fun b hb=>(hfoot b hb).2) (fun b hb=>by rw[hsize];have:=(hfoot b hb).1;omega),sub:=fun _ h=>h,new:=fun b h=> .inl h,foot:=fun b h=> .inr ((cI 5 _ b).2 (show ownB (.slice (some ⟨g',0,none⟩) xs.length cap) b from(cI 5 _ b).1 h)),old:=fun b hb' hnf=> ?_,size:=by rw[hsize];omega,os:=rfl,tape:=rfl,out:=rfl }⟩
  ·simp[putCells,hpl,hcs];rw[Nat.min_eq_left hcap]
  ·rw[hheap b hb',if_neg (fun e1=>hnf ((cI _ _ b).2 (by subst e1;rfl)))]
end AL
