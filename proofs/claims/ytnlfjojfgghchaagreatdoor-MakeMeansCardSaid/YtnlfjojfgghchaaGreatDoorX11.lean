/- The abstract logic. Own texts of this claim, packed: MkALRegion, MkALSort. -/
import Derived.Test.YtnlfjojfgghchaaGreatDoorX02
import Derived.Test.YtnlfjojfgghchaaGreatDoorX05
import Derived.Test.YtnlfjojfgghchaaGreatDoorX09
import Derived.Shelf.SlSortCmp.NoneTotal
set_option linter.all false
set_option linter.unusedVariables false
namespace AL
open Go
attribute [local semireducible] any eqv agg tup fp ptr sl eG emp cell own obj osl dL clo pf mp mpv
inductive Sh where
 |i
 |s
def Sh.is:Sh→Value→Prop
 | .i,v=> ∃k m,v= .int k m
 | .s,v=> ∃s,v= .string s
def cellW (W:World) (b o:Nat) (u:Value):Prop:=∃c ty fr,W.heap[b]?=some (.cells c ty fr)∧c[o]?=some u
def kin (z:Prop) (u u':Value):Prop:=u'=u∨(∃k m k' m',u= .int k m∧u'= .int k' m')∨(∃s s',u= .string s∧u'= .string s')∨(z∧(∃A m c,u= .slice A m c)∧u'= .slice none 0 0)
def tp (W:World) (D:Fz) (n:Nat) (f:Nat→Sh):AV:=⟨fun _ _ v=> ∃b off,v= .pointer (some ⟨b,off,none⟩)∧D b∧∀j,j<n→∃u,cellW W b (off+j) u∧(f j).is u,fun _ _ h=>h⟩
class Fit (τ:Sh) (φ:AV):Prop where
 fit:∀{z w F u v},τ.is u→φ.p w F v→kin z u v∧v.oneCell'=true
instance (k:IntKind) (m:Int):Fit .i (eqv (.int k m)):=⟨fun {z w F u v} h hv=>by
 obtain⟨k',m',rfl⟩:=h
 have hv:v= .int k m:=hv
 subst hv
 exact⟨.inr (.inl ⟨_,_,_,_,rfl,rfl⟩),rfl⟩⟩
instance (s:ByteArray):Fit .s (eqv (.string s)):=⟨fun {z w F u v} h hv=>by
 obtain⟨s',rfl⟩:=h
 have hv:v= .string s:=hv
 subst hv
 exact⟨.inr (.inr (.inl ⟨_,_,rfl,rfl⟩)),rfl⟩⟩
section
variable {P:Program} {r:Option Nat} {ops:Array Oper} {Q:Exit→Act→World→Prop} {rest:List Oper} {B:Base} {E:Env} {H:Hp} {a:Act} {w:World}
variable {d ty:Nat} {pos:String} {af:Array Edge} {ι:Type}
end
theorem lR (c k:Nat) (x:HA):lkH k [(c,x)]=if c=k then x else emp:=by
 by_cases hc:c=k
 ·subst hc;rw[bB,if_pos rfl]
 ·rw[bG _ _ hc,if_neg hc];rfl
theorem bX (c:Nat) (x:HA) (b:Nat):fQ [(c,x)] b↔x.foot b:=by
 constructor
 ·rintro⟨k,hk⟩
  rw[lR] at hk
  split at hk
  ·exact hk
  ·exact hk.elim
 ·intro hx
  exact⟨c,by rw[lR,if_pos rfl];exact hx⟩
theorem HpOk.rekey {c c':Nat} {x:HA} {w:World} {F:Fz} (h:HpOk [(c,x)] w F):HpOk [(c',x)] w F:=by
 have h1:=h.hp c
 have h2:=h.hF c
 have h3:=h.hN c
 rw[lR,if_pos rfl] at h1 h2 h3
 refine⟨fun k=> ?_,fun k b hb=> ?_,fun k k' b hne hb hb'=> ?_,fun k b hb=> ?_⟩
 ·rw[lR];split
  ·exact h1
  ·trivial
 ·rw[lR] at hb;split at hb
  ·exact h2 b hb
  ·exact hb.elim
 ·rw[lR] at hb hb'
  split at hb
  ·next e=>rw[if_neg O] at hb';exact hb'.elim
  ·exact hb.elim
 ·rw[lR] at hb;split at hb
  ·exact h3 b hb
  ·exact hb.elim
theorem nM {P:Program} {f:FuncId} {args:List AV} {x y:HA} {ι:Type} {res:Nat→ι→AV} (c c':Nat) (h:Fn P f args [(c,x)] res (fun _=> [(c,y)])):Fn P f args [(c',x)] res (fun _=> [(c',y)]):=
 fun w F vs h1 h2 h3=>(h w F vs h1 h2 h3.rekey).mono (fun en w' hq=>by
  obtain⟨i,v,F',he,hl⟩:=hq
  exact⟨i,v,F',he,{ hl with
     res:=hl.res
     ok:=hl.ok.rekey
     new:=fun b hb=>(hl.new b hb).imp id (fun h=>h.imp id (fun h=>(bX c' x b).2 ((bX c x b).1 h)))
     foot:=fun b hb=>(hl.foot b ((bX c y b).2 ((bX c' y b).1 hb))).imp id (fun h=>(bX c' x b).2 ((bX c x b).1 h))
     old:=fun b hb hn=>hl.old b hb (fun h=>hn ((bX c' x b).2 ((bX c x b).1 h))) }⟩)
end AL
set_option linter.unusedVariables false
namespace AL
open Go Go.Sort Go.Shelf
attribute [local semireducible] any eqv agg tup own osl emp
abbrev BP:= { p:Int × Int//bdP p }
instance:Inhabited BP:=⟨⟨(0,0),by unfold bdP;omega⟩⟩
def sF (p:BP):List Value:= [.int .i64 p.1.1,.int .i64 p.1.2]
def Cn (p:Int × Int):List AV:= [int p.1,int p.2]
theorem MD {w:World} {F:Fz} {xs:List (Int × Int)} {vs:List Value} (h:Els w F 2 Cn xs vs) {i:Nat} (hi:i<xs.length):vs[i*2]?=some (.int .i64 (ix xs i).1)∧vs[i*2+1]?=some (.int .i64 (ix xs i).2):=by
 have h1:=h.el i (ix xs i) (by rw[aG hi];simp[hi])
 have hl:=h.lenD hi
 match hv:(vs.drop (i*2)).take 2,h1 with
 | [a,b],⟨ha,hb,_⟩=>
   have ha:a= .int .i64 (ix xs i).1:=ha
   have hb:b= .int .i64 (ix xs i).2:=hb
   subst ha;subst hb
   have g:∀j,j<2→vs[i*2+j]?=([Value.int .i64 (ix xs i).1,.int .i64 (ix xs i).2]:List Value)[j]?:=fun j hj=>by
     rw[←hv,List.getElem?_take,if_pos hj,List.getElem?_drop]
   exact⟨g 0 O,g 1 O⟩
theorem Pv {t n:Nat} (h:t<n*2):t/2<n∧t=t/2*2+t % 2∧t % 2<2:=by omega
def pV (xs:List (Int × Int)) (h:∀p∈xs,bdP p):List BP:=xs.attach.map fun p=>⟨p.1,h p.1 p.2⟩
theorem ME (xs:List (Int × Int)) (h:∀p∈xs,bdP p):(pV xs h).map Subtype.val=xs:=by
 unfold pV;rw[List.map_map];exact List.attach_map_subtype_val xs
theorem MF (xs:List (Int × Int)) (h:∀p∈xs,bdP p):(pV xs h).length=xs.length:=by simp[pV]
theorem Jg {d:List BP} {xs:List (Int × Int)} (h:d.map Subtype.val=xs) {i:Nat} (hi:i<xs.length):(d.toArray[i]!).1=ix xs i:=by
 have hl:d.length=xs.length:=by rw[←h];simp
 subst h
 rw[aG hi,getElem!_pos _ i (by simpa using(show i<d.length by simpa using hi))]
 simp
theorem holds_of {w:World} {F:Fz} {xs:List (Int × Int)} {vs:List Value} {d:List BP} {g e:Nat} {cur:Array Value} (hh:w.heap[g]?=some (.cells cur e (0,0))) (hc:cur.toList.take (xs.length*2)=vs) (h:Els w F 2 Cn xs vs) (hd:d.map Subtype.val=xs):
 HoldsK sF 2 w g 0 d.toArray:=by
 have hl:d.length=xs.length:=by rw[←hd];simp
 intro j hj
 rw[size_flatK] at hj
 have hj':j<xs.length*2:=by simpa [hl] using hj
 obtain⟨h1,h2,h3⟩:=Pv hj'
 refine⟨?_,by simp[World.frozen?,hh]⟩
 rw[get_flatK _ _ _ _ (by simpa using hj)]
 obtain⟨g1,g2⟩:=MD h h1
 have hx:=Jg hd h1
 have hcell:∀u,vs[j]?=some u→w.cell? ⟨g,0+j,none⟩=some u:=fun u hu=>by
  rw[←hc,List.getElem?_take,if_pos hj'] at hu
  simp only [World.cell?,hh,Nat.zero_add]
  simpa using hu
 rcases Nat.lt_or_ge (j % 2) 1 with h4|h4
 ·have e0:j % 2=0:=by omega
  rw[e0] at h2
  rw[e0,hcell _ (by rw[h2];exact g1)]
  show some _=some (Value.int .i64 (d.toArray[j/2]!).1.1)
  rw[hx]
 ·have e0:j % 2=1:=by omega
  rw[e0] at h2
  rw[e0,hcell _ (by rw[h2];exact g2)]
  show some _=some (Value.int .i64 (d.toArray[j/2]!).1.2)
  rw[hx]
theorem Ae {cur:Array Value} {n:Nat} {d:List BP} (hd:d.length=n) (hs:n*2≤cur.size) (i:Nat) (hi:i<n) (c:Nat) (hc:c<2):
 (putCells id 0 (flatK sF 2 d.toArray) cur).toList[i*2+c]?=(sF (d.toArray[i]!))[c]?:=by
 rw[Array.getElem?_toList]
 unfold putCells
 have hlt:i*2+c<cur.size:=by omega
 rw[Array.getElem?_mapIdx,Array.getElem?_eq_getElem hlt,Option.map_some,size_flatK,if_pos ⟨Nat.zero_le _,by simp[hd];omega⟩,Nat.sub_zero,get_flatK _ _ _ _ (by simp[hd];omega)]
 have e1:(i*2+c)/2=i:=by omega
 have e2:(i*2+c) % 2=c:=by omega
 rw[e1,e2]
 rcases(show c=0∨c=1 by omega) with rfl|rfl<;>rfl
theorem MG {w:World} {F:Fz} {cur:Array Value} {xs:List (Int × Int)} {d:List BP} (hd:d.map Subtype.val=xs) (hs:xs.length*2≤cur.size):
 Els w F 2 Cn xs ((putCells id 0 (flatK sF 2 d.toArray) cur).toList.take (xs.length*2)):=by
 have hl:d.length=xs.length:=by rw[←hd];simp
 have hsz:(putCells id 0 (flatK sF 2 d.toArray) cur).size=cur.size:=by simp[putCells]
 refine⟨by simp[hsz];omega,fun i x hi=> ?_⟩
 obtain⟨hlt,rfl⟩:=List.getElem?_eq_some_iff.1 hi
 have h0:=Ae hl hs i hlt 0 O
 have h1:=Ae hl hs i hlt 1 O
 have hx:=Jg hd hlt
 have e:(((putCells id 0 (flatK sF 2 d.toArray) cur).toList.take (xs.length*2)).drop (i*2)).take 2= [.int .i64 (ix xs i).1,.int .i64 (ix xs i).2]:=by
  apply List.ext_getElem?
  intro t
  rw[List.getElem?_take]
  split
  ·next ht=>
   rw[List.getElem?_drop,List.getElem?_take,if_pos O]
   rcases(show t=0∨t=1 by omega) with rfl|rfl
   ·rw[h0,←hx];rfl
   ·rw[h1,←hx];rfl
  ·next ht=>rw[List.getElem?_eq_none (by simp;omega)]
 rw[e,aG hlt]
 exact⟨rfl,rfl,tV⟩
theorem oZ {c:Nat} {x:HA} {w:World} {F:Fz} (hp:x.p w F) (hF:∀b,x.foot b→¬F b) (hN:∀b,x.foot b→b<w.heap.size):HpOk [(c,x)] w F:=by
 have hf:∀k b,(lkH k [(c,x)]).foot b→c=k∧x.foot b:=fun k b h=>by
  rw[lR] at h
  split at h
  ·next e=>exact⟨e,h⟩
  ·exact h.elim
 refine⟨fun k=> ?_,fun k b h=>hF b (hf k b h).2,fun k k' b e h h'=>e ((hf k b h).1.symm.trans (hf k' b h').1),fun k b h=>hN b (hf k b h).2⟩
 rw[lR]
 split
 ·exact hp
 ·trivial
theorem SV {cf:BP→BP→Int} (hcf:∀p q:BP,decide (cf p q<0)=lexB p.1 q.1):SWO (Go.Proofs.ltOf cf):=by
 have e:∀p q:BP,Go.Proofs.ltOf cf p q=true↔p.1.1<q.1.1∨(p.1.1=q.1.1∧p.1.2<q.1.2):=fun p q=>by
  unfold Go.Proofs.ltOf
  rw[hcf];unfold lexB;simp
 have e':∀p q:BP,Go.Proofs.ltOf cf p q=false↔¬(p.1.1<q.1.1∨(p.1.1=q.1.1∧p.1.2<q.1.2)):=fun p q=>by
  rw[←e p q];simp
 refine⟨fun x=>(e' x x).2 O,fun x y z h1 h2=> ?_,fun x y z h1 h2=> ?_⟩
 ·rw[e] at*;omega
 ·rw[e'] at*;omega
theorem zN {P:Program} {ρ:Ren} (L:Go.Proofs.SlLaysF0.n6 P ρ) {e:Nat} (he:ρ.t 24=e) (hag:gS P e 2) {g:Nat} (eg:Ent P g) (cf:BP→BP→Int) (hcf:∀p q:BP,decide (cf p q<0)=lexB p.1 q.1)
 (hcmp:∀(p q:BP) (W:World),Calls P g #[.agg #[.int .i64 p.1.1,.int .i64 p.1.2],.agg #[.int .i64 q.1.1,.int .i64 q.1.2]] W fun en W'=>en= .returned (.int .i64 (cf p q))∧∃n os,W'=grow (W.drewN n) os)
 (v:Value) (xs:List (Int × Int)) (hb:∀p∈xs,bdP p):
 Fn P (ρ.f 6) [osl 5 v,eqv (.func (.func g) #[] #[])] [(5,own v e 2 Cn xs)] (ι:=Unit) (fun _ _=>tup []) (fun _=> [(5,own v e 2 Cn (bT xs))]):=by
 intro w F vs hvs hFb hH
 match vs,hvs with
 | [u0,u1],⟨h0,h1,_⟩=>
 have h0:u0=v:=h0
 have h1:u1= .func (.func g) #[] #[]:=h1
 subst h0;subst h1
 have hp:=hH.hp 5
 rw[bB] at hp
 have hfoot:∀b,ownB u0 b→b<w.heap.size∧¬F b:=fun b hb=>⟨hH.hN 5 b (by rw[bB];exact hb),hH.hF 5 b (by rw[bB];exact hb)⟩
 obtain⟨hm,us,⟨hul,hrow⟩,hels⟩:=hp
 have hpl:=(fJ xs).length_eq
 by_cases hx:xs= []
 ·subst hx
  have hv:∃p cap,u0= .slice p 0 cap:=by
   rcases hrow with⟨h,_⟩|⟨g',cap,cur,h,_⟩
   ·exact⟨_,_,h⟩
   ·exact⟨_,_,h⟩
  obtain⟨p,cap,hv⟩:=hv
  have e0:bT ([]:List (Int × Int))= []:=List.mergeSort_nil
  rw[e0,hv]
  refine(Go.Proofs.AnyF.slices_SortFunc_none L p cap _ w).mono ?_
  rintro en w' ⟨rfl,rfl⟩
  rw[←hv]
  exact⟨(),_,F,rfl,{ res:=⟨[],rfl,tV⟩,ok:=oZ ⟨hm,us,⟨hul,hrow⟩,hels⟩ (fun b hb=>(hfoot b hb).2) (fun b hb=>(hfoot b hb).1),sub:=fun _ h=>h,new:=fun b h=> .inl h,foot:=fun b h=> .inr h,old:=fun _ _ _=>rfl,size:=Nat.le_refl _,os:=rfl,tape:=rfl,out:=rfl }⟩
 ·rcases hrow with⟨_,h⟩|⟨g',cap,cur,rfl,_,hh,hcap,hcm,hcs,htk⟩
  ·exact absurd (List.eq_nil_of_length_eq_zero h) hx
  have hgl:=(hfoot g' rfl).1
  have hd:=ME xs hb
  have hdl:=MF xs hb
  have hmx:(140737488355328:Nat)<4611686018427387904:=by omega
  have hsz:(pV xs hb).toArray.size=xs.length:=by simpa using hdl
  have hT:∀x y:BP,(Go.Proofs.ltOf cf) x y=false→(Go.Proofs.ltOf cf) y x=false→x=y:=fun x y h1 h2=>by
   unfold Go.Proofs.ltOf at h1 h2
   rw[hcf] at h1 h2
   unfold lexB at h1 h2
   simp at h1 h2
   exact Subtype.ext (Prod.ext O O)
  have key:=Go.Proofs.AnyQ.slices_SortFunc_total L 2 (fun W=>by rw[he];exact hag.agg W) (fun W=>by rw[he];exact hag.size W) sF (fun _=>rfl) (fun x u hu=>by
   unfold sF at hu
   rcases List.mem_cons.1 hu with rfl|hu
   ·rfl
   ·rcases List.mem_cons.1 hu with rfl|hu
    ·rfl
    ·cases hu) cf (SV hcf) g #[] g' 0 cap (pV xs hb).toArray w eg.run (fun m os dk hk x y=>hcmp x y _) (holds_of hh htk hels hd) hgl (by rw[hsz];unfold aN at hm;omega) hT
  rw[hsz] at key
  refine key.mono ?_
  rintro en w' ⟨rfl,n,os,rfl⟩
  have hsd:((pV xs hb).mergeSort fun x y=> !(Go.Proofs.ltOf cf) y x).map Subtype.val=bT xs:=by
   unfold bT
   rw[List.map_mergeSort (s:=fun p q=> !lexB q p) (fun a _ b _=>by unfold Go.Proofs.ltOf;rw[hcf]),hd]
  have hheap:∀b,b<w.heap.size→(Go.Proofs.sortWorldK sF 2 w g' 0 n ((pV xs hb).mergeSort fun x y=> !(Go.Proofs.ltOf cf) y x).toArray os).heap[b]?=if b=g' then some (.cells (putCells id 0 (flatK sF 2 ((pV xs hb).mergeSort fun x y=> !(Go.Proofs.ltOf cf) y x).toArray) cur) e (0,0)) else w.heap[b]?:=fun b hb'=>by
   unfold Go.Proofs.sortWorldK
   rw[heap_grow_old _ _ (by simpa [putRowK] using hb')]
   show(w.heap.modify g' _)[b]?=_
   rw[Array.getElem?_modify]
   by_cases e1:g'=b
   ·subst e1;rw[if_pos rfl,if_pos rfl,hh];rfl
   ·rw[if_neg e1,if_neg (Ne.symm e1)]
  have hsize:(Go.Proofs.sortWorldK sF 2 w g' 0 n ((pV xs hb).mergeSort fun x y=> !(Go.Proofs.ltOf cf) y x).toArray os).heap.size=w.heap.size+os.size:=by simp[Go.Proofs.sortWorldK,putRowK]
  refine⟨(),_,F,rfl,{ res:=⟨[],rfl,tV⟩,ok:=oZ ⟨by rw[hpl];exact hm,_,⟨?_,.inr ⟨g',cap,_,by rw[hpl],Nat.zero_le _,(hheap g' hgl).trans (if_pos rfl),by rw[hpl];exact hcap,hcm,by simpa [putCells] using hcs,rfl⟩⟩,MG hsd (by rw[hpl,hcs];exact Nat.mul_le_mul_right 2 hcap)⟩ (fun b hb=>(hfoot b hb).2) (fun b hb=>by rw[hsize];have:=(hfoot b hb).1;omega),sub:=fun _ h=>h,new:=fun b h=> .inl h,foot:=fun b h=> .inr ((bX 5 _ b).2 (show ownB (.slice (some ⟨g',0,none⟩) xs.length cap) b from(bX 5 _ b).1 h)),old:=fun b hb' hnf=> ?_,size:=by rw[hsize];omega,os:=rfl,tape:=rfl,out:=rfl }⟩
  ·simp[putCells,hpl,hcs];rw[Nat.min_eq_left hcap]
  ·rw[hheap b hb',if_neg (fun e1=>hnf ((bX _ _ b).2 (by subst e1;rfl)))]
end AL
