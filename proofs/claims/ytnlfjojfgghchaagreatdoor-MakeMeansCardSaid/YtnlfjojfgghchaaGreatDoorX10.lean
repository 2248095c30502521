/- The walks of the functions and the plain laws. Own texts of this claim, packed: MkWitM. -/
import Derived.Test.YtnlfjojfgghchaaGreatDoorX06
import Derived.Test.YtnlfjojfgghchaaGreatDoorX08
import Derived.Test.YtnlfjojfgghchaaGreatDoorX09
set_option linter.all false
namespace Go.Proofs.YtnlfjojfgghchaaGreatDoor
open AL Go
section
open ref01 ref03 ref04 ref06 prog15 starts Part Rungs LeftM TrimM RoundM BisM BisM5 BisM6 WalkM StepM
structure aA where
 aC:List ByteArray
 sT:List (List (Int × Int))
deriving Inhabited
namespace WitM
abbrev PP:=Int × Int
def zK (ss:List (List Int)) (p:PP):List (List Int):=if p.2∈ix ss p.1.toNat then ss else ss.set p.1.toNat (ix ss p.1.toNat++ [p.2])
structure gX (T:SS) (done:List PP) (ss:List (List Int)):Prop where
 len:ss.length=T.sT.length
 mem:∀x,x<T.sT.length→∀u,u∈ix ss x↔u=ix (acc T x) 0∨((x:Int),u)∈done
 nd:∀x,x<T.sT.length→(ix ss x).Nodup
def lQ (T:SS):List (List Int):=T.sT.map fun x=> [ix x.aP 0]
theorem MC (T:SS):gX T [] (lQ T):=by
 have e:∀x,x<T.sT.length→ix (lQ T) x= [ix (acc T x) 0]:=fun x hx=>by
  unfold lQ;rw[TurnM.zE hx]
 exact⟨by simp[lQ],fun x hx u=>by rw[e x hx];simp,fun x hx=>by rw[e x hx];simp⟩
theorem Gl {T:SS} {done:List PP} {ss:List (List Int)} (h:gX T done ss) {p:PP} (h0:0≤p.1) (hx:p.1<(T.sT.length:Int)):gX T (done++ [p]) (zK ss p):=by
 have hlt:p.1.toNat<T.sT.length:=by omega
 have hp:((p.1.toNat:Nat):Int)=p.1:=by omega
 unfold zK
 by_cases hm:p.2∈ix ss p.1.toNat
 ·rw[if_pos hm]
  refine⟨h.len,fun x hx u=> ?_,h.nd⟩
  rw[h.mem x hx u,List.mem_append]
  refine⟨fun g=>g.imp id .inl,fun g=>g.elim .inl (fun g=>g.elim .inr (fun g=> ?_))⟩
  have g:((x:Int),u)=p:=by simpa using g
  have:=(h.mem p.1.toNat hlt p.2).1 hm
  rw[hp] at this
  rw[←g] at this
  simpa using this
 ·rw[if_neg hm]
  have e:∀x,ix (ss.set p.1.toNat (ix ss p.1.toNat++ [p.2])) x=if x=p.1.toNat then ix ss p.1.toNat++ [p.2] else ix ss x:=fun x=>mC (by rw[h.len];exact hlt) _ x
  refine⟨by simp[h.len],fun x hx u=> ?_,fun x hx=> ?_⟩
  ·rw[e x,List.mem_append]
   by_cases ex:x=p.1.toNat
   ·subst ex
    rw[if_pos rfl,List.mem_append,h.mem _ hlt u,or_assoc,hp]
    have e4:u∈[p.2]↔(p.1,u)∈[p]:=by
      rw[List.mem_singleton,List.mem_singleton]
      exact⟨fun e=>by rw[e],fun e=>congrArg Prod.snd e⟩
    rw[e4]
   ·rw[if_neg ex,h.mem x hx u]
    have:((x:Int),u)∉[p]:=fun g=>by
      have g:((x:Int),u)=p:=by simpa using g
      exact ex (by rw[←g];simp)
    exact⟨fun g=>g.imp id .inl,fun g=>g.imp id (fun g=>g.resolve_right this)⟩
  ·rw[e x]
   by_cases ex:x=p.1.toNat
   ·subst ex
    rw[if_pos rfl,List.nodup_append]
    exact⟨h.nd _ hlt,by simp,fun a ha b hb e=>hm (by have:b=p.2:=(by simpa using hb);rw[←this,←e];exact ha)⟩
   ·rw[if_neg ex];exact h.nd x hx
structure wK (T:SS) (want:List PP):Prop where
 ok:∀p∈want,0≤p.1∧p.1<(T.sT.length:Int)∧p.2∈acc T p.1.toNat
 ne:∀x,x<T.sT.length→0<(acc T x).length
 few:want.length≤2000000000
theorem sD {T:SS} {want done:List PP} {ss:List (List Int)} (hw:wK T want) (h:gX T done ss) (hd:∀p∈done,p∈want) {x:Nat} (hx:x<T.sT.length) {u:Int} (hu:u∈ix ss x):u∈acc T x:=by
 rcases(h.mem x hx u).1 hu with rfl|hp
 ·exact gO (hw.ne x hx)
 ·have:=(hw.ok _ (hd _ hp)).2.2
  simpa using this
theorem AE {T:SS} (hT:oK T) {want done:List PP} {ss:List (List Int)} (hw:wK T want) (h:gX T done ss) (hd:∀p∈done,p∈want) {x:Nat} (hx:x<T.sT.length):(ix ss x).length≤256:=
 Nat.le_trans (List.Nodup.length_le_of_subset (h.nd x hx) (fun u hu=>sD hw h hd hx hu)) (hT.st x hx).acl
theorem SL {T:SS} {done:List PP} {ss:List (List Int)} (h:gX T done ss) {x:Nat} (hx:x<T.sT.length):ix (acc T x) 0∈ix ss x:=(h.mem x hx _).2 (.inl rfl)
def zL (q:List PP) (p:PP):Option Int:=if p∈q then some (q.idxOf p:Int) else none
def kG (mm:List (PP × Int)) (q:List PP):Prop:=∀p,bJ mm p=zL q p
theorem wL {q r:List PP} {p:PP} (h:p∈q):(q++r).idxOf p=q.idxOf p:=by rw[List.idxOf_append,if_pos h]
theorem Dn {q:List PP} {p:PP} (h:p∉q):(q++ [p]).idxOf p=q.length:=by rw[List.idxOf_append,if_neg h];simp
theorem nL {mm:List (PP × Int)} {q:List PP} (h:kG mm q) {p:PP} (hp:p∉q):kG (bQ mm p (q.length:Int)) (q++ [p]):=by
 intro r
 rw[kO,h r]
 unfold zL
 by_cases e:p=r
 ·subst e
  rw[if_pos rfl,if_pos (by simp),Dn hp]
 ·rw[if_neg e]
  by_cases hr:r∈q
  ·rw[if_pos hr,if_pos (by simp[hr]),wL hr]
  ·rw[if_neg hr,if_neg (by simp[hr,Ne.symm e])]
theorem Gm (p:PP):kG (bQ [] p 0) [p]:=nL (q:= []) (mm:= []) (fun p=>rfl) (by simp)
structure WQ (T:SS) (ss:List (List Int)) (f:PP) (q:List PP):Prop where
 ne:0<q.length
 hd:ix q 0=f
 nd:q.Nodup
 bd:∀p∈q,0≤p.1∧p.1<(T.sT.length:Int)∧p.2∈ix ss p.1.toNat
def tgt (T:SS) (p:PP) (a:Int):Int:=ix (nxt T p.1.toNat) a.toNat
def edA (T:SS) (ss:List (List Int)) (q:List PP) (p:PP) (a:Int):List PP:=(ix ss (tgt T p a).toNat).map fun u=>(a,(q.idxOf (tgt T p a,u):Int))
def ClA (T:SS) (ss:List (List Int)) (q:List PP) (p:PP) (a:Int):Prop:=∀u∈ix ss (tgt T p a).toNat,(tgt T p a,u)∈q
def edF (T:SS) (ss:List (List Int)) (q:List PP) (p:PP):List PP:=(aL 63 p.2).flatMap (edA T ss q p)
theorem SN {T:SS} {ss:List (List Int)} {q r:List PP} {p:PP} {a:Int} (h:ClA T ss q p a):edA T ss (q++r) p a=edA T ss q p a:=
 List.map_congr_left (fun u hu=>by rw[wL (h u hu)])
theorem AF {T:SS} {ss:List (List Int)} {q r:List PP} {p:PP}:∀{l:List Int},(∀a∈l,ClA T ss q p a)→l.flatMap (edA T ss (q++r) p)=l.flatMap (edA T ss q p)
 | [],_=>rfl
 |a::l,h=>by rw[List.flatMap_cons,List.flatMap_cons,SN (h a (by simp)),AF (fun b hb=>h b (List.mem_cons_of_mem _ hb))]
theorem kV {l m:List PP} {j:Nat} (h:j<l.length):ix (l++m) j=ix l j:=by
 rw[aG (by simp;omega),aG h,List.getElem_append_left h]
structure WI (T:SS) (ss:List (List Int)) (f:PP) (i:Nat) (q:List PP) (mm:List (PP × Int)) (aD:List (List PP)):Prop where
 wq:WQ T ss f q
 im:kG mm q
 il:i≤q.length
 dn:∀k,k<i→∀a∈aL 63 (ix q k).2,ClA T ss q (ix q k) a
 out:aD=(List.range i).map fun k=>bT (edF T ss q (ix q k))
theorem Gn {T:SS} {ss:List (List Int)} {q r:List PP} {p:PP} {a:Int} (h:ClA T ss q p a):ClA T ss (q++r) p a:=fun u hu=>List.mem_append_left _ (h u hu)
theorem SP {T:SS} {ss:List (List Int)} {f:PP} (h:0≤f.1∧f.1<(T.sT.length:Int)∧f.2∈ix ss f.1.toNat):WI T ss f 0 [f] (bQ [] f 0) []:=
 ⟨⟨by simp,rfl,by simp,fun p hp=>by have:p=f:=(by simpa using hp);subst this;exact h⟩,Gm f,by simp,fun k hk=>absurd hk O,rfl⟩
theorem SQ {T:SS} {ss:List (List Int)} {f:PP} {i:Nat} {q:List PP} {mm:List (PP × Int)} {aD:List (List PP)} (h:WI T ss f i q mm aD) {p:PP} (hp:p∉q) (hb:0≤p.1∧p.1<(T.sT.length:Int)∧p.2∈ix ss p.1.toNat):
 WI T ss f i (q++ [p]) (bQ mm p (q.length:Int)) aD:=by
 have hil:=h.il
 refine⟨⟨by simp,by rw[kV h.wq.ne];exact h.wq.hd,?_,fun r hr=> ?_⟩,nL h.im hp,by simp;omega,fun k hk a ha=> ?_,?_⟩
 ·rw[List.nodup_append]
  exact⟨h.wq.nd,by simp,fun a ha b hb e=>hp (by have:b=p:=(by simpa using hb);rw[←this,←e];exact ha)⟩
 ·rcases List.mem_append.1 hr with hr|hr
  ·exact h.wq.bd r hr
  ·have:r=p:=by simpa using hr
   subst this;exact hb
 ·rw[kV O] at ha ⊢
  exact Gn (h.dn k hk a ha)
 ·rw[h.out]
  refine List.map_congr_left (fun k hk=> ?_)
  have hk:=List.mem_range.1 hk
  unfold edF
  rw[kV O,AF (fun a ha=>h.dn k hk a ha)]
structure WN (T:SS) (ss:List (List Int)) (f:PP) (i:Nat) (p:PP) (q:List PP) (mm:List (PP × Int)) (aD:List (List PP)) (m:Nat) (es:List PP):Prop where
 wi:WI T ss f i q mm aD
 hi:i<q.length
 pe:ix q i=p
 cl:∀a∈(aL 63 p.2).take m,ClA T ss q p a
 es:es=((aL 63 p.2).take m).flatMap (edA T ss q p)
structure WK (T:SS) (ss:List (List Int)) (f:PP) (i:Nat) (p:PP) (q:List PP) (mm:List (PP × Int)) (aD:List (List PP)) (m:Nat) (a:Int) (k:Nat) (es:List PP):Prop where
 wi:WI T ss f i q mm aD
 hi:i<q.length
 pe:ix q i=p
 cl:∀a∈(aL 63 p.2).take m,ClA T ss q p a
 cl3:∀u∈(ix ss (tgt T p a).toNat).take k,(tgt T p a,u)∈q
 es:es=((aL 63 p.2).take m).flatMap (edA T ss q p)++((ix ss (tgt T p a).toNat).take k).map fun u=>(a,(q.idxOf (tgt T p a,u):Int))
theorem SR {T:SS} {ss:List (List Int)} {f:PP} {i:Nat} {q:List PP} {mm:List (PP × Int)} {aD:List (List PP)} (h:WI T ss f i q mm aD) (hi:i<q.length):WN T ss f i (ix q i) q mm aD 0 []:=
 ⟨h,hi,rfl,fun a ha=>by simp at ha,by simp⟩
theorem SU {T:SS} {ss:List (List Int)} {f:PP} {i:Nat} {p:PP} {q:List PP} {mm:List (PP × Int)} {aD:List (List PP)} {m:Nat} {es:List PP} (h:WN T ss f i p q mm aD m es) (a:Int):WK T ss f i p q mm aD m a 0 es:=
 ⟨h.wi,h.hi,h.pe,h.cl,fun a ha=>by simp at ha,by rw[h.es];simp⟩
theorem VD {T:SS} {ss:List (List Int)} {f:PP} {i:Nat} {p:PP} {q:List PP} {mm:List (PP × Int)} {aD:List (List PP)} {m:Nat} {a:Int} {k:Nat} {es:List PP} (h:WK T ss f i p q mm aD m a k es)
 (hk:k<(ix ss (tgt T p a).toNat).length) (h0:0≤tgt T p a) (h1:tgt T p a<(T.sT.length:Int)) (hn:(bJ mm (tgt T p a,ix (ix ss (tgt T p a).toNat) k)).isSome=false):
 WK T ss f i p (q++ [(tgt T p a,ix (ix ss (tgt T p a).toNat) k)]) (bQ mm (tgt T p a,ix (ix ss (tgt T p a).toNat) k) (q.length:Int)) aD m a (k+1) (es++ [(a,(q.length:Int))]):=by
 have hnq:(tgt T p a,ix (ix ss (tgt T p a).toNat) k)∉q:=fun hm=>by
  rw[h.wi.im] at hn
  unfold zL at hn
  rw[if_pos hm] at hn;cases hn
 have hi:=h.hi
 refine⟨SQ h.wi hnq ⟨h0,h1,gO hk⟩,by simp;omega,by rw[kV h.hi];exact h.pe,fun b hb=>Gn (h.cl b hb),fun u hu=> ?_,?_⟩
 ·rw[bN hk,List.mem_append] at hu
  rcases hu with hu|hu
  ·exact List.mem_append_left _ (h.cl3 u hu)
  ·have:u=ix (ix ss (tgt T p a).toNat) k:=by simpa using hu
   subst this;simp
 ·rw[AF h.cl,bN hk,List.map_append,←List.append_assoc]
  congr 1
  ·rw[h.es]
   congr 1
   exact List.map_congr_left (fun u hu=>by rw[wL (h.cl3 u hu)])
  ·simp only [List.map_cons,List.map_nil]
   rw[Dn hnq]
theorem VE {T:SS} {ss:List (List Int)} {f:PP} {i:Nat} {p:PP} {q:List PP} {mm:List (PP × Int)} {aD:List (List PP)} {m:Nat} {a:Int} {k:Nat} {es:List PP} (h:WK T ss f i p q mm aD m a k es)
 (hk:k<(ix ss (tgt T p a).toNat).length) (hn:(bJ mm (tgt T p a,ix (ix ss (tgt T p a).toNat) k)).isSome=true):
 WK T ss f i p q mm aD m a (k+1) (es++ [(a,(bJ mm (tgt T p a,ix (ix ss (tgt T p a).toNat) k)).getD 0)]):=by
 rw[h.wi.im] at hn ⊢
 unfold zL at hn ⊢
 by_cases hm:(tgt T p a,ix (ix ss (tgt T p a).toNat) k)∈q
 ·rw[if_pos hm]
  refine⟨h.wi,h.hi,h.pe,h.cl,fun u hu=> ?_,?_⟩
  ·rw[bN hk,List.mem_append] at hu
   rcases hu with hu|hu
   ·exact h.cl3 u hu
   ·have:u=ix (ix ss (tgt T p a).toNat) k:=by simpa using hu
    subst this;exact hm
  ·rw[bN hk,List.map_append,←List.append_assoc,←h.es];rfl
 ·rw[if_neg hm] at hn;cases hn
theorem VF {T:SS} {ss:List (List Int)} {f:PP} {i:Nat} {p:PP} {q:List PP} {mm:List (PP × Int)} {aD:List (List PP)} {m:Nat} {a:Int} {k:Nat} {es:List PP} (h:WK T ss f i p q mm aD m a k es)
 (hk:(ix ss (tgt T p a).toNat).length≤k) (hm:(aL 63 p.2)[m]?=some a):WN T ss f i p q mm aD (m+1) es:=by
 have ht:(aL 63 p.2).take (m+1)=(aL 63 p.2).take m++ [a]:=by rw[List.take_add_one,hm];rfl
 have h3:=h.cl3
 have h4:=h.es
 rw[List.take_of_length_le hk] at h3 h4
 refine⟨h.wi,h.hi,h.pe,fun b hb=> ?_,?_⟩
 ·rw[ht] at hb
  rcases List.mem_append.1 hb with hb|hb
  ·exact h.cl b hb
  ·have:b=a:=by simpa using hb
   subst this;exact h3
 ·rw[ht,List.flatMap_append,h4];simp[edA]
theorem VG {T:SS} {ss:List (List Int)} {f:PP} {i:Nat} {p:PP} {q:List PP} {mm:List (PP × Int)} {aD:List (List PP)} {es:List PP} (h:WN T ss f i p q mm aD (aL 63 p.2).length es):WI T ss f (i+1) q mm (aD++ [bT es]):=by
 have h3:=h.cl
 have h4:=h.es
 rw[List.take_length] at h3 h4
 have hi:=h.hi
 refine⟨h.wi.wq,h.wi.im,O,fun k hk a ha=> ?_,?_⟩
 ·by_cases e:k=i
  ·subst e;rw[h.pe] at ha ⊢;exact h3 a ha
  ·exact h.wi.dn k O a ha
 ·rw[List.range_succ,List.map_append,h.wi.out,h4]
  simp only [List.map_cons,List.map_nil,h.pe]
  rfl
theorem Gp {α β:Type} {g:α→List β} {c:Nat}:∀{l:List α},(∀a∈l,(g a).length≤c)→(l.flatMap g).length≤l.length*c
 | [],_=>by simp
 |a::l,h=>by
  have h1:=h a (by simp)
  have h2:=Gp (l:=l) (fun b hb=>h b (List.mem_cons_of_mem _ hb))
  rw[List.flatMap_cons,List.length_append,List.length_cons,Nat.add_mul];omega
theorem Et {T:SS} (hT:oK T) {want:List PP} {ss:List (List Int)} (hw:wK T want) (h:gX T want ss) (x:Nat):(ix ss x).length≤256:=by
 rcases Nat.lt_or_ge x T.sT.length with hx|hx
 ·exact AE hT hw h (fun _ h=>h) hx
 ·have:ix ss x= []:=by
   unfold ix
   rw[List.getD_eq_getElem?_getD,List.getElem?_eq_none (by rw[h.len];exact hx)];rfl
  rw[this];simp
theorem VH {T:SS} (hT:oK T) {want:List PP} {ss:List (List Int)} (hw:wK T want) (hs:gX T want ss) {f:PP} {i:Nat} {p:PP} {q:List PP} {mm:List (PP × Int)} {aD:List (List PP)} {m:Nat} {a:Int} {k:Nat} {es:List PP} (h:WK T ss f i p q mm aD m a k es):es.length≤16384:=by
 have h1:=Gp (g:=edA T ss q p) (c:=256) (l:=(aL 63 p.2).take m) (fun a _=>by unfold edA;rw[List.length_map];exact Et hT hw hs _)
 have h2:=Kf 63 p.2
 have h3:=Et hT hw hs (tgt T p a).toNat
 have h4:((aL 63 p.2).take m).length*256≤63*256:=Nat.mul_le_mul_right _ (by rw[List.length_take];omega)
 rw[h.es,List.length_append,List.length_map,List.length_take]
 omega
theorem Cm {T:SS} {ss:List (List Int)} {f:PP} {q want:List PP} (h:WQ T ss f q) (hs:gX T want ss):q.length≤T.sT.length+want.length:=by
 have h1:=List.Nodup.length_le_of_subset (l₂:=(List.range T.sT.length).map (fun x:Nat=>((x:Int),ix (acc T x) 0))++want) h.nd (fun p hp=>by
  obtain⟨h0,h1,h2⟩:=h.bd p hp
  rcases(hs.mem p.1.toNat O p.2).1 h2 with e|e
  ·refine List.mem_append_left _ (List.mem_map.2 ⟨p.1.toNat,List.mem_range.2 O,?_⟩)
   rw[←e]
   exact Prod.ext (by simp;omega) rfl
  ·rw[show((p.1.toNat:Nat):Int)=p.1 by omega] at e
   exact List.mem_append_right _ e)
 simpa using h1
theorem Xr {T:SS} {ss:List (List Int)} {f:PP} {i:Nat} {p:PP} {q:List PP} {mm:List (PP × Int)} {aD:List (List PP)} {m:Nat} {es:List PP} (h:WN T ss f i p q mm aD m es) (hq:q.length<4611686018427387904):∀e∈es,bdP e:=by
 intro e he
 rw[h.es] at he
 obtain⟨a,ha,he⟩:=List.mem_flatMap.1 he
 obtain⟨a',rfl,ha63,_⟩:=dZ.1 (List.mem_of_mem_take ha)
 unfold edA at he
 obtain⟨u,hu,rfl⟩:=List.mem_map.1 he
 have:=List.idxOf_le_length (a:=(tgt T p (a':Int),u)) (l:=q)
 unfold bdP
 dsimp only
 omega
def kB (T:SS) (want:List PP):PP:=if 0<want.length then ix want 0 else(0,ix (acc T 0) 0)
def zM (T:SS) (want:List PP) (m:aA):Prop:=∃ss q mm,gX T want ss∧WI T ss (kB T want) q.length q mm m.sT∧m.aC=T.aC
theorem Pu {T:SS} (hT:oK T) {want:List PP} (hw:wK T want) {ss:List (List Int)} (hs:gX T want ss):0≤(kB T want).1∧(kB T want).1<(T.sT.length:Int)∧(kB T want).2∈ix ss (kB T want).1.toNat:=by
 have f0:=hT.few0
 unfold kB
 by_cases h:0<want.length
 ·rw[if_pos h]
  have hm:=aO h
  obtain⟨h1,h2,h3⟩:=hw.ok _ hm
  refine⟨h1,h2,(hs.mem _ O _).2 (.inr ?_)⟩
  rw[show(((ix want 0).1.toNat:Nat):Int)=(ix want 0).1 by omega]
  exact hm
 ·rw[if_neg h]
  exact⟨by show(0:Int)≤0;omega,by show(0:Int)<_;omega,SL hs (by show 0<_;omega)⟩
end WitM
end
end Go.Proofs.YtnlfjojfgghchaaGreatDoor
