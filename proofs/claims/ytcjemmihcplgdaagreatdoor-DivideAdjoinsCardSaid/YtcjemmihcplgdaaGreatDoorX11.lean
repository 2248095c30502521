/- The walks of the functions and the plain laws. Own texts of this claim, packed: ZdWitM. -/
import Derived.Test.YtcjemmihcplgdaaGreatDoorX07
import Derived.Test.YtcjemmihcplgdaaGreatDoorX09
import Derived.Test.YtcjemmihcplgdaaGreatDoorX10
set_option linter.all false
namespace Go.Proofs.YtcjemmihcplgdaaGreatDoor
open AL Go
section
open ref01 ref03 ref04 ref06 prog15 starts Part Rungs LeftM TrimM RoundM BisM BisM5 BisM6 WalkM StepM
structure SSys where
 aC:List ByteArray
 sT:List (List (Int × Int))
deriving Inhabited
namespace WitM
abbrev PP:=Int × Int
def setsAdd (ss:List (List Int)) (p:PP):List (List Int):=if p.2∈ix ss p.1.toNat then ss else ss.set p.1.toNat (ix ss p.1.toNat++ [p.2])
structure SetsOK (T:SS) (done:List PP) (ss:List (List Int)):Prop where
 len:ss.length=T.sT.length
 mem:∀x,x<T.sT.length→∀u,u∈ix ss x↔u=ix (acc T x) 0∨((x:Int),u)∈done
 nd:∀x,x<T.sT.length→(ix ss x).Nodup
def sets0 (T:SS):List (List Int):=T.sT.map fun x=> [ix x.aP 0]
theorem sets_zero (T:SS):SetsOK T [] (sets0 T):=by
 have e:∀x,x<T.sT.length→ix (sets0 T) x= [ix (acc T x) 0]:=fun x hx=>by
  unfold sets0;rw[TurnM.ix_mapS hx]
 exact⟨by simp[sets0],fun x hx u=>by rw[e x hx];simp,fun x hx=>by rw[e x hx];simp⟩
theorem sets_add {T:SS} {done:List PP} {ss:List (List Int)} (h:SetsOK T done ss) {p:PP} (h0:0≤p.1) (hx:p.1<(T.sT.length:Int)):SetsOK T (done++ [p]) (setsAdd ss p):=by
 have hlt:p.1.toNat<T.sT.length:=by omega
 have hp:((p.1.toNat:Nat):Int)=p.1:=by omega
 unfold setsAdd
 by_cases hm:p.2∈ix ss p.1.toNat
 ·rw[if_pos hm]
  refine⟨h.len,fun x hx u=> ?_,h.nd⟩
  rw[h.mem x hx u,List.mem_append]
  refine⟨fun g=>g.imp id .inl,fun g=>g.elim .inl (fun g=>g.elim .inr (fun g=> ?_))⟩
  have g:((x:Int),u)=p:=by simpa using g
  have:=(h.mem p.1.toNat hlt p.2).1 hm
  rw[hp] at this
  rw[←g] at this
  simpa using this
 ·rw[if_neg hm]
  have e:∀x,ix (ss.set p.1.toNat (ix ss p.1.toNat++ [p.2])) x=if x=p.1.toNat then ix ss p.1.toNat++ [p.2] else ix ss x:=fun x=>ix_set (by rw[h.len];exact hlt) _ x
  refine⟨by simp[h.len],fun x hx u=> ?_,fun x hx=> ?_⟩
  ·rw[e x,List.mem_append]
   by_cases ex:x=p.1.toNat
   ·subst ex
    rw[if_pos rfl,List.mem_append,h.mem _ hlt u,or_assoc,hp]
    have e4:u∈[p.2]↔(p.1,u)∈[p]:=by
      rw[List.mem_singleton,List.mem_singleton]
      exact⟨fun e=>by rw[e],fun e=>congrArg Prod.snd e⟩
    rw[e4]
   ·rw[if_neg ex,h.mem x hx u]
    have:((x:Int),u)∉[p]:=fun g=>by
      have g:((x:Int),u)=p:=by simpa using g
      exact ex (by rw[←g];simp)
    exact⟨fun g=>g.imp id .inl,fun g=>g.imp id (fun g=>g.resolve_right this)⟩
  ·rw[e x]
   by_cases ex:x=p.1.toNat
   ·subst ex
    rw[if_pos rfl,List.nodup_append]
    exact⟨h.nd _ hlt,by simp,fun a ha b hb e=>hm (by have:b=p.2:=(by simpa using hb);rw[←this,←e];exact ha)⟩
   ·rw[if_neg ex];exact h.nd x hx
structure Wants (T:SS) (want:List PP):Prop where
 ok:∀p∈want,0≤p.1∧p.1<(T.sT.length:Int)∧p.2∈acc T p.1.toNat
 ne:∀x,x<T.sT.length→0<(acc T x).length
 few:want.length≤2000000000
theorem sets_acc {T:SS} {want done:List PP} {ss:List (List Int)} (hw:Wants T want) (h:SetsOK T done ss) (hd:∀p∈done,p∈want) {x:Nat} (hx:x<T.sT.length) {u:Int} (hu:u∈ix ss x):u∈acc T x:=by
 rcases(h.mem x hx u).1 hu with rfl|hp
 ·exact ix_mem (hw.ne x hx)
 ·have:=(hw.ok _ (hd _ hp)).2.2
  simpa using this
theorem sets_len {T:SS} (hT:oK T) {want done:List PP} {ss:List (List Int)} (hw:Wants T want) (h:SetsOK T done ss) (hd:∀p∈done,p∈want) {x:Nat} (hx:x<T.sT.length):(ix ss x).length≤256:=
 Nat.le_trans (List.Nodup.length_le_of_subset (h.nd x hx) (fun u hu=>sets_acc hw h hd hx hu)) (hT.st x hx).acl
theorem sets_ne {T:SS} {done:List PP} {ss:List (List Int)} (h:SetsOK T done ss) {x:Nat} (hx:x<T.sT.length):ix (acc T x) 0∈ix ss x:=(h.mem x hx _).2 (.inl rfl)
def posOf (q:List PP) (p:PP):Option Int:=if p∈q then some (q.idxOf p:Int) else none
def imap (mm:List (PP × Int)) (q:List PP):Prop:=∀p,mget mm p=posOf q p
theorem idx_left {q r:List PP} {p:PP} (h:p∈q):(q++r).idxOf p=q.idxOf p:=by rw[List.idxOf_append,if_pos h]
theorem idx_new {q:List PP} {p:PP} (h:p∉q):(q++ [p]).idxOf p=q.length:=by rw[List.idxOf_append,if_neg h];simp
theorem imap_push {mm:List (PP × Int)} {q:List PP} (h:imap mm q) {p:PP} (hp:p∉q):imap (mset mm p (q.length:Int)) (q++ [p]):=by
 intro r
 rw[mget_mset,h r]
 unfold posOf
 by_cases e:p=r
 ·subst e
  rw[if_pos rfl,if_pos (by simp),idx_new hp]
 ·rw[if_neg e]
  by_cases hr:r∈q
  ·rw[if_pos hr,if_pos (by simp[hr]),idx_left hr]
  ·rw[if_neg hr,if_neg (by simp[hr,Ne.symm e])]
theorem imap_one (p:PP):imap (mset [] p 0) [p]:=imap_push (q:= []) (mm:= []) (fun p=>rfl) (by simp)
structure WQ (T:SS) (ss:List (List Int)) (f:PP) (q:List PP):Prop where
 ne:0<q.length
 hd:ix q 0=f
 nd:q.Nodup
 bd:∀p∈q,0≤p.1∧p.1<(T.sT.length:Int)∧p.2∈ix ss p.1.toNat
def tgt (T:SS) (p:PP) (a:Int):Int:=ix (nxt T p.1.toNat) a.toNat
def edA (T:SS) (ss:List (List Int)) (q:List PP) (p:PP) (a:Int):List PP:=(ix ss (tgt T p a).toNat).map fun u=>(a,(q.idxOf (tgt T p a,u):Int))
def ClA (T:SS) (ss:List (List Int)) (q:List PP) (p:PP) (a:Int):Prop:=∀u∈ix ss (tgt T p a).toNat,(tgt T p a,u)∈q
def edF (T:SS) (ss:List (List Int)) (q:List PP) (p:PP):List PP:=(listOf 63 p.2).flatMap (edA T ss q p)
theorem edA_ext {T:SS} {ss:List (List Int)} {q r:List PP} {p:PP} {a:Int} (h:ClA T ss q p a):edA T ss (q++r) p a=edA T ss q p a:=
 List.map_congr_left (fun u hu=>by rw[idx_left (h u hu)])
theorem flat_ext {T:SS} {ss:List (List Int)} {q r:List PP} {p:PP}:∀{l:List Int},(∀a∈l,ClA T ss q p a)→l.flatMap (edA T ss (q++r) p)=l.flatMap (edA T ss q p)
 | [],_=>rfl
 |a::l,h=>by rw[List.flatMap_cons,List.flatMap_cons,edA_ext (h a (by simp)),flat_ext (fun b hb=>h b (List.mem_cons_of_mem _ hb))]
theorem ixP_left {l m:List PP} {j:Nat} (h:j<l.length):ix (l++m) j=ix l j:=by
 rw[ix_get (by simp;omega),ix_get h,List.getElem_append_left h]
structure WI (T:SS) (ss:List (List Int)) (f:PP) (i:Nat) (q:List PP) (mm:List (PP × Int)) (outs:List (List PP)):Prop where
 wq:WQ T ss f q
 im:imap mm q
 il:i≤q.length
 dn:∀k,k<i→∀a∈listOf 63 (ix q k).2,ClA T ss q (ix q k) a
 out:outs=(List.range i).map fun k=>sortP (edF T ss q (ix q k))
theorem cla_push {T:SS} {ss:List (List Int)} {q r:List PP} {p:PP} {a:Int} (h:ClA T ss q p a):ClA T ss (q++r) p a:=fun u hu=>List.mem_append_left _ (h u hu)
theorem wi_zero {T:SS} {ss:List (List Int)} {f:PP} (h:0≤f.1∧f.1<(T.sT.length:Int)∧f.2∈ix ss f.1.toNat):WI T ss f 0 [f] (mset [] f 0) []:=
 ⟨⟨by simp,rfl,by simp,fun p hp=>by have:p=f:=(by simpa using hp);subst this;exact h⟩,imap_one f,by simp,fun k hk=>absurd hk O,rfl⟩
theorem wi_push {T:SS} {ss:List (List Int)} {f:PP} {i:Nat} {q:List PP} {mm:List (PP × Int)} {outs:List (List PP)} (h:WI T ss f i q mm outs) {p:PP} (hp:p∉q) (hb:0≤p.1∧p.1<(T.sT.length:Int)∧p.2∈ix ss p.1.toNat):
 WI T ss f i (q++ [p]) (mset mm p (q.length:Int)) outs:=by
 have hil:=h.il
 refine⟨⟨by simp,by rw[ixP_left h.wq.ne];exact h.wq.hd,?_,fun r hr=> ?_⟩,imap_push h.im hp,by simp;omega,fun k hk a ha=> ?_,?_⟩
 ·rw[List.nodup_append]
  exact⟨h.wq.nd,by simp,fun a ha b hb e=>hp (by have:b=p:=(by simpa using hb);rw[←this,←e];exact ha)⟩
 ·rcases List.mem_append.1 hr with hr|hr
  ·exact h.wq.bd r hr
  ·have:r=p:=by simpa using hr
   subst this;exact hb
 ·rw[ixP_left O] at ha ⊢
  exact cla_push (h.dn k hk a ha)
 ·rw[h.out]
  refine List.map_congr_left (fun k hk=> ?_)
  have hk:=List.mem_range.1 hk
  unfold edF
  rw[ixP_left O,flat_ext (fun a ha=>h.dn k hk a ha)]
structure WN (T:SS) (ss:List (List Int)) (f:PP) (i:Nat) (p:PP) (q:List PP) (mm:List (PP × Int)) (outs:List (List PP)) (m:Nat) (es:List PP):Prop where
 wi:WI T ss f i q mm outs
 hi:i<q.length
 pe:ix q i=p
 cl:∀a∈(listOf 63 p.2).take m,ClA T ss q p a
 es:es=((listOf 63 p.2).take m).flatMap (edA T ss q p)
structure WK (T:SS) (ss:List (List Int)) (f:PP) (i:Nat) (p:PP) (q:List PP) (mm:List (PP × Int)) (outs:List (List PP)) (m:Nat) (a:Int) (k:Nat) (es:List PP):Prop where
 wi:WI T ss f i q mm outs
 hi:i<q.length
 pe:ix q i=p
 cl:∀a∈(listOf 63 p.2).take m,ClA T ss q p a
 cl3:∀u∈(ix ss (tgt T p a).toNat).take k,(tgt T p a,u)∈q
 es:es=((listOf 63 p.2).take m).flatMap (edA T ss q p)++((ix ss (tgt T p a).toNat).take k).map fun u=>(a,(q.idxOf (tgt T p a,u):Int))
theorem wn_zero {T:SS} {ss:List (List Int)} {f:PP} {i:Nat} {q:List PP} {mm:List (PP × Int)} {outs:List (List PP)} (h:WI T ss f i q mm outs) (hi:i<q.length):WN T ss f i (ix q i) q mm outs 0 []:=
 ⟨h,hi,rfl,fun a ha=>by simp at ha,by simp⟩
theorem wk_zero {T:SS} {ss:List (List Int)} {f:PP} {i:Nat} {p:PP} {q:List PP} {mm:List (PP × Int)} {outs:List (List PP)} {m:Nat} {es:List PP} (h:WN T ss f i p q mm outs m es) (a:Int):WK T ss f i p q mm outs m a 0 es:=
 ⟨h.wi,h.hi,h.pe,h.cl,fun a ha=>by simp at ha,by rw[h.es];simp⟩
theorem wk_new {T:SS} {ss:List (List Int)} {f:PP} {i:Nat} {p:PP} {q:List PP} {mm:List (PP × Int)} {outs:List (List PP)} {m:Nat} {a:Int} {k:Nat} {es:List PP} (h:WK T ss f i p q mm outs m a k es)
 (hk:k<(ix ss (tgt T p a).toNat).length) (h0:0≤tgt T p a) (h1:tgt T p a<(T.sT.length:Int)) (hn:(mget mm (tgt T p a,ix (ix ss (tgt T p a).toNat) k)).isSome=false):
 WK T ss f i p (q++ [(tgt T p a,ix (ix ss (tgt T p a).toNat) k)]) (mset mm (tgt T p a,ix (ix ss (tgt T p a).toNat) k) (q.length:Int)) outs m a (k+1) (es++ [(a,(q.length:Int))]):=by
 have hnq:(tgt T p a,ix (ix ss (tgt T p a).toNat) k)∉q:=fun hm=>by
  rw[h.wi.im] at hn
  unfold posOf at hn
  rw[if_pos hm] at hn;cases hn
 have hi:=h.hi
 refine⟨wi_push h.wi hnq ⟨h0,h1,ix_mem hk⟩,by simp;omega,by rw[ixP_left h.hi];exact h.pe,fun b hb=>cla_push (h.cl b hb),fun u hu=> ?_,?_⟩
 ·rw[take_s hk,List.mem_append] at hu
  rcases hu with hu|hu
  ·exact List.mem_append_left _ (h.cl3 u hu)
  ·have:u=ix (ix ss (tgt T p a).toNat) k:=by simpa using hu
   subst this;simp
 ·rw[flat_ext h.cl,take_s hk,List.map_append,←List.append_assoc]
  congr 1
  ·rw[h.es]
   congr 1
   exact List.map_congr_left (fun u hu=>by rw[idx_left (h.cl3 u hu)])
  ·simp only [List.map_cons,List.map_nil]
   rw[idx_new hnq]
theorem wk_old {T:SS} {ss:List (List Int)} {f:PP} {i:Nat} {p:PP} {q:List PP} {mm:List (PP × Int)} {outs:List (List PP)} {m:Nat} {a:Int} {k:Nat} {es:List PP} (h:WK T ss f i p q mm outs m a k es)
 (hk:k<(ix ss (tgt T p a).toNat).length) (hn:(mget mm (tgt T p a,ix (ix ss (tgt T p a).toNat) k)).isSome=true):
 WK T ss f i p q mm outs m a (k+1) (es++ [(a,(mget mm (tgt T p a,ix (ix ss (tgt T p a).toNat) k)).getD 0)]):=by
 rw[h.wi.im] at hn ⊢
 unfold posOf at hn ⊢
 by_cases hm:(tgt T p a,ix (ix ss (tgt T p a).toNat) k)∈q
 ·rw[if_pos hm]
  refine⟨h.wi,h.hi,h.pe,h.cl,fun u hu=> ?_,?_⟩
  ·rw[take_s hk,List.mem_append] at hu
   rcases hu with hu|hu
   ·exact h.cl3 u hu
   ·have:u=ix (ix ss (tgt T p a).toNat) k:=by simpa using hu
    subst this;exact hm
  ·rw[take_s hk,List.map_append,←List.append_assoc,←h.es];rfl
 ·rw[if_neg hm] at hn;cases hn
theorem wk_end {T:SS} {ss:List (List Int)} {f:PP} {i:Nat} {p:PP} {q:List PP} {mm:List (PP × Int)} {outs:List (List PP)} {m:Nat} {a:Int} {k:Nat} {es:List PP} (h:WK T ss f i p q mm outs m a k es)
 (hk:(ix ss (tgt T p a).toNat).length≤k) (hm:(listOf 63 p.2)[m]?=some a):WN T ss f i p q mm outs (m+1) es:=by
 have ht:(listOf 63 p.2).take (m+1)=(listOf 63 p.2).take m++ [a]:=by rw[List.take_add_one,hm];rfl
 have h3:=h.cl3
 have h4:=h.es
 rw[List.take_of_length_le hk] at h3 h4
 refine⟨h.wi,h.hi,h.pe,fun b hb=> ?_,?_⟩
 ·rw[ht] at hb
  rcases List.mem_append.1 hb with hb|hb
  ·exact h.cl b hb
  ·have:b=a:=by simpa using hb
   subst this;exact h3
 ·rw[ht,List.flatMap_append,h4];simp[edA]
theorem wn_end {T:SS} {ss:List (List Int)} {f:PP} {i:Nat} {p:PP} {q:List PP} {mm:List (PP × Int)} {outs:List (List PP)} {es:List PP} (h:WN T ss f i p q mm outs (listOf 63 p.2).length es):WI T ss f (i+1) q mm (outs++ [sortP es]):=by
 have h3:=h.cl
 have h4:=h.es
 rw[List.take_length] at h3 h4
 have hi:=h.hi
 refine⟨h.wi.wq,h.wi.im,O,fun k hk a ha=> ?_,?_⟩
 ·by_cases e:k=i
  ·subst e;rw[h.pe] at ha ⊢;exact h3 a ha
  ·exact h.wi.dn k O a ha
 ·rw[List.range_succ,List.map_append,h.wi.out,h4]
  simp only [List.map_cons,List.map_nil,h.pe]
  rfl
theorem flat_len {α β:Type} {g:α→List β} {c:Nat}:∀{l:List α},(∀a∈l,(g a).length≤c)→(l.flatMap g).length≤l.length*c
 | [],_=>by simp
 |a::l,h=>by
  have h1:=h a (by simp)
  have h2:=flat_len (l:=l) (fun b hb=>h b (List.mem_cons_of_mem _ hb))
  rw[List.flatMap_cons,List.length_append,List.length_cons,Nat.add_mul];omega
theorem sets_lenA {T:SS} (hT:oK T) {want:List PP} {ss:List (List Int)} (hw:Wants T want) (h:SetsOK T want ss) (x:Nat):(ix ss x).length≤256:=by
 rcases Nat.lt_or_ge x T.sT.length with hx|hx
 ·exact sets_len hT hw h (fun _ h=>h) hx
 ·have:ix ss x= []:=by
   unfold ix
   rw[List.getD_eq_getElem?_getD,List.getElem?_eq_none (by rw[h.len];exact hx)];rfl
  rw[this];simp
theorem wk_len {T:SS} (hT:oK T) {want:List PP} {ss:List (List Int)} (hw:Wants T want) (hs:SetsOK T want ss) {f:PP} {i:Nat} {p:PP} {q:List PP} {mm:List (PP × Int)} {outs:List (List PP)} {m:Nat} {a:Int} {k:Nat} {es:List PP} (h:WK T ss f i p q mm outs m a k es):es.length≤16384:=by
 have h1:=flat_len (g:=edA T ss q p) (c:=256) (l:=(listOf 63 p.2).take m) (fun a _=>by unfold edA;rw[List.length_map];exact sets_lenA hT hw hs _)
 have h2:=listOf_len 63 p.2
 have h3:=sets_lenA hT hw hs (tgt T p a).toNat
 have h4:((listOf 63 p.2).take m).length*256≤63*256:=Nat.mul_le_mul_right _ (by rw[List.length_take];omega)
 rw[h.es,List.length_append,List.length_map,List.length_take]
 omega
theorem wq_len {T:SS} {ss:List (List Int)} {f:PP} {q want:List PP} (h:WQ T ss f q) (hs:SetsOK T want ss):q.length≤T.sT.length+want.length:=by
 have h1:=List.Nodup.length_le_of_subset (l₂:=(List.range T.sT.length).map (fun x:Nat=>((x:Int),ix (acc T x) 0))++want) h.nd (fun p hp=>by
  obtain⟨h0,h1,h2⟩:=h.bd p hp
  rcases(hs.mem p.1.toNat O p.2).1 h2 with e|e
  ·refine List.mem_append_left _ (List.mem_map.2 ⟨p.1.toNat,List.mem_range.2 O,?_⟩)
   rw[←e]
   exact Prod.ext (by simp;omega) rfl
  ·rw[show((p.1.toNat:Nat):Int)=p.1 by omega] at e
   exact List.mem_append_right _ e)
 simpa using h1
theorem es_bd {T:SS} {ss:List (List Int)} {f:PP} {i:Nat} {p:PP} {q:List PP} {mm:List (PP × Int)} {outs:List (List PP)} {m:Nat} {es:List PP} (h:WN T ss f i p q mm outs m es) (hq:q.length<4611686018427387904):∀e∈es,bdP e:=by
 intro e he
 rw[h.es] at he
 obtain⟨a,ha,he⟩:=List.mem_flatMap.1 he
 obtain⟨a',rfl,ha63,_⟩:=listOf_mem.1 (List.mem_of_mem_take ha)
 unfold edA at he
 obtain⟨u,hu,rfl⟩:=List.mem_map.1 he
 have:=List.idxOf_le_length (a:=(tgt T p (a':Int),u)) (l:=q)
 unfold bdP
 dsimp only
 omega
def firstW (T:SS) (want:List PP):PP:=if 0<want.length then ix want 0 else(0,ix (acc T 0) 0)
def WitOK (T:SS) (want:List PP) (m:SSys):Prop:=∃ss q mm,SetsOK T want ss∧WI T ss (firstW T want) q.length q mm m.sT∧m.aC=T.aC
theorem first_ok {T:SS} (hT:oK T) {want:List PP} (hw:Wants T want) {ss:List (List Int)} (hs:SetsOK T want ss):0≤(firstW T want).1∧(firstW T want).1<(T.sT.length:Int)∧(firstW T want).2∈ix ss (firstW T want).1.toNat:=by
 have f0:=hT.few0
 unfold firstW
 by_cases h:0<want.length
 ·rw[if_pos h]
  have hm:=ix_memS h
  obtain⟨h1,h2,h3⟩:=hw.ok _ hm
  refine⟨h1,h2,(hs.mem _ O _).2 (.inr ?_)⟩
  rw[show(((ix want 0).1.toNat:Nat):Int)=(ix want 0).1 by omega]
  exact hm
 ·rw[if_neg h]
  exact⟨by show(0:Int)≤0;omega,by show(0:Int)<_;omega,sets_ne hs (by show 0<_;omega)⟩
end WitM
end
end Go.Proofs.YtcjemmihcplgdaaGreatDoor
