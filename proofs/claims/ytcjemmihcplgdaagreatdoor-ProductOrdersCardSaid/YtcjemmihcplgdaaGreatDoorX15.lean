/- The walks of the functions and the plain laws. Own texts of this claim, packed: ZdLawP, ZdJudgM, Zdsysw, Zddivr, Zddivs, ZdLevM, Zddivd, ZdJudgM2, Zdrefj. -/
import Derived.Test.YtcjemmihcplgdaaGreatDoorX05
import Derived.Test.YtcjemmihcplgdaaGreatDoorX13
import Derived.Test.YtcjemmihcplgdaaGreatDoorX14
import Derived.Test.YtcjemmihcplgdaaGreatDoorRows
import Derived.ProofKit
import Derived.LaidMore
import Derived.Lib.LaidTab
import Derived.Lib.SmallJoins
import Derived.OpenShut
import Derived.Stop.Joined
import Derived.Test.YtcjemmihcplgdaaGreatDoorX11
import Derived.Test.YtcjemmihcplgdaaGreatDoorX04
import Derived.Test.YtcjemmihcplgdaaGreatDoorX07
import Derived.Test.YtcjemmihcplgdaaGreatDoorX09
set_option linter.all false
namespace Go.Proofs.YtcjemmihcplgdaaGreatDoor
open AL Go
set_option maxRecDepth 100000
section
open ref01 ref03 ref04 ref06 prog prog2 prog6 Itoa
open Go.ChangeShapes Go.WideShapes Go.ChangeAt Go.WideElems Go.RowKit
namespace LawOpen
theorem laidOut:laidOutB Tryz.prog=true:=by kernel_rfl
theorem own:ownKnob Tryz.prog.godebug=none:=by kernel_rfl
theorem uP {H:Type} {P:Program} {t:TypeId} {fs:Array Field} {ps:List (DataW H)} (h:P.underlying t=some (.struct fs)):(DataW.agg ps:DataW H).weights P t=DataW.weightsEach P (fs.toList.map (·.type)) ps:=by
 simp[DataW.weights,h]
section
variable {H:Type} {enc:TypeId × Value→H} {W:World}
attribute [local semireducible] agg in
theorem IE {m:Nat} {cs:List Value} {y:DataW H × List MemPlace} (h:DataW.trod enc Tryz.prog W 0 (fun _=>true) true m 81 cs=some y) (hz:∀k∈y.1.weights Tryz.prog 81,k≤reachBytes) (hl:cs.length=2):
 ∃x:SA,All2 W (mH W) (sE x) cs∧∀t∈x.aP,t<2^63:=by
 obtain⟨y0,y1,n,hx,_,h0,h1⟩:=trod_struct2 Tryz.underlying81 h
 subst hx
 have hz:∀k∈y0.1.weights Tryz.prog 36++(y1.1.weights Tryz.prog 36++ []),k≤reachBytes:=by
  have e:(DataW.agg [y0.1,y1.1]:DataW H).weights Tryz.prog 81=y0.1.weights Tryz.prog 36++(y1.1.weights Tryz.prog 36++ []):=by
   rw[uP Tryz.underlying81]
   simp[DataW.weightsEach]
  rw[←e];exact hz
 have c28:Tryz.prog.cellsOf 36=1:=by kernel_rfl
 have c3:Tryz.prog.cellsOf 3=1:=by kernel_rfl
 have b3:1≤Tryz.prog.bytesOf 3:=by have:Tryz.prog.bytesOf 3=8:=kR;omega
 match cs,hl with
 | [v0,v1],_=>
   have h0:DataW.trod enc Tryz.prog W 0 (fun _=>true) true n 36 (([v0,v1].drop 0).take (Tryz.prog.cellsOf 36))=some y0:=h0
   have h1:DataW.trod enc Tryz.prog W 0 (fun _=>true) true n 36 (([v0,v1].drop 1).take (Tryz.prog.cellsOf 36))=some y1:=h1
   rw[c28] at h0 h1
   obtain⟨ys,g1,g2⟩:=CN Tryz.underlying36 Tryz.underlying3 c3 b3 h0 (fun k hk=>hz k (List.mem_append.2 (.inl hk)))
   obtain⟨zs,g3,_⟩:=CN Tryz.underlying36 Tryz.underlying3 c3 b3 h1 (fun k hk=>hz k (List.mem_append.2 (.inr (List.mem_append.2 (.inl hk)))))
   exact⟨⟨ys,zs⟩,⟨g1,g3,tV⟩,fun t ht=>by have:=g2 t ht;omega⟩
end
abbrev CP:List (String × DataW Unit):= [("math/bits.deBruijn32tab",Rows.laid_math_bits_deBruijn32tab),("math/bits.deBruijn64tab",Rows.laid_math_bits_deBruijn64tab),("internal/strconv.uint64pow10",Rows.laid_internal_strconv_uint64pow10)]
theorem IG {W:World} (h:laidMetH Tryz.prog CP W) (v:Value):tab.p W (mH W) v:=by
 rw[MakeChecks.laidMetH_plain _ _ _ kR] at h
 obtain⟨ps,⟨g0,t0,cs0,f0,p0,q0,hg0,ht0,hv0,hd0,⟨g1,t1,cs1,f1,p1,q1,hg1,ht1,hv1,hd1,⟨g2,t2,cs2,f2,p2,q2,hg2,ht2,hv2,hd2,_,_⟩,_⟩,_⟩,_,_⟩:=h
 have e0:g2=0:=Option.some.inj (hg2.symm.trans (show Tryz.prog.globalNamed "internal/strconv.uint64pow10" =some 0 by kernel_rfl))
 subst e0
 have e1:t2=275:=Option.some.inj (ht2.symm.trans (show(Tryz.prog.globals[0]?).map (·.type)=some 275 by kernel_rfl))
 subst e1
 have hc:=Lib.cells_of_tab (zs:=Lib.pow10Tab) (k:= .u64) Tryz.underlying275 Tryz.underlying224 kR kR hd2
 refine⟨0,by kernel_rfl,?_,?_⟩
 ·have h2:=hv2
  unfold World.var? at h2
  rw[show Tryz.prog.globalNamed "internal/strconv.uint64pow10" =some 0 by kernel_rfl] at h2
  simp only [Option.bind_some] at h2
  show 0<W.heap.size
  cases hh:W.heap[0]? with
  |none=>rw[hh] at h2;cases h2
  |some o=>exact(Array.getElem?_eq_some_iff.1 hh).1
 ·unfold Lib.TabIs Dl
  rw[hv2,←hc]
end LawOpen
open LawOpen
namespace LawOpen2
theorem door_met (os:Os) (args:Array Value):laidMetH Tryz.prog CP ((World.doorLaid Tryz.prog 400 os).forCall (fun _ _=>0) ⟨#[],args,[]⟩).memory:=
 laidMetH_of_parts3 (fuel:=8) (laidMet_of_run' 8 kR kR) kR kR
end LawOpen2
open LawOpen2 WitM wit
namespace LawOpen3
section
variable {H:Type} {enc:TypeId × Value→H} {W:World}
attribute [local semireducible] eqv in
theorem KI {m:Nat} {cs:List Value} {y:DataW H × List MemPlace} (h:DataW.trod enc Tryz.prog W 0 (fun _=>true) true m 105 cs=some y) (hl:cs.length=2):
 ∃x:Int × Int,All2 W (mH W) (pE x) cs∧True:=by
 obtain⟨y0,y1,n,_,_,h0,h1⟩:=trod_struct2 Tryz.underlying105 h
 match cs,hl with
 | [v0,v1],_=>
   have h0:DataW.trod enc Tryz.prog W 0 (fun _=>true) true n 3 [v0]=some y0:=h0
   have h1:DataW.trod enc Tryz.prog W 0 (fun _=>true) true n 3 [v1]=some y1:=h1
   obtain⟨a,ea,_,_⟩:=DataW.trod_int Tryz.underlying3 h0
   obtain⟨b,eb,_,_⟩:=DataW.trod_int Tryz.underlying3 h1
   simp at ea eb
   subst ea;subst eb
   exact⟨(a,b),⟨(show(int a).p W (mH W) (.int .i64 a) from rfl),(show(int b).p W (mH W) (.int .i64 b) from rfl),tV⟩,tV⟩
theorem II {m:Nat} {cs:List Value} {y:DataW H × List MemPlace} (h:DataW.trod enc Tryz.prog W 0 (fun _=>true) true m 103 cs=some y) (hz:∀k∈y.1.weights Tryz.prog 103,k≤reachBytes) (hl:cs.length=1):
 ∃x:List (Int × Int),All2 W (mH W) (gE x) cs∧True:=by
 match cs,hl with
 | [v],_=>
   obtain⟨ys,g,_⟩:=tH (n:=2) (E:=pE) Tryz.underlying103 kR (by decide) (by have:Tryz.prog.bytesOf 105=16:=kR;omega) h hz (fun _=>True) (fun m cs y hy _ hl=>KI hy hl)
   exact⟨ys,⟨g,tV⟩,tV⟩
attribute [local semireducible] agg in
theorem MU {r:Reach} {b0:Nat} {v:Value} {d:DataW H} {p:List MemPlace} (hv:Value.okWide Tryz.prog W r b0 43 v) (h:DataW.Trod enc Tryz.prog W 0 (fun _=>true) true 43 v d p) (hz:∀k∈d.weights Tryz.prog 43,k≤reachBytes):
 ∃m:aI,(sys m).p W (mH W) v:=by
 obtain⟨v0,v1,y0,y1,n,rfl,rfl,rfl,h0,h1⟩:=Go.Joins.open_agg2 Tryz.underlying43 kR kR hv h
 have hz:∀k∈y0.1.weights Tryz.prog 22++(y1.1.weights Tryz.prog 41++ []),k≤reachBytes:=by
  have e:(DataW.agg [y0.1,y1.1]:DataW H).weights Tryz.prog 43=y0.1.weights Tryz.prog 22++(y1.1.weights Tryz.prog 41++ []):=by
   rw[uP Tryz.underlying43]
   simp[DataW.weightsEach]
  rw[←e];exact hz
 have b9:1≤Tryz.prog.bytesOf 9:=by have:Tryz.prog.bytesOf 9=16:=kR;omega
 have b85:1≤Tryz.prog.bytesOf 103:=by have:Tryz.prog.bytesOf 103=24:=kR;omega
 obtain⟨al,g1⟩:=CO Tryz.underlying22 Tryz.underlying9 kR b9 h0 (fun k hk=>hz k (List.mem_append.2 (.inl hk)))
 obtain⟨xs,g2,_⟩:=tH (n:=1) (E:=gE) Tryz.underlying41 kR (by decide) b85 h1 (fun k hk=>hz k (List.mem_append.2 (.inr (List.mem_append.2 (.inl hk))))) (fun _=>True) (fun m cs y hy hw hl=>II hy hw hl)
 exact⟨⟨al,xs⟩,⟨[v0,v1],rfl,g1,g2,tV⟩⟩
end
end LawOpen3
end
section
open ref01 ref03 ref04 ref06 prog15 starts Part Rungs LeftM TrimM RoundM BisM BisM5 BisM6 WalkM StepM WitM
namespace JudgM
def iC (es:List PP):Int:=aT (es.map fun e=>((2^e.1.toNat:Nat):Int))
abbrev edg (m:aI) (x:Nat):List PP:=ix m.sT x
abbrev cJ (m:aI) (x:Nat):Int:=iC (edg m x)
def edM (m:aI) (x:Nat):List (Nat × Nat):=(edg m x).map fun e=>(e.1.toNat,e.2.toNat)
theorem Jn (a b:Nat):has ((2^a:Nat):Int) (b:Int)=decide (a=b):=by
 unfold has;rw[Int.toNat_natCast,Int.toNat_natCast,Nat.testBit_two_pow]
theorem Dw {es:List PP} {a:Nat}:has (iC es) (a:Int)=true↔∃e∈es,e.1.toNat=a:=by
 unfold iC
 rw[bR]
 constructor
 ·rintro⟨u,hu,hh⟩
  obtain⟨e,he,rfl⟩:=List.mem_map.1 hu
  rw[Jn] at hh
  exact⟨e,he,by simpa using hh⟩
 ·rintro⟨e,he,rfl⟩
  exact⟨_,List.mem_map.2 ⟨e,he,rfl⟩,by rw[Jn];simp⟩
theorem yB (m:aI):Ff (cJ m) (edM m):=fun x a=>by
 rw[Dw]
 unfold edM
 constructor
 ·rintro⟨e,he,h⟩;exact⟨_,List.mem_map.2 ⟨e,he,rfl⟩,h⟩
 ·rintro⟨e,he,h⟩
  obtain⟨e',he',rfl⟩:=List.mem_map.1 he
  exact⟨e',he',h⟩
structure dJ (m:aI):Prop where
 acts:bM m.aC=true
 n8:m.aC.length≤8
 few0:1≤m.sT.length
 few1:m.sT.length≤10000
 ed:∀x,x<m.sT.length→∀e∈edg m x,0≤e.1∧e.1<(m.aC.length:Int)∧0≤e.2∧e.2<(m.sT.length:Int)
 many:∀x,x<m.sT.length→(edg m x).length≤400000
def lT (m:aI) (t:SS):Prop:=Sat (cJ m) (edM m) t 0 0
structure QJ (m:aI) (t:SS) (q:List Mt):Prop where
 ne:0<q.length
 hd:ix q 0=⟨0,0,-1,0⟩
 bd:∀p∈q,0≤p.s∧p.s<(m.sT.length:Int)∧0≤p.t∧p.t<(t.sT.length:Int)
 nd:(q.map cZ).Nodup
 back:∀k,0<k→k<q.length→∃(b:Nat) (e:PP),(ix q k).before=(b:Int)∧(ix q k).action=e.1∧b<k∧e∈edg m (ix q b).s.toNat∧(ix q k).s=e.2∧(ix q k).t=ix (nxt t (ix q b).t.toNat) e.1.toNat∧cJ m (ix q b).s.toNat∈acc t (ix q b).t.toNat
 all:∀R,KE (cJ m) (edM m) t R→R 0 0→∀p∈q,R p.s.toNat p.t.toNat
def lY (m:aI) (t:SS) (q:List Mt) (k:Nat):Prop:=
 cJ m (ix q k).s.toNat∈acc t (ix q k).t.toNat∧∀e∈edg m (ix q k).s.toNat,(e.2,ix (nxt t (ix q k).t.toNat) e.1.toNat)∈q.map cZ
theorem SI {m:aI} {t:SS} (hm:dJ m) (ht:oK t):QJ m t [⟨0,0,-1,0⟩]:=by
 have f1:=hm.few0
 have f2:=ht.few0
 refine⟨by simp,rfl,fun p hp=> ?_,by simp,fun k h1 h2=> ?_,fun R hR h p hp=> ?_⟩
 ·have:p=⟨0,0,-1,0⟩:=by simpa using hp
  subst this
  show 0≤(0:Int)∧(0:Int)<_∧0≤(0:Int)∧(0:Int)<_
  omega
 ·simp at h2;omega
 ·have:p=⟨0,0,-1,0⟩:=by simpa using hp
  subst this;exact h
theorem pX {m:aI} {t:SS} (hm:dJ m) (ht:oK t) {x y:Nat} (hx:x<m.sT.length) (hy:y<t.sT.length) (ha:cJ m x∈acc t y) {e:PP} (he:e∈edg m x):
 e.1.toNat<t.aC.length∧0≤ix (nxt t y) e.1.toNat∧ix (nxt t y) e.1.toNat<(t.sT.length:Int):=by
 have:=jR ht hy (a:=e.1.toNat) ((bR _ _).2 ⟨_,ha,Dw.2 ⟨e,he,rfl⟩⟩)
 exact this
theorem SJ {m:aI} {t:SS} (hm:dJ m) (ht:oK t) {q:List Mt} (h:QJ m t q) {i:Nat} (hi:i<q.length) (ha:cJ m (ix q i).s.toNat∈acc t (ix q i).t.toNat) {e:PP} (he:e∈edg m (ix q i).s.toNat)
 (hn:(e.2,ix (nxt t (ix q i).t.toNat) e.1.toNat)∉q.map cZ):QJ m t (q++ [⟨e.2,ix (nxt t (ix q i).t.toNat) e.1.toNat,(i:Int),e.1⟩]):=by
 have hb:=h.bd _ (aZ hi)
 have g1:=hm.ed (ix q i).s.toNat O e he
 have g2:=pX hm ht (x:=(ix q i).s.toNat) (y:=(ix q i).t.toNat) O O ha he
 refine⟨by simp,by rw[iV h.ne];exact h.hd,fun p hp=> ?_,?_,fun k h1 h2=> ?_,fun R hR h0 p hp=> ?_⟩
 ·rcases List.mem_append.1 hp with hp|hp
  ·exact h.bd p hp
  ·have:p=_:=List.mem_singleton.1 hp
   subst this
   exact⟨g1.2.2.1,g1.2.2.2,g2.2.1,g2.2.2⟩
 ·rw[List.map_append,List.nodup_append]
  exact⟨h.nd,by simp,fun p hp p' hp' e'=>hn (by
   have:p'=_:=List.mem_singleton.1 hp'
   rw[e',this] at hp;exact hp)⟩
 ·simp at h2
  by_cases e':k=q.length
  ·subst e'
   refine⟨i,e,?_⟩
   rw[Gk,iV hi]
   exact⟨rfl,rfl,hi,he,rfl,rfl,ha⟩
  ·obtain⟨b,a',p1,p2,p3,p4⟩:=h.back k h1 O
   refine⟨b,a',?_⟩
   rw[iV O,iV O]
   exact⟨p1,p2,p3,p4⟩
 ·rcases List.mem_append.1 hp with hp|hp
  ·exact h.all R hR h0 p hp
  ·have:p=_:=List.mem_singleton.1 hp
   subst this
   have:=(hR.nxt (h.all R hR h0 _ (aZ hi)) (e.1.toNat,e.2.toNat) (List.mem_map.2 ⟨e,he,rfl⟩)).2
   exact this
theorem KJ {m:aI} {t:SS} {q:List Mt} {p:Mt} {k:Nat} (hk:k<q.length) (h:lY m t q k):lY m t (q++ [p]) k:=by
 unfold lY
 rw[iV hk]
 exact⟨h.1,fun e he=>by rw[List.map_append];exact List.mem_append_left _ (h.2 e he)⟩
theorem SK {m:aI} {t:SS} {q:List Mt} (h:QJ m t q):tE q:=fun k hk h0=>by
 rcases Nat.eq_zero_or_pos k with e|e
 ·subst e;rw[h.hd] at h0
  have h0:(0:Int)≤ -1:=h0
  omega
 ·obtain⟨b,a,e1,e2,e3,_⟩:=h.back k e hk
  rw[e1];omega
theorem jM:∀(n m:Nat) (l:List (Int × Int)),l.Nodup→(∀p∈l,0≤p.1∧p.1<(n:Int)∧0≤p.2∧p.2<(m:Int))→l.length≤n*m:=by
 intro n m l hnd hb
 have h1:(l.map fun p=>p.1.toNat*m+p.2.toNat).Nodup:=by
  rw[List.nodup_iff_pairwise_ne,List.pairwise_map]
  refine List.Pairwise.imp_of_mem ?_ hnd
  intro a b ha hb' hne e
  have b1:=hb a ha
  have b2:=hb b hb'
  have hm:0<m:=by omega
  have e1:a.1.toNat=b.1.toNat:=by
   have:=congrArg (· /m) e
   simp only [Nat.mul_comm _ m] at this
   rw[Nat.mul_add_div hm,Nat.mul_add_div hm,Nat.div_eq_of_lt O,Nat.div_eq_of_lt O] at this
   omega
  have e2:a.2.toNat=b.2.toNat:=by rw[e1] at e;omega
  exact hne (Prod.ext O O)
 have h2:∀x∈(l.map fun p=>p.1.toNat*m+p.2.toNat),x∈List.range (n*m):=fun x hx=>by
  obtain⟨p,hp,rfl⟩:=List.mem_map.1 hx
  have b1:=hb p hp
  rw[List.mem_range]
  have:(p.1.toNat+1)*m≤n*m:=Nat.mul_le_mul_right m O
  rw[Nat.add_mul] at this
  omega
 have h3:=List.Nodup.length_le_of_subset h1 h2
 simpa using h3
theorem MV {m:aI} {t:SS} {q:List Mt} (h:QJ m t q):q.length≤m.sT.length*t.sT.length:=by
 have:=jM m.sT.length t.sT.length (q.map cZ) h.nd (fun p hp=>by
  obtain⟨m,hm,rfl⟩:=List.mem_map.1 hp
  exact h.bd m hm)
 simpa using this
structure tI (m:aI) (t:SS) (q:List Mt) (i:Nat) (k:Nat) (q2:List Mt) (mm2:List ((Int × Int) × Bool)):Prop where
 qi:QJ m t q2
 sm:mF mm2 q2
 pre:q<+:q2
 dn:∀k,k<i→lY m t q2 k
 al:∀e∈(edg m (ix q i).s.toNat).take k,(e.2,ix (nxt t (ix q i).t.toNat) e.1.toNat)∈q2.map cZ
theorem Jo {q r:List Mt} {k:Nat} (h:q<+:r) (hk:k<q.length):ix r k=ix q k:=by
 obtain⟨u,rfl⟩:=h
 exact iV hk
theorem MW {m:aI} {t:SS} {q:List Mt} {i:Nat} {mm:List ((Int × Int) × Bool)} (h:QJ m t q) (hs:mF mm q) (hd:∀k,k<i→lY m t q k):tI m t q i 0 q mm:=⟨h,hs,List.prefix_rfl,hd,fun e he=>by simp at he⟩
theorem MX {m:aI} {t:SS} (hm:dJ m) (ht:oK t) {q:List Mt} {i k:Nat} {q2:List Mt} {mm2:List ((Int × Int) × Bool)} (h:tI m t q i k q2 mm2) (hi:i<q.length) (ha:cJ m (ix q i).s.toNat∈acc t (ix q i).t.toNat) (hk:k<(edg m (ix q i).s.toNat).length) {e:PP} (he:ix (edg m (ix q i).s.toNat) k=e)
 {y:Int} (hy:ix (nxt t (ix q i).t.toNat) e.1.toNat=y) (hn:(cX mm2 (e.2,y)).getD false=false):tI m t q i (k+1) (q2++ [⟨e.2,y,(i:Int),e.1⟩]) (dI mm2 (e.2,y) true):=by
 subst hy
 have hl:=h.pre.length_le
 have hqi:=Jo h.pre hi
 have hem:e∈edg m (ix q i).s.toNat:=by rw[←he];exact aZ hk
 have hn':(e.2,ix (nxt t (ix q i).t.toNat) e.1.toNat)∉q2.map cZ:=by
  rw[vX h.sm] at hn
  simpa using hn
 have hp:=SJ hm ht h.qi (i:=i) O (by rw[hqi];exact ha) (e:=e) (by rw[hqi];exact hem) (by rw[hqi];exact hn')
 rw[hqi] at hp
 refine⟨hp,xX h.sm ⟨e.2,ix (nxt t (ix q i).t.toNat) e.1.toNat,(i:Int),e.1⟩,h.pre.trans (List.prefix_append _ _),fun k hk=>KJ O (h.dn k hk),fun b hb=> ?_⟩
 rw[List.map_append,List.mem_append]
 rw[bL hk,he,List.mem_append] at hb
 rcases hb with h1|h1
 ·exact .inl (h.al b h1)
 ·have:b=e:=by simpa using h1
  subst this
  exact .inr (List.mem_singleton.2 rfl)
theorem MY {m:aI} {t:SS} {q:List Mt} {i k:Nat} {q2:List Mt} {mm2:List ((Int × Int) × Bool)} (h:tI m t q i k q2 mm2) (hk:k<(edg m (ix q i).s.toNat).length) {e:PP} (he:ix (edg m (ix q i).s.toNat) k=e)
 {y:Int} (hy:ix (nxt t (ix q i).t.toNat) e.1.toNat=y) (hn:(cX mm2 (e.2,y)).getD false=true):tI m t q i (k+1) q2 mm2:=by
 subst hy
 refine⟨h.qi,h.sm,h.pre,h.dn,fun b hb=> ?_⟩
 rw[bL hk,he,List.mem_append] at hb
 rcases hb with h1|h1
 ·exact h.al b h1
 ·have:b=e:=by simpa using h1
  subst this
  rw[vX h.sm] at hn
  simpa using hn
theorem PB {m:aI} {t:SS} {q:List Mt} {i k:Nat} {q2:List Mt} {mm2:List ((Int × Int) × Bool)} (h:tI m t q i k q2 mm2) (hi:i<q.length) (ha:cJ m (ix q i).s.toNat∈acc t (ix q i).t.toNat) (hk:(edg m (ix q i).s.toNat).length≤k):
 QJ m t q2∧mF mm2 q2∧i+1≤q2.length∧∀k,k<i+1→lY m t q2 k:=by
 have hl:=h.pre.length_le
 refine⟨h.qi,h.sm,O,fun j hj=> ?_⟩
 by_cases e:j=i
 ·subst e
  have hqi:=Jo h.pre hi
  have hal:=h.al
  rw[List.take_of_length_le hk] at hal
  unfold lY
  rw[hqi]
  exact⟨ha,hal⟩
 ·exact h.dn j O
theorem SL {m:aI} {t:SS} (hm:dJ m) (ht:oK t) {q:List Mt} (h:QJ m t q) (hd:∀k,k<q.length→lY m t q k):lT m t:=by
 have hat:∀{x y:Nat},((x:Int),(y:Int))∈q.map cZ→∃k,k<q.length∧(ix q k).s=(x:Int)∧(ix q k).t=(y:Int):=fun {x y} hm=>by
  obtain⟨m,hm,e⟩:=List.mem_map.1 hm
  obtain⟨k,hk,rfl⟩:=List.getElem_of_mem hm
  unfold cZ at e
  simp only [Prod.mk.injEq] at e
  exact⟨k,hk,by rw[aJ hk];exact e.1,by rw[aJ hk];exact e.2⟩
 refine⟨fun x y=>((x:Int),(y:Int))∈q.map cZ,⟨fun {x y} hm=> ?_,fun {x y} hm=> ?_,fun {x y} hxy e he=> ?_,fun {x y} hxy e he=> ?_⟩,?_⟩
 ·obtain⟨k,hk,e1,e2⟩:=hat hm
  have:=h.bd _ (aZ hk)
  omega
 ·obtain⟨k,hk,e1,e2⟩:=hat hm
  have:=(hd k hk).1
  rw[e1,e2,Int.toNat_natCast,Int.toNat_natCast] at this
  exact this
 ·obtain⟨k,hk,e1,e2⟩:=hat hxy
  have hb:=h.bd _ (aZ hk)
  have ha:=(hd k hk).1
  rw[e1,e2,Int.toNat_natCast,Int.toNat_natCast] at ha
  obtain⟨e',he',rfl⟩:=List.mem_map.1 he
  have:=(pX hm ht (x:=x) (y:=y) O O ha he').1
  show e'.1.toNat<_
  rw[(ht.st y O).len];exact this
 ·obtain⟨k,hk,e1,e2⟩:=hat hxy
  have hb:=h.bd _ (aZ hk)
  obtain⟨ha,hed⟩:=hd k hk
  rw[e1,e2,Int.toNat_natCast,Int.toNat_natCast] at ha
  rw[e1,e2,Int.toNat_natCast,Int.toNat_natCast] at hed
  obtain⟨e',he',rfl⟩:=List.mem_map.1 he
  have g1:=(pX hm ht (x:=x) (y:=y) O O ha he').2.1
  have g2:=hm.ed x O e' he'
  have g3:=hed e' he'
  refine⟨g1,?_⟩
  show(((e'.2.toNat:Nat):Int),_)∈_
  rw[show((e'.2.toNat:Nat):Int)=e'.2 by omega,show(((ix (nxt t y) e'.1.toNat).toNat:Nat):Int)=ix (nxt t y) e'.1.toNat by omega]
  exact g3
 ·have:=aZ (l:=q) h.ne
  rw[h.hd] at this
  exact List.mem_map.2 ⟨_,this,rfl⟩
theorem Va {m:aI} {t:SS} {q:List Mt} (h:QJ m t q) {i:Nat} (hi:i<q.length) (hn:cJ m (ix q i).s.toNat∉acc t (ix q i).t.toNat):¬lT m t:=fun⟨R,hR,h0⟩=>hn (hR.acc (h.all R hR h0 _ (aZ hi)))
structure VJ where
 holds:Bool
 pairs:List PP
 word:List Int
 state:Int
structure Dx (m:aI) (t:SS) (v:VJ):Prop where
 yes:v.holds=true→lT m t∧v.word= []∧v.state=0∧∃q,QJ m t q∧(∀k,k<q.length→lY m t q k)∧v.pairs=gG (q.map cZ)
 no:v.holds=false→¬lT m t∧v.pairs= []∧∃q i,QJ m t q∧i<q.length∧v.word=eD q i∧v.state=(ix q i).s∧(∀k,k<i→lY m t q k)∧cJ m (ix q i).s.toNat∉acc t (ix q i).t.toNat
theorem MZ {m:aI} {t:SS} {v:VJ} (h:Dx m t v):v.holds=true↔lT m t:=by
 constructor
 ·exact fun e=>(h.yes e).1
 ·intro hs
  cases e:v.holds with
  |true=>rfl
  |false=>exact absurd hs (h.no e).1
end JudgM
end
section
open ref01 ref03 ref04 ref06 prog prog2 prog3 prog6 prog13 prog15 starts search Part Rungs LeftM TrimM RoundM BisM BisM5 WalkM StepM WitM JudgM refw judg wit
def pY (d e:Int × Int):Int:=if d.1=e.1 then d.2- e.2 else d.1- e.1
theorem SM {d e:Int × Int} (h:¬0≤pY d e):d.1<e.1∨(d.1=e.1∧d.2<e.2):=by
 unfold pY at h
 split at h<;>omega
theorem SN {d e:Int × Int} (h:0≤pY d e):¬(d.1<e.1∨(d.1=e.1∧d.2<e.2)):=by
 unfold pY at h
 split at h<;>omega
def iM (A N:Nat) (e:Int × Int):Bool:=decide (0≤e.1)&&decide (e.1<(A:Int))&&decide (0≤e.2)&&decide (e.2<(N:Int))
theorem fK {A N:Nat} {e:Int × Int}:iM A N e=true↔0≤e.1∧e.1<(A:Int)∧0≤e.2∧e.2<(N:Int):=by
 unfold iM;simp[and_assoc]
def ltP (d e:Int × Int):Bool:=decide (d.1<e.1)||(decide (d.1=e.1)&&decide (d.2<e.2))
theorem Dy {d e:Int × Int}:ltP d e=true↔d.1<e.1∨(d.1=e.1∧d.2<e.2):=by unfold ltP;simp
def eQ (A N:Nat) (l:List (Int × Int)):Bool:=l.all (iM A N)&&(List.range (l.length- 1)).all fun i=>ltP (ix l i) (ix l (i+1))
def eE (l:List (List (Int × Int))):Nat:=(l.map List.length).sum
theorem nD (l:List (List (Int × Int))) (x:List (Int × Int)):eE (l++ [x])=eE l+x.length:=by simp[eE]
theorem uQ (l:List (List (Int × Int))) (k:Nat):eE (l.take k)≤eE l:=by
 conv=>rhs;rw[←List.take_append_drop k l]
 unfold eE
 rw[List.map_append,List.sum_append];omega
theorem Ey {l:List (List (Int × Int))} {k:Nat} (h:k<l.length):(ix l k).length≤eE l:=by
 have:=uQ l (k+1)
 rw[bL h,nD] at this
 omega
def eV (m:aI):Bool:=bM m.aC&&decide (1≤m.sT.length)&&decide (m.sT.length≤5000)&&m.sT.all (eQ m.aC.length m.sT.length)&&decide (eE m.sT≤400000)
def CQ (m:aI):Nat:=m.aC.length+m.sT.length+eE m.sT
def GR (m:aI) (n:Int):Bool:=decide ((CQ m:Int)≤n)
theorem pZ {m:aI} (h:eV m=true):dJ m:=by
 unfold eV at h
 simp only [Bool.and_eq_true,decide_eq_true_eq] at h
 obtain⟨⟨⟨⟨h1,h2⟩,h3⟩,h4⟩,h5⟩:=h
 refine⟨h1,fG h1,h2,O,fun x hx e he=> ?_,fun x hx=> ?_⟩
 ·have g:=xG h4 hx
  unfold eQ at g
  rw[Bool.and_eq_true] at g
  exact fK.1 (List.all_eq_true.1 g.1 e he)
 ·exact Nat.le_trans (Ey hx) h5
theorem Bk {A N:Nat} {l:List (Int × Int)} (h1:∀j,j<l.length→iM A N (ix l j)=true) (h2:∀j,j+1<l.length→ltP (ix l j) (ix l (j+1))=true):eQ A N l=true:=by
 unfold eQ
 rw[Bool.and_eq_true]
 refine⟨List.all_eq_true.2 (fun e he=> ?_),List.all_eq_true.2 (fun j hj=>h2 j (by have:=List.mem_range.1 hj;omega))⟩
 obtain⟨j,hj,rfl⟩:=List.getElem_of_mem he
 rw[←aJ hj];exact h1 j hj
theorem Ez {A N:Nat} {l:List (Int × Int)} {j:Nat} (hj:j<l.length) (h:iM A N (ix l j)=false):eQ A N l=false:=by
 cases g:eQ A N l with
 |false=>rfl
 |true=>
  unfold eQ at g
  rw[Bool.and_eq_true] at g
  rw[xG g.1 hj] at h;cases h
theorem EA {A N:Nat} {l:List (Int × Int)} {j:Nat} (hj:j<l.length) (h0:0<j) (h:ltP (ix l (j- 1)) (ix l j)=false):eQ A N l=false:=by
 cases g:eQ A N l with
 |false=>rfl
 |true=>
  unfold eQ at g
  rw[Bool.and_eq_true] at g
  have:=List.all_eq_true.1 g.2 (j- 1) (List.mem_range.2 O)
  rw[show j- 1+1=j by omega,h] at this;cases this
theorem eI {m:aI} (h:Inh (sys m)):m.aC.length≤140737488355328∧m.sT.length≤140737488355328∧∀k,k<m.sT.length→(ix m.sT k).length≤140737488355328:=
 ⟨(h.agg 0 rfl).len,(h.agg 1 rfl).len,fun _ hk=>((h.agg 1 rfl).el (gK hk) 0 rfl).len⟩
namespace T
theorem eJ:cW Tryz.prog 105 0 0:=cB kR
theorem iW:cW Tryz.prog 105 1 1:=cB kR
theorem iE:IsSlice Tryz.prog 103 105 2:=dW kR
theorem gC:fH Tryz.prog 105 2:=fT kR
theorem yC:dM Tryz.prog 105 [.int .i64 0,.int .i64 0]:=cC kR
theorem jN:IsSlice Tryz.prog 41 103 1:=dW kR
theorem mW:cW Tryz.prog 43 0 0:=cB kR
theorem Wy:Ent Tryz.prog 98:=aG kR
end T
namespace sysw
theorem PD (d e:Int × Int) (hd:bdP d) (he:bdP e):
 Fn0 Tryz.prog 98 [agg [int d.1,int d.2],agg [int e.1,int e.2]] (int (pY d e)):=by
 refine fnI Tryz.func98 rfl rfl (fun w0 F0=> ?_)
 unfold bdP at hd he
 refine sq (rg (bx (key:=2) (cs:= [int d.1,int d.2]) J fun b2=>(bx (key:=3) (cs:= [int e.1,int e.2]) J fun b3=>(ag (nl (th (sq (sq (rg (fP J T.eJ (lP J J J T.aF (fP J T.eJ (lP J J J T.aF (bi J J fS (nl (th ?_))))))))))))))))
 refine cd J (fun hc0=> ?_) (fun hc0=> ?_)
 ·try simp at hc0
  refine sq (rg (fP J T.eJ (lP J J J T.aF (fP J T.eJ (lP J J J T.aF (bi J J (qE i6) (ag (nl (th (rt (rt_ ?_)))))))))))
  have hr0:((d.1- e.1):Int)=(pY d e):=by
   unfold pY;rw[if_neg hc0]
  exact rE () [.tmp 4] J [int (d.1- e.1)] ⟨.tmp J,tV⟩ (cA1 (fun x0=>rV [int x0]) hr0) trivial eX
 ·try simp at hc0
  refine sk (th (sq (rg (fP J T.iW (lP J J J T.aF (fP J T.iW (lP J J J T.aF (bi J J (qE i6) (ag (nl (th (rt ?_))))))))))))
  have hr0:((d.2- e.2):Int)=(pY d e):=by
   unfold pY;rw[if_pos hc0]
  exact rE () [.tmp 4] J [int (d.2- e.2)] ⟨.tmp J,tV⟩ (cA1 (fun x0=>rV [int x0]) hr0) trivial eX
theorem EB (l:List (Int × Int)) (hl:∀e∈l,0≤e.1∧e.1<8):
 Fn0 Tryz.prog 85 [sl 2 pE l] (int (iC l)):=by
 refine fnI Tryz.func85 rfl rfl (fun w0 F0=> ?_)
 refine fcC (aL 0 J) (fun hm0=> ?_)
 refine sq (rg (ag (nl (th (sq (rg (ag (nl (th (sq (sq (rg (mv (lnF J T.iE (mv (nl (th (bk ?_))))))))))))))))))
 have hI0_0:0≤l.length:=by
  first|omega|simp
 have hI0_1:(0:Int)=iC (l.take 0)∧0≤(0:Int)∧(0:Int)<256:=by
  exact⟨rfl,O,O⟩
 refine lp (κ:=Nat × Int) (fun p=> [(2,int 0),(3,int p.2),(6,sl 2 pE l),(7,int (l.length:Int)),(8,int (p.1:Int))]) (fun p=> []) (fun p=>(p.1≤l.length)∧(p.2=iC (l.take p.1)∧0≤p.2∧p.2<256)) (fun p=>l.length- p.1) ⟨0,(0:Int)⟩ ⟨hI0_0,hI0_1⟩ ⟨id,id,id,id,id,tV⟩ trivial ?_
 intro⟨k,u⟩ hG0
 obtain⟨hk0,⟨hu,hu0,hu1⟩⟩:(k≤l.length)∧(u=iC (l.take k)∧0≤u∧u<256):=hG0
 show Ct _ _ _ _ [(2,int 0),(3,int u),(6,sl 2 pE l),(7,int (l.length:Int)),(8,int (k:Int))] [] _
 refine sq (rg (bi J J aN (nl (th (sq ?_)))))
 refine cd J (fun hc0=> ?_) (fun hc0=> ?_)
 ·try simp at hc0
  have hek:=hl _ (aZ hc0)
  have hp:2^ ((ix l k).1).toNat≤2^7:=Nat.pow_le_pow_right O O
  have hp0:0≤((2^ ((ix l k).1).toNat:Nat):Int):=Int.natCast_nonneg _
  refine sk (th (sq (bk (sq (rg (iF J J T.iE O gB (lFA J T.gC (Nat.le_of_ble_eq_true J) (al (key:=5) T.yC (eC (eC eZ)) fun b5=>(sPA (cs':= [int ((ix l k).1),int ((ix l k).2)]) J J J T.gC J J (nl (th (rg (mv (fP J T.eJ (lP J J J T.aF (bi J J (uW O O) (bi J J (rO O O O O) (ag (nl (eb (th (rg (bi J J (aK i6) (mv (nl ?_)))))))))))))))))))))))))
  have hN0:(k+1)≤l.length:=by
   first|omega|simp_all
  have hN1:((u.toNat|||(2^ ((ix l k).1).toNat):Nat):Int)=iC (l.take (k+1))∧0≤((u.toNat|||(2^ ((ix l k).1).toNat):Nat):Int)∧((u.toNat|||(2^ ((ix l k).1).toNat):Nat):Int)<256:=by
   refine⟨?_,O,kG (b:=((2^ ((ix l k).1).toNat:Nat):Int)) hu1 O⟩
   rw[bL hc0]
   unfold iC
   rw[List.map_append,List.map_cons,List.map_nil,gQ,hu];rfl
  exact ln (⟨k+1,((u.toNat|||(2^ ((ix l k).1).toNat):Nat):Int)⟩:Nat × Int) ⟨hN0,hN1⟩ dO ⟨id,id,id,id,id,tV⟩ trivial
 ·try simp at hc0
  refine ex (xt_ (xt_ (xb (th (sq (rg (mv (ag (nl (th (rt ?_)))))))))))
  have hr0:(u:Int)=(iC l):=by
   rw[hu,show k=l.length by omega,List.take_length]
  exact rE () [.tmp 2] J [int u] ⟨.tmp J,tV⟩ (cA1 (fun x0=>rV [int x0]) hr0) trivial eX
theorem nP (m:aI):
 Fn0 Tryz.prog 138 [sys m] (bl (eV m)):=by
 refine fnI Tryz.func138 rfl rfl (fun w0 F0=> ?_)
 refine fcC (bO 0 J) (fun hS0=> ?_)
 obtain⟨hma0,hms0,hme0⟩:=eI hS0
 refine sq (rg (bx (key:=1) (cs:= [sl 1 rE_ m.aC,sl 1 gE m.sT]) J fun b1=>(ag (nl (th (sq (rg (fP J T.dS (lP J J J T.gH (fc (aL 10 J) fun hm10=>(lnF J T.jN (ag (nl (th (sq (sq (rg (fP J T.mW (lP J J J T.cV (aO (φs:= [sl 1 rE_ m.aC]) (φ:=bl (bM m.aC)) ⟨J,tV⟩ (prog.xM _) T.FV (no J (mv ?_))))))))))))))))))))))
 apply gOr (t:=16) (pd:=19) rfl
 rotate_left
 ·intro hg0 fin
  have hg0':=hg0
  try simp at hg0'
  exact gy J J J hg0 (mv (gy J J J hg0 (bi J J aN (pkF J hg0 J (drp (X:= [(18,_),(17,_)]) ⟨J,J,tV⟩ fin)))))
 ·intro hg0 fin
  exact gn J J J hg0 J J (gn J J J hg0 J J (pkT J hg0 J (drp (X:= [(18,_),(17,_)]) ⟨J,J,tV⟩ fin)))
 refine mv ?_
 apply gOr (t:=20) (pd:=23) rfl
 rotate_left
 ·intro hg1 fin
  have hg1':=hg1
  try simp at hg1'
  exact gy J J J hg1 (mv (gy J J J hg1 (bi J J gW (pkF J hg1 J (drp (X:= [(22,_),(21,_)]) ⟨J,J,tV⟩ fin)))))
 ·intro hg1 fin
  exact gn J J J hg1 J J (gn J J J hg1 J J (pkT J hg1 J (drp (X:= [(22,_),(21,_)]) ⟨J,J,tV⟩ fin)))
 refine nl (th ?_)
 refine cd J (fun hc0=> ?_) (fun hc0=> ?_)
 ·try simp at hc0
  refine sq (rg (ag (nl (th (rt (rt_ ?_))))))
  have hr0:false=(eV m):=by
   unfold eV
   by_cases h:bM m.aC=true
   ·simp[h] at hc0 ⊢
    omega
   ·simp[h]
  exact rE () [.tmp 2] J [bl false] ⟨.tmp J,tV⟩ (cA1 (fun x0=>rV [bl x0]) hr0) trivial eX
 ·try simp at hc0
  have hact:=fG (l:=m.aC) (by simp_all)
  refine sk (th (sq (rg (ag (nl (th (sq (sq (rg (fP J T.dS (lP J J J T.gH (lnF J T.jN (mv (nl (th (bk ?_))))))))))))))))
  have hI0_0:0≤m.sT.length:=by
   first|omega|simp
  have hI0_1:(0:Int)=(eE (m.sT.take 0):Int)∧(m.sT.take 0).all (eQ m.aC.length m.sT.length)=true∧(0:Int)≤400000:=by
   exact⟨rfl,by simp,O⟩
  refine lp (κ:=Nat × Int) (fun p=> [(1,ptr 1 b1 0),(3,int (m.sT.length:Int)),(4,int p.2),(25,sl 1 gE m.sT),(26,int (m.sT.length:Int)),(27,int (p.1:Int))]) (fun p=> [(1,cell b1 [sl 1 rE_ m.aC,sl 1 gE m.sT])]) (fun p=>(p.1≤m.sT.length)∧(p.2=(eE (m.sT.take p.1):Int)∧(m.sT.take p.1).all (eQ m.aC.length m.sT.length)=true∧p.2≤400000)) (fun p=>m.sT.length- p.1) ⟨0,(0:Int)⟩ ⟨hI0_0,hI0_1⟩ ⟨id,id,id,id,id,id,tV⟩ ⟨rI,tV⟩ ?_
  intro⟨k,n⟩ hG0
  obtain⟨hk0,⟨hn,hal,hn4⟩⟩:(k≤m.sT.length)∧(n=(eE (m.sT.take k):Int)∧(m.sT.take k).all (eQ m.aC.length m.sT.length)=true∧n≤400000):=hG0
  show Ct _ _ _ _ [(1,ptr 1 b1 0),(3,int (m.sT.length:Int)),(4,int n),(25,sl 1 gE m.sT),(26,int (m.sT.length:Int)),(27,int (k:Int))] [(1,cell b1 [sl 1 rE_ m.aC,sl 1 gE m.sT])] _
  have hmk:=hme0 k
  refine sq (rg (bi J J aN (nl (th (sq ?_)))))
  refine cd J (fun hc1=> ?_) (fun hc1=> ?_)
  ·try simp at hc1
   refine sk (th (sq (bk (sq (rg (iF J J T.jN O gB (lF J J T.iL (ag (nl (th (sq (rg (mv (mv (fc (aL 32 J) fun hm32=>(lnF J T.iE (bi J J (aK i6) (ag (nl (th (sq (sq (rg (mv (bi J J gW (nl (th ?_)))))))))))))))))))))))))))
   refine cd J (fun hc2=> ?_) (fun hc2=> ?_)
   ·try simp at hc2
    refine sq (rg (ag (nl (th (rt (rt_ (rb (rt_ (rt_ (rb (rt_ ?_)))))))))))
    have hr0:false=(eV m):=by
     unfold eV
     rw[decide_eq_false (p:=eE m.sT≤400000) (by have:=uQ m.sT (k+1);rw[bL O,nD] at this;omega)]
     simp
    exact rE () [.tmp 2] J [bl false] ⟨.tmp J,tV⟩ (cA1 (fun x0=>rV [bl x0]) hr0) trivial eX
   ·try simp at hc2
    refine sk (th (sq (rg (mv (lnF J T.iE (mv (nl (th (bk ?_)))))))))
    have hI1_0:0≤(ix m.sT k).length:=by
     first|omega|simp
    have hI1_1:(∀j,j<0→iM m.aC.length m.sT.length (ix (ix m.sT k) j)=true)∧∀j,j+1<0→ltP (ix (ix m.sT k) j) (ix (ix m.sT k) (j+1))=true:=by
     exact⟨fun j hj=>by omega,fun j hj=>by omega⟩
    refine lp (κ:=Nat) (fun p=> [(1,ptr 1 b1 0),(3,int (m.sT.length:Int)),(4,int (n+((ix m.sT k).length:Int))),(6,sl 2 pE (ix m.sT k)),(25,sl 1 gE m.sT),(26,int (m.sT.length:Int)),(27,int (k:Int)),(37,sl 2 pE (ix m.sT k)),(38,int ((ix m.sT k).length:Int)),(39,int (p:Int))]) (fun p=> [(1,cell b1 [sl 1 rE_ m.aC,sl 1 gE m.sT])]) (fun p=>(p≤(ix m.sT k).length)∧((∀j,j<p→iM m.aC.length m.sT.length (ix (ix m.sT k) j)=true)∧∀j,j+1<p→ltP (ix (ix m.sT k) j) (ix (ix m.sT k) (j+1))=true)) (fun p=>(ix m.sT k).length- p) 0 ⟨hI1_0,hI1_1⟩ ⟨id,id,id,id,id,id,id,id,id,id,tV⟩ ⟨rI,tV⟩ ?_
    intro k1 hG1
    obtain⟨hk1,hI1⟩:(k1≤(ix m.sT k).length)∧((∀j,j<k1→iM m.aC.length m.sT.length (ix (ix m.sT k) j)=true)∧∀j,j+1<k1→ltP (ix (ix m.sT k) j) (ix (ix m.sT k) (j+1))=true):=hG1
    refine sq (rg (bi J J aN (nl (th (sq ?_)))))
    refine cd J (fun hc3=> ?_) (fun hc3=> ?_)
    ·try simp at hc3
     refine sk (th (sq (bk (sq (rg (mv (iF J J T.iE O gB (lFA J T.gC (Nat.le_of_ble_eq_true J) (al (key:=8) T.yC (eC (eC eZ)) fun b8=>(ag (sPA (cs':= [int ((ix (ix m.sT k) k1).1),int ((ix (ix m.sT k) k1).2)]) J J J T.gC J J (nl (th (sq (dr (nh:=36) [0,1,3,7,15,31,15,79,207,511,1023,2047,4095,8191,16383,32767,65535,131071,262143,131071,1048575,2097151,4194303,8388607,16777215,33554431,67108863,67108863,201326591,536870911,1073741823,67108863,4294967295,8589934591,17179869183,34359738367] T.mixed kR ?_)))))))))))))))
     refine st_ J (fun _ _ _ gq kq=>fP (gq.1.trans J) T.eJ kq) ?_
     refine st_ J (fun _ _ _ gq kq=>lP (gq.1.trans J) J J T.aF kq) ?_
     refine st_ J (fun _ _ _ gq kq=>bi (gq.1.trans J) J aN kq) ?_
     refine st_ J (fun _ _ _ gq kq=>mv' (gq.1.trans J) kq) ?_
     refine sg_ (φ:=ptr 8 b8 0) J J J J (List.mem_of_elem_eq_true J) (fun hgd=> ?_) ?_
     ·have hgd':=hgd
      try simp at hgd'
      exact fun _ _ _ gq kq=>fP (gq.1.trans J) T.eJ kq
     refine sg_ (φ:=int ((ix (ix m.sT k) k1).1)) J J J J (List.mem_of_elem_eq_true J) (fun hgd=> ?_) ?_
     ·have hgd':=hgd
      try simp at hgd'
      exact fun _ _ _ gq kq=>lP (gq.1.trans (bG hgd)) J J T.aF kq
     refine sg_ (φ:=ptr 1 b1 0) J J J J (List.mem_of_elem_eq_true J) (fun hgd=> ?_) ?_
     ·have hgd':=hgd
      try simp at hgd'
      exact fun _ _ _ gq kq=>fP (gq.1.trans J) T.mW kq
     refine sg_ (φ:=sl 1 rE_ m.aC) J J J J (List.mem_of_elem_eq_true J) (fun hgd=> ?_) ?_
     ·have hgd':=hgd
      try simp at hgd'
      exact fun _ _ _ gq kq=>lP (gq.1.trans (bG hgd)) J J T.cV kq
     refine sg_ (φ:=int (m.aC.length:Int)) J J J J (List.mem_of_elem_eq_true J) (fun hgd=> ?_) ?_
     ·have hgd':=hgd
      try simp at hgd'
      exact fun _ _ _ gq kq=>lnF (gq.1.trans (bG hgd)) T.eS kq
     refine sg_ (φ:=bl (decide ((m.aC.length:Int)≤((ix (ix m.sT k) k1).1)))) J J J J (List.mem_of_elem_eq_true J) (fun hgd=> ?_) ?_
     ·have hgd':=hgd
      try simp at hgd'
      exact fun _ _ _ gq kq=>bi (gq.1.trans (bG hgd)) (gq.2.1.trans (bG hgd)) eT kq
     refine st_ J (fun _ _ _ gq kq=>pk (gq.1.trans J) (nG (x:= .tmp 47) (gq.1.trans J) (gq.2.1.trans J) J) kq) ?_
     refine st_ J (fun _ _ _ gq kq=>mv' (gq.1.trans J) kq) ?_
     refine sg_ (φ:=ptr 8 b8 1) J J J J (List.mem_of_elem_eq_true J) (fun hgd=> ?_) ?_
     ·have hgd':=hgd
      try simp at hgd'
      exact fun _ _ _ gq kq=>fP (gq.1.trans J) T.iW kq
     refine sg_ (φ:=int ((ix (ix m.sT k) k1).2)) J J J J (List.mem_of_elem_eq_true J) (fun hgd=> ?_) ?_
     ·have hgd':=hgd
      try simp at hgd'
      exact fun _ _ _ gq kq=>lP (gq.1.trans (bG hgd)) J J T.aF kq
     refine sg_ (φ:=bl (decide (((ix (ix m.sT k) k1).2)<0))) J J J J (List.mem_of_elem_eq_true J) (fun hgd=> ?_) ?_
     ·have hgd':=hgd
      try simp at hgd'
      exact fun _ _ _ gq kq=>bi (gq.1.trans (bG hgd)) J aN kq
     refine st_ J (fun _ _ _ gq kq=>pk (gq.1.trans J) (nG (x:= .tmp 55) (gq.1.trans J) (gq.2.1.trans J) J) kq) ?_
     refine st_ J (fun _ _ _ gq kq=>mv' (gq.1.trans J) kq) ?_
     refine sg_ (φ:=ptr 8 b8 1) J J J J (List.mem_of_elem_eq_true J) (fun hgd=> ?_) ?_
     ·have hgd':=hgd
      try simp at hgd'
      exact fun _ _ _ gq kq=>fP (gq.1.trans J) T.iW kq
     refine sg_ (φ:=int ((ix (ix m.sT k) k1).2)) J J J J (List.mem_of_elem_eq_true J) (fun hgd=> ?_) ?_
     ·have hgd':=hgd
      try simp at hgd'
      exact fun _ _ _ gq kq=>lP (gq.1.trans (bG hgd)) J J T.aF kq
     refine sg_ (φ:=int (m.sT.length:Int)) J J J J (List.mem_of_elem_eq_true J) (fun hgd=> ?_) ?_
     ·have hgd':=hgd
      try simp at hgd'
      exact fun _ _ _ gq kq=>mv' (gq.1.trans J) kq
     refine sg_ (φ:=bl (decide ((m.sT.length:Int)≤((ix (ix m.sT k) k1).2)))) J J J J (List.mem_of_elem_eq_true J) (fun hgd=> ?_) ?_
     ·have hgd':=hgd
      try simp at hgd'
      exact fun _ _ _ gq kq=>bi (gq.1.trans (bG hgd)) (gq.2.1.trans (bG hgd)) eT kq
     refine st_ J (fun _ _ _ gq kq=>pk (gq.1.trans J) (nG (x:= .tmp 60) (gq.1.trans J) (gq.2.1.trans J) J) kq) ?_
     refine st_ J (fun _ _ _ gq kq=>mv' (gq.1.trans J) kq) ?_
     refine sg_ (φ:=int (k1:Int)) J J J J (List.mem_of_elem_eq_true J) (fun hgd=> ?_) ?_
     ·have hgd':=hgd
      try simp at hgd'
      exact fun _ _ _ gq kq=>mv' (gq.1.trans J) kq
     refine sg_ (φ:=bl (decide (0<(k1:Int)))) J J J J (List.mem_of_elem_eq_true J) (fun hgd=> ?_) ?_
     ·have hgd':=hgd
      try simp at hgd'
      exact fun _ _ _ gq kq=>bi (gq.1.trans (bG hgd)) J gW kq
     refine sg_ (φ:=bl (decide (0<(k1:Int)))) J J J J (List.mem_of_elem_eq_true J) (fun hgd=> ?_) ?_
     ·have hgd':=hgd
      try simp at hgd'
      exact fun _ _ _ gq kq=>mv' (gq.1.trans (bG hgd)) kq
     refine iH (φ:=sl 2 pE (ix m.sT k)) rfl rfl rfl rfl (List.mem_of_elem_eq_true rfl) (fun hgd hgd2=> ?_) ?_
     ·have hgd':=hgd
      try simp at hgd'
      have hgd2':=hgd2
      try simp at hgd2'
      exact fun _ _ _ gq kq=>mv' (gq.1.trans J) kq
     refine iH (φ:=int (k1:Int)) rfl rfl rfl rfl (List.mem_of_elem_eq_true rfl) (fun hgd hgd2=> ?_) ?_
     ·have hgd':=hgd
      try simp at hgd'
      have hgd2':=hgd2
      try simp at hgd2'
      exact fun _ _ _ gq kq=>mv' (gq.1.trans J) kq
     refine iH (φ:=int ((k1:Int)- 1)) rfl rfl rfl rfl (List.mem_of_elem_eq_true rfl) (fun hgd hgd2=> ?_) ?_
     ·have hgd':=hgd
      try simp at hgd'
      have hgd2':=hgd2
      try simp at hgd2'
      exact fun _ _ _ gq kq=>bi (gq.1.trans (fQ hgd hgd2)) J (qE i6) kq
     refine iH (φ:=fp [int ((ix (ix m.sT k) ((k1:Int)- 1).toNat).1),int ((ix (ix m.sT k) ((k1:Int)- 1).toNat).2)]) rfl rfl rfl rfl (List.mem_of_elem_eq_true rfl) (fun hgd hgd2=> ?_) ?_
     ·have hgd':=hgd
      try simp at hgd'
      have hgd2':=hgd2
      try simp at hgd2'
      exact fun _ _ _ gq kq=>iF (gq.1.trans (fQ hgd hgd2)) (gq.2.1.trans (fQ hgd hgd2)) T.iE O gB kq
     refine iH (φ:=agg [int ((ix (ix m.sT k) ((k1:Int)- 1).toNat).1),int ((ix (ix m.sT k) ((k1:Int)- 1).toNat).2)]) rfl rfl rfl rfl (List.mem_of_elem_eq_true rfl) (fun hgd hgd2=> ?_) ?_
     ·have hgd':=hgd
      try simp at hgd'
      have hgd2':=hgd2
      try simp at hgd2'
      exact fun _ _ _ gq kq=>lFA (gq.1.trans (fQ hgd hgd2)) T.gC (Nat.le_of_ble_eq_true J) kq
     refine iH (φ:=agg [int ((ix (ix m.sT k) k1).1),int ((ix (ix m.sT k) k1).2)]) rfl rfl rfl rfl (List.mem_of_elem_eq_true rfl) (fun hgd hgd2=> ?_) ?_
     ·have hgd':=hgd
      try simp at hgd'
      have hgd2':=hgd2
      try simp at hgd2'
      exact fun _ _ _ gq kq=>lPA (gq.1.trans J) J T.gC J kq
     refine iH (φ:=int (pY ((ix (ix m.sT k) ((k1:Int)- 1).toNat).1,(ix (ix m.sT k) ((k1:Int)- 1).toNat).2) ((ix (ix m.sT k) k1).1,(ix (ix m.sT k) k1).2))) rfl rfl rfl rfl (List.mem_of_elem_eq_true rfl) (fun hgd hgd2=> ?_) ?_
     ·have hgd':=hgd
      try simp at hgd'
      have hgd2':=hgd2
      try simp at hgd2'
      have hp1:=fK.1 (hI1.1 ((k1:Int)- 1).toNat O)
      have hb1:bdP ((ix (ix m.sT k) ((k1:Int)- 1).toNat).1,(ix (ix m.sT k) ((k1:Int)- 1).toNat).2):=by unfold bdP;dsimp only;omega
      have hb2:bdP ((ix (ix m.sT k) k1).1,(ix (ix m.sT k) k1).2):=by unfold bdP;dsimp only;omega
      exact fun _ _ _ gq kq=>aO (φs:= [agg [int ((ix (ix m.sT k) ((k1:Int)- 1).toNat).1),int ((ix (ix m.sT k) ((k1:Int)- 1).toNat).2)],agg [int ((ix (ix m.sT k) k1).1),int ((ix (ix m.sT k) k1).2)]]) (φ:=int (pY ((ix (ix m.sT k) ((k1:Int)- 1).toNat).1,(ix (ix m.sT k) ((k1:Int)- 1).toNat).2) ((ix (ix m.sT k) k1).1,(ix (ix m.sT k) k1).2))) ⟨(gq.1.trans (fQ hgd hgd2)),(gq.2.1.trans (fQ hgd hgd2)),tV⟩ (sysw.PD ((ix (ix m.sT k) ((k1:Int)- 1).toNat).1,(ix (ix m.sT k) ((k1:Int)- 1).toNat).2) ((ix (ix m.sT k) k1).1,(ix (ix m.sT k) k1).2) aS aS) T.Wy kq
     refine iH (φ:=bl (decide (0≤(pY ((ix (ix m.sT k) ((k1:Int)- 1).toNat).1,(ix (ix m.sT k) ((k1:Int)- 1).toNat).2) ((ix (ix m.sT k) k1).1,(ix (ix m.sT k) k1).2))))) rfl rfl rfl rfl (List.mem_of_elem_eq_true rfl) (fun hgd hgd2=> ?_) ?_
     ·have hgd':=hgd
      try simp at hgd'
      have hgd2':=hgd2
      try simp at hgd2'
      exact fun _ _ _ gq kq=>bi (gq.1.trans (fQ hgd hgd2)) J eT kq
     refine sg_ (φ:=bl ((decide (0<(k1:Int)))&&(decide (0≤(pY ((ix (ix m.sT k) ((k1:Int)- 1).toNat).1,(ix (ix m.sT k) ((k1:Int)- 1).toNat).2) ((ix (ix m.sT k) k1).1,(ix (ix m.sT k) k1).2)))))) J J J J (List.mem_of_elem_eq_true J) (fun hgd=> ?_) ?_
     ·have hgd':=hgd
      try simp at hgd'
      exact fun _ _ _ gq kq=>pk (gq.1.trans (bG hgd)) (mA (x:= .tmp 69) (gq.1.trans (bG hgd)) (gq.2.1.trans (uY hgd)) J) kq
     refine st_ J (fun _ _ _ gq kq=>pk (gq.1.trans J) (nG (x:= .tmp 66) (gq.1.trans J) (gq.2.1.trans J) J) kq) ?_
     refine pn (nl (th ?_))
     refine cd J (fun hc4=> ?_) (fun hc4=> ?_)
     ·skip
      simp only [Bool.or_eq_true,Bool.and_eq_true,decide_eq_true_eq] at hc4
      refine sq (rg (ag (nl (th (rt (rb (rt_ (rt_ (rb (rb (rt_ (rt_ (rb (rt_ ?_))))))))))))))
      have hr0:false=(eV m):=by
       unfold eV
       rw[gO (xs:=m.sT) (k:=k) O ?_];simp
       have hno:∀{p:Prop},(iM m.aC.length m.sT.length (ix (ix m.sT k) k1)=true→¬p)→p→eQ m.aC.length m.sT.length (ix m.sT k)=false:=fun hh hp=>Ez hc3 (by cases g:iM m.aC.length m.sT.length (ix (ix m.sT k) k1) with|false=>rfl|true=>exact absurd hp (hh g))
       rcases hc4 with(((h|h)|h)|h)|h
       ·exact hno (fun g=>by have:=fK.1 g;omega) h
       ·exact hno (fun g=>by have:=fK.1 g;omega) h
       ·exact hno (fun g=>by have:=fK.1 g;omega) h
       ·exact hno (fun g=>by have:=fK.1 g;omega) h
       ·have h5:=SN h.2
        rw[show((k1:Int)- 1).toNat=k1- 1 by omega] at h5
        refine EA hc3 O ?_
        cases g:ltP (ix (ix m.sT k) (k1- 1)) (ix (ix m.sT k) k1) with
        |false=>rfl
        |true=>exact absurd (Dy.1 g) h5
      exact rE () [.tmp 2] J [bl false] ⟨.tmp J,tV⟩ (cA1 (fun x0=>rV [bl x0]) hr0) trivial eX
     ·skip
      simp only [Bool.or_eq_false_iff,Bool.and_eq_false_iff,decide_eq_false_iff_not] at hc4
      obtain⟨⟨⟨⟨h41,h42⟩,h43⟩,h44⟩,h45⟩:=hc4
      refine sk (eb (th (rg (bi J J (aK i6) (mv (nl ?_))))))
      have hN0:(k1+1)≤(ix m.sT k).length:=by
       first|omega|simp_all
      have hN1:(∀j,j<(k1+1)→iM m.aC.length m.sT.length (ix (ix m.sT k) j)=true)∧∀j,j+1<(k1+1)→ltP (ix (ix m.sT k) j) (ix (ix m.sT k) (j+1))=true:=by
       refine⟨fun j hj=> ?_,fun j hj=> ?_⟩
       ·by_cases e:j=k1
        ·subst e;exact fK.2 ⟨O,O,O,O⟩
        ·exact hI1.1 j O
       ·by_cases e:j+1=k1
        ·subst e
         rcases h45 with h|h
         ·exact absurd O h
         ·rw[show(((j+1:Nat):Int)- 1).toNat=j by omega] at h
          exact Dy.2 (SM h)
        ·exact hI1.2 j O
      exact ln (k1+1) ⟨hN0,hN1⟩ dO ⟨id,id,id,id,id,id,id,id,id,id,tV⟩ ⟨rI,tV⟩
    ·try simp at hc3
     refine ex (xt_ (xt_ (xb (eb (th (rg (bi J J (aK i6) (mv (nl ?_)))))))))
     have hN0:(k+1)≤m.sT.length:=by
      first|omega|simp_all
     have hN1:(n+((ix m.sT k).length:Int))=(eE (m.sT.take (k+1)):Int)∧(m.sT.take (k+1)).all (eQ m.aC.length m.sT.length)=true∧(n+((ix m.sT k).length:Int))≤400000:=by
      refine⟨?_,?_,O⟩
      ·rw[bL O,nD];omega
      ·rw[fE O,hal,Bk (fun j hj=>hI1.1 j O) (fun j hj=>hI1.2 j O)];rfl
     exact ln (⟨k+1,n+((ix m.sT k).length:Int)⟩:Nat × Int) ⟨hN0,hN1⟩ dO ⟨id,id,id,id,id,id,tV⟩ ⟨rI,tV⟩
  ·try simp at hc1
   refine ex (xt_ (xt_ (xb (th (sq (rg (ag (nl (th (rt ?_))))))))))
   have hr0:true=(eV m):=by
    have hkk:k=m.sT.length:=by omega
    rw[hkk,List.take_length] at hal hn
    unfold eV
    rw[hal,hc0.1.1]
    simp;omega
   exact rE () [.tmp 2] J [bl true] ⟨.tmp J,tV⟩ (cA1 (fun x0=>rV [bl x0]) hr0) trivial eX
theorem FO (m:aI) (most:Int) (hm:most≤1000000):
 Fn0 Tryz.prog 30 [sys m,int most] (bl (GR m most)):=by
 refine fnI Tryz.func30 rfl rfl (fun w0 F0=> ?_)
 refine fcC (bO 0 J) (fun hS0=> ?_)
 obtain⟨hma0,hms0,hme0⟩:=eI hS0
 refine sq (rg (bx (key:=2) (cs:= [sl 1 rE_ m.aC,sl 1 gE m.sT]) J fun b2=>(ag (nl (th (sq (rg (fP J T.mW (lP J J J T.cV (fc (aL 8 J) fun hm8=>(lnF J T.eS (fP J T.dS (lP J J J T.gH (fc (aL 11 J) fun hm11=>(lnF J T.jN (bi J J (aK i6) (ag (nl (th (sq (sq (rg (ag (nl (th (bk ?_))))))))))))))))))))))))))
 have hI0_0:((m.aC.length+m.sT.length:Nat):Int)=((m.aC.length+m.sT.length+eE (m.sT.take 0):Nat):Int)∧0≤m.sT.length:=by
  exact⟨by simp[eE],Nat.zero_le _⟩
 refine lp (κ:=Nat × Int) (fun p=> [(1,int most),(2,ptr 2 b2 0),(4,bl false),(5,int p.2),(6,int (p.1:Int))]) (fun p=> [(2,cell b2 [sl 1 rE_ m.aC,sl 1 gE m.sT])]) (fun p=>p.2=((m.aC.length+m.sT.length+eE (m.sT.take p.1):Nat):Int)∧p.1≤m.sT.length) (fun p=>m.sT.length- p.1) ⟨0,((m.aC.length+m.sT.length:Nat):Int)⟩ hI0_0 ⟨id,id,id,id,id,tV⟩ ⟨rI,tV⟩ ?_
 intro⟨i,n⟩ hG0
 obtain⟨hn,hil⟩:n=((m.aC.length+m.sT.length+eE (m.sT.take i):Nat):Int)∧i≤m.sT.length:=hG0
 show Ct _ _ _ _ [(1,int most),(2,ptr 2 b2 0),(4,bl false),(5,int n),(6,int (i:Int))] [(2,cell b2 [sl 1 rE_ m.aC,sl 1 gE m.sT])] _
 refine sq (sq (rg (mv (fP J T.dS (lP J J J T.gH (lnF J T.jN (bi J J aN (mv ?_))))))))
 apply eH (t:=19) (pd:=23) rfl
 rotate_left
 ·intro hg0 fin
  have hg0':=hg0
  try simp at hg0'
  exact gy J J J hg0 (mv (gy J J J hg0 (mv (gy J J J hg0 (bi J J qF (pkT J hg0 J (drp (X:= [(22,_),(21,_),(20,_)]) ⟨J,J,J,tV⟩ fin)))))))
 ·intro hg0 fin
  exact gn J J J hg0 J J (gn J J J hg0 J J (gn J J J hg0 J J (pkF J hg0 J (drp (X:= [(22,_),(21,_),(20,_)]) ⟨J,J,J,tV⟩ fin))))
 refine nl (th ?_)
 refine cd J (fun hc0=> ?_) (fun hc0=> ?_)
 ·try simp at hc0
  refine sk (th (sq (bk (rg (mv (fP J T.dS (lP J J J T.gH (mv (iF J J T.jN O gB (lF J J T.iL (fc (aL 31 J) fun hm31=>(lnF J T.iE (bi J J (aK i6) (ag (nl (eb (th (rg (mv (bi J J (aK i6) (ag (nl ?_))))))))))))))))))))))
  have hN0:(n+((ix m.sT i).length:Int))=((m.aC.length+m.sT.length+eE (m.sT.take (i+1)):Nat):Int)∧(i+1)≤m.sT.length:=by
   refine⟨?_,O⟩
   rw[bL O,nD];omega
  exact ln (⟨i+1,n+((ix m.sT i).length:Int)⟩:Nat × Int) hN0 dO ⟨id,id,id,id,id,tV⟩ ⟨rI,tV⟩
 ·try simp at hc0
  refine ex (xt_ (xt_ (xb (th (sq (rg (mv (mv (bi J J qF (ag (nl (th (rt ?_)))))))))))))
  have hr0:(decide (n≤most))=(GR m most):=by
   unfold GR CQ
   have h1:=uQ m.sT i
   by_cases h2:i<m.sT.length
   ·rw[decide_eq_false O,decide_eq_false O]
   ·rw[hn,show i=m.sT.length by omega,List.take_length]
  exact rE () [.tmp 4] J [bl (decide (n≤most))] ⟨.tmp J,tV⟩ (cA1 (fun x0=>rV [bl x0]) hr0) trivial eX
theorem dR (m:aI) (hs:CQ m≤100000000):
 AL.Fn Tryz.prog 36 [sys m] [] (ι:=Unit) (fun N _=>UX N m) (fun _=> []):=by
 refine fnI Tryz.func36 rfl rfl (fun w0 F0=> ?_)
 have hsz:=hs;unfold CQ at hsz
 refine fcC (bO 0 J) (fun hS0=> ?_)
 obtain⟨hma0,hms0,hme0⟩:=eI hS0
 refine sq (rg (bx (key:=1) (cs:= [sl 1 rE_ m.aC,sl 1 gE m.sT]) J fun b1=>(al (key:=2) T.z43 (eC (eC eZ)) fun b2=>(nl (th (sq (rg (fP J T.mW (lP J J J T.cV (vB (enc:=rE_) (ys:=m.aC) J J T.uL mL flat (bd (css:= [(0,_)]) T.uO (eC (eC eZ)) ⟨J,J,p1 (φ:=fre w0.heap.size (sl 1 rE_ m.aC)) J,tV⟩ (al (key:=3) T.z43 (eC (eC eZ)) fun b3=>(sPA (cs':= [fre w0.heap.size (sl 1 rE_ m.aC),eqv (.slice none 0 0)]) J J J T.cD J J (nl (th (sq (sq (rg (fP J T.dS (lP J J J T.gH (fc (aL 11 J) fun hm11=>(lnF J T.jN (mv (nl (th (bk ?_))))))))))))))))))))))))))
 refine nwC 30 103 1 (kC w0.heap.size) (oJ 3 1 (osl 30 (.slice none 0 0)) rfl rfl dY ?_)
 have hI0_0:0≤m.sT.length:=by
  first|omega|simp
 have hI0_1:([]:List (List (Int × Int)))=m.sT.take 0:=by
  rfl
 refine lp (κ:=Nat × Value × (List (List (Int × Int)))) (fun p=> [(2,ptr 2 b2 0),(3,ptr 3 b3 0),(11,sl 1 gE m.sT),(12,int (m.sT.length:Int)),(13,int (p.1:Int))]) (fun p=> [(1,cell b1 [sl 1 rE_ m.aC,sl 1 gE m.sT]),(2,cell b2 [eqv (.slice none 0 0),eqv (.slice none 0 0)]),(3,cell b3 [fre w0.heap.size (sl 1 rE_ m.aC),osl 30 p.2.1]),(30,own p.2.1 103 1 (kC w0.heap.size) p.2.2)]) (fun p=>(p.1≤m.sT.length)∧(p.2.2=m.sT.take p.1)) (fun p=>m.sT.length- p.1) ⟨0,(.slice none 0 0),([]:List (List (Int × Int)))⟩ ⟨hI0_0,hI0_1⟩ ⟨id,id,id,id,id,tV⟩ ⟨rI,rI,rI,rI,tV⟩ ?_
 intro⟨k,v,acc⟩ hG0
 obtain⟨hk0,hI0⟩:(k≤m.sT.length)∧(acc=m.sT.take k):=hG0
 show Ct _ _ _ _ [(2,ptr 2 b2 0),(3,ptr 3 b3 0),(11,sl 1 gE m.sT),(12,int (m.sT.length:Int)),(13,int (k:Int))] [(1,cell b1 [sl 1 rE_ m.aC,sl 1 gE m.sT]),(2,cell b2 [eqv (.slice none 0 0),eqv (.slice none 0 0)]),(3,cell b3 [fre w0.heap.size (sl 1 rE_ m.aC),osl 30 v]),(30,own v 103 1 (kC w0.heap.size) acc)] _
 have hlen:acc.length≤k:=by rw[hI0];simp;omega
 refine sq (rg (bi J J aN (nl (th (sq ?_)))))
 refine cd J (fun hc0=> ?_) (fun hc0=> ?_)
 ·try simp at hc0
  have hb2:=Ey hc0
  refine sk (th (sq (bk (sq (rg (iF J J T.jN O gB (lF J J T.iL (ag (nl (th (dr (nh:=5) [0,1,0,4,12,31,63,127] T.mixed kR ?_)))))))))))
  refine st_ J (fun _ _ _ gq kq=>fP (gq.1.trans J) T.dS kq) ?_
  refine st_ J (fun _ _ _ gq kq=>lP (gq.1.trans J) J J T.gH kq) ?_
  refine st_ J (fun _ _ _ gq kq=>mv' (gq.1.trans J) kq) ?_
  refine st_ J (fun _ _ _ gq kq=>vB (enc:=pE) (ys:=ix m.sT k) J (gq.1.trans J) T.CL mL flat kq) ?_
  refine st_ J (fun _ _ _ gq kq=>bsE (enc:=kC w0.heap.size) (xs:= [(ix m.sT k)]) (css:= [[fre w0.heap.size (sl 2 pE (ix m.sT k))]]) T.KG ⟨J,J,p1 (φ:=fre w0.heap.size (sl 2 pE (ix m.sT k))) (by exact(gq.1.trans J)),tV⟩ J J J J kq) ?_
  refine pn (ap (key:=30) (zs:= [(ix m.sT k)]) cH J J J T.KG (by unfold aU at*;simp;omega) (by unfold aU at*;simp;omega) fun v22=>(fP J T.dS (bY J J J J T.gH J (nl (eb (th (rg (bi J J (aK i6) (mv (nl ?_))))))))))
  have hN0:(k+1)≤m.sT.length:=by
   first|omega|simp_all
  have hN1:(acc++ [(ix m.sT k)])=m.sT.take (k+1):=by
   rw[hI0,bL hc0]
  exact ln (⟨k+1,v22,acc++ [(ix m.sT k)]⟩:Nat × Value × (List (List (Int × Int)))) ⟨hN0,hN1⟩ dO ⟨id,id,id,id,id,tV⟩ ⟨rI,rI,rI,rI,tV⟩
 ·try simp at hc0
  refine ex (xt_ (xt_ (xb (th (sq (rg (OG gE 3 30 1 noM (fun _=>J) J J J (by decide) (lPA J J T.cD J (sPA (cs':= [fre w0.heap.size (sl 1 rE_ m.aC),fre w0.heap.size (sl 1 gE acc)]) J J J T.cD J J (nl (th (rt ?_))))))))))))
  have hr0:acc=m.sT:=by
   rw[hI0,show k=m.sT.length by omega,List.take_length]
  exact rE () [.cell 2 43] J [agg [fre w0.heap.size (sl 1 rE_ m.aC),fre w0.heap.size (sl 1 gE acc)]] ⟨.agg J J T.cD J J,tV⟩ (cA1 (fun x0=>rV [agg [fre w0.heap.size (sl 1 rE_ m.aC),fre w0.heap.size (sl 1 gE x0)]]) hr0) trivial eX
end sysw
end
section
open ref01 ref03 ref04 ref06 prog prog2 prog3 prog6 Part Rungs LeftM TrimM RoundM BisM BisM5
def Na (l:List ByteArray):SS:=⟨l,[⟨(List.range (2^l.length)).map fun(x:Nat)=>(x:Int),List.replicate l.length 0⟩]⟩
noncomputable def Bl (s:SS) (x:Int):SA:=⟨(ix (aB s).sT x.toNat).aP,(ix (aB s).sT x.toNat).next.map (vT (atL s.sT.length (aH s)))⟩
theorem SP {s:SS} (hs:oK s) {x:Int} (h0:0≤x) (hx:x<(s.sT.length:Int)):Bl s x=eL s x:=by
 have hx':x.toNat<s.sT.length:=by omega
 have hl:=jC hs hx'
 unfold Bl eL
 congr 1
 ·exact gU hx'
 ·rw[tC,hl]
  refine List.map_congr_left fun a ha=> ?_
  have ha:=List.mem_range.1 ha
  have h1:=kI hs hx' ha
  have h2:=(hs.st _ hx').nx a ha
  dsimp only [nxt] at h1 h2 ⊢
  rw[h1]
  by_cases h:has (aT (keep s x.toNat)) (a:Int)=true
  ·have hg:=jY hs hx' h
   rw[if_pos h,if_pos h]
   unfold vT
   rw[if_pos hg.2.1,Mp O,Int.toNat_of_nonneg hg.2.1]
  ·rw[if_neg h,if_neg h];rfl
noncomputable def oH (s:SS):Bool:=decide (s=(tR s).1)
namespace T
theorem KK:Ent Tryz.prog 50:=aG kR
theorem Vb:Ent Tryz.prog 109:=aG kR
theorem Vc:Ent Tryz.prog 110:=aG kR
theorem Rm:Ent Tryz.prog 37:=aG kR
theorem Rn:Ent Tryz.prog 55:=aG kR
end T
namespace divr
theorem qI (l:List Int) (x:Int):
 Fn0 Tryz.prog 157 [ints l,int x] (bl (decide (x∈l))):=by
 refine fnI Tryz.func157 rfl rfl (fun w0 F0=> ?_)
 refine fcC (aL 0 J) (fun hm0=> ?_)
 refine sq (rg (ag (nl (th (sq (sq (rg (mv (lnF J T.aM (mv (nl (th (bk ?_)))))))))))))
 have hI0_0:0≤l.length:=by
  first|omega|simp
 have hI0_1:∀j,j<0→x≠ix l j:=by
  intro j hj;omega
 refine lp (κ:=Nat) (fun p=> [(1,int x),(7,sl 1 nE l),(8,int (l.length:Int)),(9,int (p:Int))]) (fun p=> []) (fun p=>(p≤l.length)∧(∀j,j<p→x≠ix l j)) (fun p=>l.length- p) 0 ⟨hI0_0,hI0_1⟩ ⟨id,id,id,id,tV⟩ trivial ?_
 intro k hG0
 obtain⟨hk0,hI0⟩:(k≤l.length)∧(∀j,j<k→x≠ix l j):=hG0
 refine sq (rg (bi J J aN (nl (th (sq ?_)))))
 refine cd J (fun hc0=> ?_) (fun hc0=> ?_)
 ·try simp at hc0
  refine sk (th (sq (bk (sq (rg (iF J J T.aM O gB (lF J J T.aF (ag (nl (th (sq (rg (mv (mv (bi J J eF (nl (th ?_)))))))))))))))))
  refine cd J (fun hc1=> ?_) (fun hc1=> ?_)
  ·try simp at hc1
   refine sq (rg (ag (nl (th (rt (rb (rt_ (rt_ (rb (rt_ ?_))))))))))
   have hr0:true=(decide (x∈l)):=by
    exact(decide_eq_true (by rw[hc1];exact gA O)).symm
   exact rE () [.tmp 4] J [bl true] ⟨.tmp J,tV⟩ (cA1 (fun x0=>rV [bl x0]) hr0) trivial eX
  ·try simp at hc1
   refine sk (eb (th (rg (bi J J (aK i6) (mv (nl ?_))))))
   have hN0:(k+1)≤l.length:=by
    first|omega|simp_all
   have hN1:∀j,j<(k+1)→x≠ix l j:=by
    intro j hj
    by_cases e:j=k
    ·subst e;exact hc1
    ·exact hI0 j O
   exact ln (k+1) ⟨hN0,hN1⟩ dO ⟨id,id,id,id,tV⟩ trivial
 ·try simp at hc0
  refine ex (xt_ (xt_ (xb (th (sq (rg (ag (nl (th (rt ?_))))))))))
  have hr0:false=(decide (x∈l)):=by
   refine(decide_eq_false (fun hx=> ?_)).symm
   obtain⟨j,hj,e⟩:=List.getElem_of_mem hx
   exact hI0 j O (by rw[aJ hj];exact e.symm)
  exact rE () [.tmp 4] J [bl false] ⟨.tmp J,tV⟩ (cA1 (fun x0=>rV [bl x0]) hr0) trivial eX
theorem Jp (s:SS) (hs:oK s):
 Fn0 Tryz.prog 55 [spec s] (tup [spec (tR s).1,ints (tR s).2]):=by
 refine fnI Tryz.func55 rfl rfl (fun w0 F0=> ?_)
 have hf0:=hs.few0;have hf1:=hs.few1;have hn8:=hs.n8;have hhl:=mO s;have hsl:=fZ s;have hoq:=tY hs;have hol:=hoq.le;have hnd:(order (aB s)).Nodup:=qK _
 refine fcC (bO 0 J) (fun hS0=> ?_)
 obtain⟨hsa0,hss0,hse0⟩:=sLn hS0
 refine sq (rg (bx (key:=1) (cs:= [sl 1 rE_ s.aC,sl 2 sE s.sT]) J fun b1=>(al (key:=2) T.z25 (eC (eC eZ)) fun b2=>(ag (nl (th (sq (sq (rg (lPA J J T.aD J (aO (φs:= [agg [sl 1 rE_ s.aC,sl 2 sE s.sT]]) (φ:=sl 1 blE (hOl s)) ⟨J,tV⟩ (ref04.Ed s aS) T.LW (iF J J T.fJ O (gK (k:=0) O) (lF J J T.eB (nl (th ?_)))))))))))))))
 refine cd J (fun hc0=> ?_) (fun hc0=> ?_)
 ·try simp at hc0
  refine sq (rg (fP J T.cR (lP J J J T.cV (aO (φs:= [sl 1 rE_ s.aC]) (φ:=agg [sl 1 rE_ (nothing s.aC).aC,sl 2 sE (nothing s.aC).sT]) ⟨J,tV⟩ (ref03.mN s.aC O) T.KK (sPA (cs':= [sl 1 rE_ (nothing s.aC).aC,sl 2 sE (nothing s.aC).sT]) J J J T.aD J J (ag (nl (th (rt (rt_ ?_))))))))))
  have hL:=dK hc0
  refine knA 3 (sl 1 nE []) rfl bT ?_
  have hr0:(nothing s.aC).aC=((tR s).1).aC:=by
   rw[hL]
  have hr1:(nothing s.aC).sT=((tR s).1).sT:=by
   rw[hL]
  have hr2: []=((tR s).2):=by
   rw[hL]
  exact rE () [.cell 2 25,.tmp 3] J [agg [sl 1 rE_ (nothing s.aC).aC,sl 2 sE (nothing s.aC).sT],sl 1 nE []] ⟨.agg J J T.aD J J,.tmp J,tV⟩ (cA3 (fun x0 x1 x2=>rV [agg [sl 1 rE_ x0,sl 2 sE x1],sl 1 nE x2]) hr0 hr1 hr2) trivial eX
 ·try simp at hc0
  refine sk (th (sq (rg (lPA J J T.aD J (aO (φs:= [agg [sl 1 rE_ s.aC,sl 2 sE s.sT]]) (φ:=agg [sl 1 rE_ (aB s).aC,sl 2 sE (aB s).sT]) ⟨J,tV⟩ (ref04.OI s aS) T.Vb (al (key:=4) T.z25 (eC (eC eZ)) fun b4=>(sPA (cs':= [sl 1 rE_ (aB s).aC,sl 2 sE (aB s).sT]) J J J T.aD J J (nl (th (sq (rg (lPA J J T.aD J (aO (φs:= [agg [sl 1 rE_ (aB s).aC,sl 2 sE (aB s).sT]]) (φ:=sl 1 nE (order (aB s))) ⟨J,tV⟩ (ref04.OJ (aB s) (by rw[hsl];omega) (by rw[hsl];omega) (fun k hk=>by rw[hsl] at hk;exact⟨by rw[jC hs hk];omega,fun a ha=>by rw[hsl];exact vS hs hk ha⟩)) T.Vc (ag (nl (th (sq (rg (fP J T.aY (lP J J J T.bI (fc (aL 27 J) fun hm27=>(lnF J T.bU (mk (key:=29) (m:=s.sT.length) (enc:=nE) (y:=(0:Int)) J J T.cE (eC eZ) mL mL fun v29=>(ag (nl (th (sq (sq (rg (mv (fc (aL 30 J) fun hm30=>(lnF J T.aM (mv (nl (th (bk ?_))))))))))))))))))))))))))))))))))))
  have hI0_0:0≤(order (aB s)).length:=by
   first|omega|simp
  have hI0_1:(List.replicate s.sT.length (0:Int))=atL s.sT.length ((order (aB s)).take 0):=by
   exact Gc _
  refine lp (κ:=Nat × (List Int)) (fun p=> [(1,ptr 1 b1 0),(2,ptr 2 b2 0),(3,eqv (.slice none 0 0)),(4,ptr 4 b4 0),(5,sl 1 nE (order (aB s))),(6,osl 29 v29),(30,sl 1 nE (order (aB s))),(31,int ((order (aB s)).length:Int)),(32,int (p.1:Int))]) (fun p=> [(1,cell b1 [sl 1 rE_ s.aC,sl 2 sE s.sT]),(2,cell b2 [eqv (.slice none 0 0),eqv (.slice none 0 0)]),(4,cell b4 [sl 1 rE_ (aB s).aC,sl 2 sE (aB s).sT]),(29,own v29 3 1 nE p.2)]) (fun p=>(p.1≤(order (aB s)).length)∧(p.2=atL s.sT.length ((order (aB s)).take p.1))) (fun p=>(order (aB s)).length- p.1) ⟨0,List.replicate s.sT.length (0:Int)⟩ ⟨hI0_0,hI0_1⟩ ⟨id,id,id,id,id,id,id,id,id,tV⟩ ⟨rI,rI,rI,rI,tV⟩ ?_
  intro⟨k,pl⟩ hG0
  obtain⟨hk0,hI0⟩:(k≤(order (aB s)).length)∧(pl=atL s.sT.length ((order (aB s)).take k)):=hG0
  show Ct _ _ _ _ [(1,ptr 1 b1 0),(2,ptr 2 b2 0),(3,eqv (.slice none 0 0)),(4,ptr 4 b4 0),(5,sl 1 nE (order (aB s))),(6,osl 29 v29),(30,sl 1 nE (order (aB s))),(31,int ((order (aB s)).length:Int)),(32,int (k:Int))] [(1,cell b1 [sl 1 rE_ s.aC,sl 2 sE s.sT]),(2,cell b2 [eqv (.slice none 0 0),eqv (.slice none 0 0)]),(4,cell b4 [sl 1 rE_ (aB s).aC,sl 2 sE (aB s).sT]),(29,own v29 3 1 nE pl)] _
  have hpl:pl.length=s.sT.length:=by rw[hI0];exact Dk _ _
  refine sq (rg (bi J J aN (nl (th (sq ?_)))))
  refine cd J (fun hc1=> ?_) (fun hc1=> ?_)
  ·try simp at hc1
   have hox:=hoq.1 k O
   refine sk (th (sq (bk (sq (rg (mv (iF J J T.aM O gB (lF J J T.aF (ag (ag (nl (th (rg (mv (mv (mv (iO J J J T.aM O O (sO (φ:=int (k:Int)) J J J T.aF gB J (y':=(k:Int)) J (nl (eb (th (rg (bi J J (aK i6) (mv (nl ?_)))))))))))))))))))))))))
   have hN0:(k+1)≤(order (aB s)).length:=by
    first|omega|simp_all
   have hN1:(pl.set (ix (order (aB s)) k).toNat (k:Int))=atL s.sT.length ((order (aB s)).take (k+1)):=by
    have hat:=Gd (n:=s.sT.length) (fresh hnd (m:=k) O) hox.1 hox.2
    rw[List.length_take,Nat.min_eq_left O] at hat
    rw[hI0,bL O]
    exact hat
   exact ln (⟨k+1,pl.set (ix (order (aB s)) k).toNat (k:Int)⟩:Nat × (List Int)) ⟨hN0,hN1⟩ dO ⟨id,id,id,id,id,id,id,id,id,tV⟩ ⟨rI,rI,rI,rI,tV⟩
  ·try simp at hc1
   refine ex (xt_ (xt_ (xb (th (sq (rg (fP J T.cR (lP J J J T.cV (yR (enc:=rE_) (ys:=s.aC) J J T.uL mL (bd (css:= [(0,_)]) T.lA (eC (eC eZ)) ⟨J,J,p1 (φ:=sl 1 rE_ s.aC) J,tV⟩ (al (key:=9) T.z25 (eC (eC eZ)) fun b9=>(sPA (cs':= [sl 1 rE_ s.aC,eqv (.slice none 0 0)]) J J J T.aD J J (nl (th (sq (sq (rg (mv (lnF J T.aM (mv (nl (th (bk ?_)))))))))))))))))))))))
   refine nwC 90 81 2 sE (oJ 9 1 (osl 90 (.slice none 0 0)) rfl rfl dY ?_)
   have hI1_0:0≤(order (aB s)).length:=by
    first|omega|simp
   have hI1_1:([]:List SA)=((order (aB s)).take 0).map (Bl s):=by
    simp
   refine lp (κ:=Nat × Value × (List SA)) (fun p=> [(2,ptr 2 b2 0),(3,eqv (.slice none 0 0)),(4,ptr 4 b4 0),(5,sl 1 nE (order (aB s))),(6,osl 29 v29),(9,ptr 9 b9 0),(46,sl 1 nE (order (aB s))),(47,int ((order (aB s)).length:Int)),(48,int (p.1:Int))]) (fun p=> [(1,cell b1 [sl 1 rE_ s.aC,sl 2 sE s.sT]),(2,cell b2 [eqv (.slice none 0 0),eqv (.slice none 0 0)]),(4,cell b4 [sl 1 rE_ (aB s).aC,sl 2 sE (aB s).sT]),(9,cell b9 [sl 1 rE_ s.aC,osl 90 p.2.1]),(29,own v29 3 1 nE pl),(90,own p.2.1 81 2 sE p.2.2)]) (fun p=>(p.1≤(order (aB s)).length)∧(p.2.2=((order (aB s)).take p.1).map (Bl s))) (fun p=>(order (aB s)).length- p.1) ⟨0,(.slice none 0 0),([]:List SA)⟩ ⟨hI1_0,hI1_1⟩ ⟨id,id,id,id,id,id,id,id,id,tV⟩ ⟨rI,rI,rI,rI,rI,rI,tV⟩ ?_
   intro⟨k1,v2x,acc⟩ hG1
   obtain⟨hk1,hI1⟩:(k1≤(order (aB s)).length)∧(acc=((order (aB s)).take k1).map (Bl s)):=hG1
   show Ct _ _ _ _ [(2,ptr 2 b2 0),(3,eqv (.slice none 0 0)),(4,ptr 4 b4 0),(5,sl 1 nE (order (aB s))),(6,osl 29 v29),(9,ptr 9 b9 0),(46,sl 1 nE (order (aB s))),(47,int ((order (aB s)).length:Int)),(48,int (k1:Int))] [(1,cell b1 [sl 1 rE_ s.aC,sl 2 sE s.sT]),(2,cell b2 [eqv (.slice none 0 0),eqv (.slice none 0 0)]),(4,cell b4 [sl 1 rE_ (aB s).aC,sl 2 sE (aB s).sT]),(9,cell b9 [sl 1 rE_ s.aC,osl 90 v2x]),(29,own v29 3 1 nE pl),(90,own v2x 81 2 sE acc)] _
   have hal:acc.length≤k1:=by rw[hI1];simp;omega
   refine sq (rg (bi J J aN (nl (th (sq ?_)))))
   refine cd J (fun hc2=> ?_) (fun hc2=> ?_)
   ·try simp at hc2
    have hox1:=hoq.1 k1 O
    have hsn:=jC hs (x:=(ix (order (aB s)) k1).toNat) O
    refine sk (th (sq (bk (sq (rg (iF J J T.aM O gB (lF J J T.aF (ag (nl (th (sq (rg (fP J T.aY (lP J J J T.bI (mv (iF J J T.bU O gB (fF J T.cM (lF J J T.aV (bd (css:= [(0,_)]) T.uM (eC (eC eZ)) ⟨J,J,p1 (φ:=sl 1 nE (ix (aB s).sT (ix (order (aB s)) k1).toNat).aP) J,tV⟩ (al (key:=12) T.z81 (eC (eC eZ)) fun b12=>(sPA (cs':= [sl 1 nE (ix (aB s).sT (ix (order (aB s)) k1).toNat).aP,eqv (.slice none 0 0)]) J J J T.cP J J (nl (th (sq (sq (rg (fP J T.aY (lP J J J T.bI (mv (iF J J T.bU O gB (fF J T.bQ (lF J J T.aV (fc (aL 64 J) fun hm64=>(lnF J T.aM (mv (nl (th (bk ?_))))))))))))))))))))))))))))))))))))))
    refine nwC 121 3 1 nE (oJ 12 1 (osl 121 (.slice none 0 0)) rfl rfl dY ?_)
    have hI2_0:0≤(ix (aB s).sT (ix (order (aB s)) k1).toNat).next.length:=by
     first|omega|simp
    have hI2_1:([]:List Int)=((ix (aB s).sT (ix (order (aB s)) k1).toNat).next.take 0).map (vT pl):=by
     simp
    refine lp (κ:=Nat × Value × (List Int)) (fun p=> [(2,ptr 2 b2 0),(3,eqv (.slice none 0 0)),(4,ptr 4 b4 0),(5,sl 1 nE (order (aB s))),(6,osl 29 v29),(9,ptr 9 b9 0),(12,ptr 12 b12 0),(46,sl 1 nE (order (aB s))),(47,int ((order (aB s)).length:Int)),(48,int (k1:Int)),(64,sl 1 nE (ix (aB s).sT (ix (order (aB s)) k1).toNat).next),(65,int ((ix (aB s).sT (ix (order (aB s)) k1).toNat).next.length:Int)),(66,int (p.1:Int))]) (fun p=> [(1,cell b1 [sl 1 rE_ s.aC,sl 2 sE s.sT]),(2,cell b2 [eqv (.slice none 0 0),eqv (.slice none 0 0)]),(4,cell b4 [sl 1 rE_ (aB s).aC,sl 2 sE (aB s).sT]),(9,cell b9 [sl 1 rE_ s.aC,osl 90 v2x]),(12,cell b12 [sl 1 nE (ix (aB s).sT (ix (order (aB s)) k1).toNat).aP,osl 121 p.2.1]),(29,own v29 3 1 nE pl),(90,own v2x 81 2 sE acc),(121,own p.2.1 3 1 nE p.2.2)]) (fun p=>(p.1≤(ix (aB s).sT (ix (order (aB s)) k1).toNat).next.length)∧(p.2.2=((ix (aB s).sT (ix (order (aB s)) k1).toNat).next.take p.1).map (vT pl))) (fun p=>(ix (aB s).sT (ix (order (aB s)) k1).toNat).next.length- p.1) ⟨0,(.slice none 0 0),([]:List Int)⟩ ⟨hI2_0,hI2_1⟩ ⟨id,id,id,id,id,id,id,id,id,id,id,id,id,tV⟩ ⟨rI,rI,rI,rI,rI,rI,rI,rI,tV⟩ ?_
    intro⟨k2,v3x,l3⟩ hG2
    obtain⟨hk2,hI2⟩:(k2≤(ix (aB s).sT (ix (order (aB s)) k1).toNat).next.length)∧(l3=((ix (aB s).sT (ix (order (aB s)) k1).toNat).next.take k2).map (vT pl)):=hG2
    show Ct _ _ _ _ [(2,ptr 2 b2 0),(3,eqv (.slice none 0 0)),(4,ptr 4 b4 0),(5,sl 1 nE (order (aB s))),(6,osl 29 v29),(9,ptr 9 b9 0),(12,ptr 12 b12 0),(46,sl 1 nE (order (aB s))),(47,int ((order (aB s)).length:Int)),(48,int (k1:Int)),(64,sl 1 nE (ix (aB s).sT (ix (order (aB s)) k1).toNat).next),(65,int ((ix (aB s).sT (ix (order (aB s)) k1).toNat).next.length:Int)),(66,int (k2:Int))] [(1,cell b1 [sl 1 rE_ s.aC,sl 2 sE s.sT]),(2,cell b2 [eqv (.slice none 0 0),eqv (.slice none 0 0)]),(4,cell b4 [sl 1 rE_ (aB s).aC,sl 2 sE (aB s).sT]),(9,cell b9 [sl 1 rE_ s.aC,osl 90 v2x]),(12,cell b12 [sl 1 nE (ix (aB s).sT (ix (order (aB s)) k1).toNat).aP,osl 121 v3x]),(29,own v29 3 1 nE pl),(90,own v2x 81 2 sE acc),(121,own v3x 3 1 nE l3)] _
    have hl3:l3.length≤k2:=by rw[hI2];simp;omega
    refine sq (rg (bi J J aN (nl (th (sq ?_)))))
    refine cd J (fun hc3=> ?_) (fun hc3=> ?_)
    ·try simp at hc3
     have hbd:=vS hs (x:=(ix (order (aB s)) k1).toNat) O (a:=k2) O
     refine sk (th (sq (bk (sq (rg (iF J J T.aM O gB (lF J J T.aF (ag (nl (th (sq (sq (rg (mv (bi J J eT (nl (th ?_)))))))))))))))))
     refine cd J (fun hc4=> ?_) (fun hc4=> ?_)
     ·try simp at hc4
      refine rg (mv (mv (iO J J J T.aM O O (lO J J gB J T.aF (ag (nl (th (rg (fP J T.bQ (lP J J J T.aV (mv (bsE (enc:=nE) (xs:= [(ix pl (ix (ix (aB s).sT (ix (order (aB s)) k1).toNat).next k2).toNat)]) (css:= [[int (ix pl (ix (ix (aB s).sT (ix (order (aB s)) k1).toNat).next k2).toNat)]]) T.cE ⟨J,J,p1 (φ:=int (ix pl (ix (ix (aB s).sT (ix (order (aB s)) k1).toNat).next k2).toNat)) J,tV⟩ J J J J (ap (key:=121) (zs:= [(ix pl (ix (ix (aB s).sT (ix (order (aB s)) k1).toNat).next k2).toNat)]) cH J J J T.cE (by unfold aU at*;simp;omega) (by unfold aU at*;simp;omega) fun v80=>(fP J T.bQ (bY J J J J T.aV J (nl (eb (th (rg (bi J J (aK i6) (mv (nl ?_))))))))))))))))))))))
      have hN0:(k2+1)≤(ix (aB s).sT (ix (order (aB s)) k1).toNat).next.length:=by
       first|omega|simp_all
      have hN1:(l3++ [(ix pl (ix (ix (aB s).sT (ix (order (aB s)) k1).toNat).next k2).toNat)])=((ix (aB s).sT (ix (order (aB s)) k1).toNat).next.take (k2+1)).map (vT pl):=by
       rw[rF O,hI2];simp[vT,hc4]
      exact ln (⟨k2+1,v80,l3++ [(ix pl (ix (ix (aB s).sT (ix (order (aB s)) k1).toNat).next k2).toNat)]⟩:Nat × Value × (List Int)) ⟨hN0,hN1⟩ dO ⟨id,id,id,id,id,id,id,id,id,id,id,id,id,tV⟩ ⟨rI,rI,rI,rI,rI,rI,rI,rI,tV⟩
     ·try simp at hc4
      refine sk (th (rg (fP J T.bQ (lP J J J T.aV (mv (bsE (enc:=nE) (xs:= [(ix (ix (aB s).sT (ix (order (aB s)) k1).toNat).next k2)]) (css:= [[int (ix (ix (aB s).sT (ix (order (aB s)) k1).toNat).next k2)]]) T.cE ⟨J,J,p1 (φ:=int (ix (ix (aB s).sT (ix (order (aB s)) k1).toNat).next k2)) J,tV⟩ J J J J (ap (key:=121) (zs:= [(ix (ix (aB s).sT (ix (order (aB s)) k1).toNat).next k2)]) cH J J J T.cE (by unfold aU at*;simp;omega) (by unfold aU at*;simp;omega) fun v80=>(fP J T.bQ (bY J J J J T.aV J (nl (eb (th (rg (bi J J (aK i6) (mv (nl ?_))))))))))))))))
      have hN0:(k2+1)≤(ix (aB s).sT (ix (order (aB s)) k1).toNat).next.length:=by
       first|omega|simp_all
      have hN1:(l3++ [(ix (ix (aB s).sT (ix (order (aB s)) k1).toNat).next k2)])=((ix (aB s).sT (ix (order (aB s)) k1).toNat).next.take (k2+1)).map (vT pl):=by
       rw[rF O,hI2];simp[vT];omega
      exact ln (⟨k2+1,v80,l3++ [(ix (ix (aB s).sT (ix (order (aB s)) k1).toNat).next k2)]⟩:Nat × Value × (List Int)) ⟨hN0,hN1⟩ dO ⟨id,id,id,id,id,id,id,id,id,id,id,id,id,tV⟩ ⟨rI,rI,rI,rI,rI,rI,rI,rI,tV⟩
    ·try simp at hc3
     refine ex (xt_ (xt_ (xb (th (rg (fP J T.aY (lP J J J T.bI (fzc 12 121 1 J J J J (lPA J J T.cP J (bsE (enc:=sE) (xs:= [(⟨(ix (aB s).sT (ix (order (aB s)) k1).toNat).aP,l3⟩)]) (css:= [[sl 1 nE (ix (aB s).sT (ix (order (aB s)) k1).toNat).aP,sl 1 nE l3]]) T.mB ⟨J,J,pA (cs:= [sl 1 nE (ix (aB s).sT (ix (order (aB s)) k1).toNat).aP,sl 1 nE l3]) J,tV⟩ J J J J (ap (key:=90) (zs:= [(⟨(ix (aB s).sT (ix (order (aB s)) k1).toNat).aP,l3⟩)]) cH J J J T.mB (by unfold aU at*;simp;omega) (by unfold aU at*;simp;omega) fun v87=>(fP J T.aY (bY J J J J T.bI J (nl (eb (th (rg (bi J J (aK i6) (mv (nl ?_))))))))))))))))))))
     have hN0:(k1+1)≤(order (aB s)).length:=by
      first|omega|simp_all
     have hN1:(acc++ [(⟨(ix (aB s).sT (ix (order (aB s)) k1).toNat).aP,l3⟩)])=((order (aB s)).take (k1+1)).map (Bl s):=by
      rw[rF O,hI1]
      congr 2
      unfold Bl
      rw[hI2,show k2=(ix (aB s).sT (ix (order (aB s)) k1).toNat).next.length by omega,List.take_length,hI0,show k=(order (aB s)).length by omega,List.take_length]
     exact ln (⟨k1+1,v87,acc++ [(⟨(ix (aB s).sT (ix (order (aB s)) k1).toNat).aP,l3⟩)]⟩:Nat × Value × (List SA)) ⟨hN0,hN1⟩ dO ⟨id,id,id,id,id,id,id,id,id,tV⟩ ⟨rI,rI,rI,rI,rI,rI,tV⟩
   ·try simp at hc2
    refine ex (xt_ (xt_ (xb (th (sq (rg (fzc 9 90 1 J J J J (lPA J J T.aD J (mv (sPA (cs':= [sl 1 rE_ s.aC,sl 2 sE acc]) J J J T.aD J J (ag (nl (th (rt ?_))))))))))))))
    have hL:=bX (s:=s) (by simpa using hc0)
    have hr0:s.aC=((tR s).1).aC:=by
     rw[hL]
    have hr1:acc=((tR s).1).sT:=by
     rw[hL,hI1,show k1=(order (aB s)).length by omega,List.take_length]
     exact List.map_congr_left fun x hx=>by
      obtain⟨j,hj,rfl⟩:=List.getElem_of_mem hx
      have:=hoq.1 j hj
      rw[aJ hj] at this
      exact SP hs this.1 this.2
    have hr2:(order (aB s))=((tR s).2):=by
     rw[hL]
    exact rE () [.cell 2 25,.tmp 3] J [agg [sl 1 rE_ s.aC,sl 2 sE acc],sl 1 nE (order (aB s))] ⟨.agg J J T.aD J J,.tmp J,tV⟩ (cA3 (fun x0 x1 x2=>rV [agg [sl 1 rE_ x0,sl 2 sE x1],sl 1 nE x2]) hr0 hr1 hr2) trivial eX
theorem Nb (s:SS) (hs:oK s):
 Fn0 Tryz.prog 106 [spec s] (bl (oH s)):=by
 refine fnI Tryz.func106 rfl rfl (fun w0 F0=> ?_)
 refine fcC (bO 0 J) (fun hS0=> ?_)
 obtain⟨hsa0,hss0,hse0⟩:=sLn hS0
 refine sq (rg (bx (key:=1) (cs:= [sl 1 rE_ s.aC,sl 2 sE s.sT]) J fun b1=>(ag (nl (th (sq (rg (lPA J J T.aD J (aO (φs:= [agg [sl 1 rE_ s.aC,sl 2 sE s.sT]]) (φ:=tup [agg [sl 1 rE_ ((tR s).1).aC,sl 2 sE ((tR s).1).sT],sl 1 nE ((tR s).2)]) ⟨J,tV⟩ (divr.Jp s aS) T.Rn (mv (xt J J (xt J J (al (key:=3) T.z25 (eC (eC eZ)) fun b3=>(sPA (cs':= [sl 1 rE_ ((tR s).1).aC,sl 2 sE ((tR s).1).sT]) J J J T.aD J J (ag (nl (th (sq (rg (lPA J J T.aD J (lPA J J T.aD J (aO (φs:= [agg [sl 1 rE_ s.aC,sl 2 sE s.sT],agg [sl 1 rE_ ((tR s).1).aC,sl 2 sE ((tR s).1).sT]]) (φ:=bl (oH s)) ⟨J,J,tV⟩ (ref03.IY s (tR s).1) T.Rm (ag (nl (th (rt ?_))))))))))))))))))))))))))
 exact rE () [.tmp 2] J [bl (oH s)] ⟨.tmp J,tV⟩ J trivial eX
end divr
end
section
open ref01 ref03 ref04 ref06 prog prog2 prog3 prog6 prog13 Part Rungs LeftM TrimM RoundM BisM BisM5 WalkM StepM WitM JudgM refw judg wit sysw divr
def bV (u o:Int):Int:=((u.toNat&&&o.toNat:Nat):Int)
def Wz (x y:SA) (u:Int):Bool:=y.aP.all fun o=>decide (bV u o∈x.aP)
def vH (x y:SA):Bool:=x.aP.any fun o=>decide (o∉y.aP)
noncomputable def rW (t s:SS):Int:=if aX t=true∧aX s=true then(if t.aC=s.aC then 0 else 10) else 30
def yD (s:SS) (x u:Int):Bool:=decide (0≤x)&&decide (u∈acc s x.toNat)
theorem SQ {α:Type} [Inhabited α] {l:List α} {p:α→Bool} {k:Nat} (hk:k<l.length) (h:p (ix l k)=true):l.any p=true:=List.any_eq_true.2 ⟨_,aZ hk,h⟩
theorem Vd {α:Type} [Inhabited α] {l:List α} {p:α→Bool} (h:∀j,j<l.length→p (ix l j)=false):l.any p=false:=by
 cases g:l.any p with
 |false=>rfl
 |true=>
  obtain⟨e,he,hp⟩:=List.any_eq_true.1 g
  obtain⟨j,hj,rfl⟩:=List.getElem_of_mem he
  rw[←aJ hj,h j hj] at hp;cases hp
namespace T
theorem Nc:Ent Tryz.prog 157:=aG kR
theorem WA:Ent Tryz.prog 79:=aG kR
end T
namespace divs
theorem PF (x y:SA):
 Fn0 Tryz.prog 226 [state x,state y] (bl (vH x y)):=by
 refine fnI Tryz.func226 rfl rfl (fun w0 F0=> ?_)
 refine fcC (bO 0 J) (fun hS0=> ?_)
 obtain⟨hxa0,hxn0⟩:=kZ hS0
 refine fcC (bO 1 J) (fun hS1=> ?_)
 obtain⟨hxa1,hxn1⟩:=kZ hS1
 refine sq (rg (bx (key:=2) (cs:= [sl 1 nE x.aP,sl 1 nE x.next]) J fun b2=>(bx (key:=3) (cs:= [sl 1 nE y.aP,sl 1 nE y.next]) J fun b3=>(ag (nl (th (sq (sq (rg (fP J T.cM (lP J J J T.aV (fc (aL 8 J) fun hm8=>(lnF J T.aM (mv (nl (th (bk ?_)))))))))))))))))
 have hI0_0:0≤x.aP.length:=by
  first|omega|simp
 have hI0_1:∀j,j<0→decide (ix x.aP j∉y.aP)=false:=by
  intro j hj;omega
 refine lp (κ:=Nat) (fun p=> [(3,ptr 3 b3 0),(8,sl 1 nE x.aP),(9,int (x.aP.length:Int)),(10,int (p:Int))]) (fun p=> [(2,cell b2 [sl 1 nE x.aP,sl 1 nE x.next]),(3,cell b3 [sl 1 nE y.aP,sl 1 nE y.next])]) (fun p=>(p≤x.aP.length)∧(∀j,j<p→decide (ix x.aP j∉y.aP)=false)) (fun p=>x.aP.length- p) 0 ⟨hI0_0,hI0_1⟩ ⟨id,id,id,id,tV⟩ ⟨rI,rI,tV⟩ ?_
 intro k hG0
 obtain⟨hk0,hI0⟩:(k≤x.aP.length)∧(∀j,j<k→decide (ix x.aP j∉y.aP)=false):=hG0
 refine sq (rg (bi J J aN (nl (th (sq ?_)))))
 refine cd J (fun hc0=> ?_) (fun hc0=> ?_)
 ·try simp at hc0
  refine sk (th (sq (bk (sq (rg (iF J J T.aM O gB (lF J J T.aF (ag (nl (th (sq (rg (fP J T.cM (lP J J J T.aV (mv (aO (φs:= [sl 1 nE y.aP,int (ix x.aP k)]) (φ:=bl (decide ((ix x.aP k)∈y.aP))) ⟨J,J,tV⟩ (divr.qI _ _) T.Nc (no J (nl (th ?_)))))))))))))))))))
  refine cd J (fun hc1=> ?_) (fun hc1=> ?_)
  ·skip
   refine sq (rg (ag (nl (th (rt (rb (rt_ (rt_ (rb (rt_ ?_))))))))))
   have hr0:true=(vH x y):=by
    exact(SQ (k:=k) O (by simpa using hc1)).symm
   exact rE () [.tmp 4] J [bl true] ⟨.tmp J,tV⟩ (cA1 (fun x0=>rV [bl x0]) hr0) trivial eX
  ·skip
   refine sk (eb (th (rg (bi J J (aK i6) (mv (nl ?_))))))
   have hN0:(k+1)≤x.aP.length:=by
    first|omega|simp_all
   have hN1:∀j,j<(k+1)→decide (ix x.aP j∉y.aP)=false:=by
    intro j hj
    by_cases e:j=k
    ·subst e;simpa using hc1
    ·exact hI0 j O
   exact ln (k+1) ⟨hN0,hN1⟩ dO ⟨id,id,id,id,tV⟩ ⟨rI,rI,tV⟩
 ·try simp at hc0
  refine ex (xt_ (xt_ (xb (th (sq (rg (ag (nl (th (rt ?_))))))))))
  have hr0:false=(vH x y):=by
   exact(Vd (fun j hj=>hI0 j O)).symm
  exact rE () [.tmp 4] J [bl false] ⟨.tmp J,tV⟩ (cA1 (fun x0=>rV [bl x0]) hr0) trivial eX
theorem oZ (s:SS) (x u:Int) (hx:x<(s.sT.length:Int)):
 Fn0 Tryz.prog 119 [spec s,int x,int u] (bl (yD s x u)):=by
 refine fnI Tryz.func119 rfl rfl (fun w0 F0=> ?_)
 refine fcC (bO 0 J) (fun hS0=> ?_)
 obtain⟨hsa0,hss0,hse0⟩:=sLn hS0
 refine sq (rg (bx (key:=3) (cs:= [sl 1 rE_ s.aC,sl 2 sE s.sT]) J fun b3=>(ag (nl (th (sq (rg (mv (bi J J eT (mv ?_))))))))))
 apply eH (t:=9) (pd:=18) rfl
 rotate_left
 ·intro hg0 fin
  have hg0':=hg0
  try simp at hg0'
  exact gy J J J hg0 (fP J T.aY (gy J J J hg0 (lP J J J T.bI (gy J J J hg0 (mv (gy J J J hg0 (iF J J T.bU O gB (gy J J J hg0 (fF J T.cM (gy J J J hg0 (lF J J T.aV (gy J J J hg0 (mv (gy J J J hg0 (aO (φs:= [sl 1 nE (ix s.sT x.toNat).aP,int u]) (φ:=bl (decide (u∈(ix s.sT x.toNat).aP))) ⟨J,J,tV⟩ (divr.qI _ _) T.Nc (pkT J hg0 J (drp (X:= [(17,_),(16,_),(15,_),(14,_),(13,_),(12,_),(11,_),(10,_)]) ⟨J,J,J,J,J,J,J,J,tV⟩ fin)))))))))))))))))
 ·intro hg0 fin
  exact gn J J J hg0 J J (gn J J J hg0 J J (gn J J J hg0 J J (gn J J J hg0 J J (gn J J J hg0 J J (gn J J J hg0 J J (gn J J J hg0 J J (gn J J J hg0 J J (pkF J hg0 J (drp (X:= [(17,_),(16,_),(15,_),(14,_),(13,_),(12,_),(11,_),(10,_)]) ⟨J,J,J,J,J,J,J,J,tV⟩ fin)))))))))
 refine ag (nl (th (rt ?_)))
 have hr0:((decide (0≤x))&&(decide (u∈(ix s.sT x.toNat).aP)))=(yD s x u):=by
  first|rfl|simp_all|omega
 exact rE () [.tmp 6] J [bl ((decide (0≤x))&&(decide (u∈(ix s.sT x.toNat).aP)))] ⟨.tmp J,tV⟩ (cA1 (fun x0=>rV [bl x0]) hr0) trivial eX
theorem Nd (d e:Int × Int):
 Fn0 Tryz.prog 79 [agg [int d.1,int d.2],agg [int e.1,int e.2]] (bl (ltP d e)):=by
 refine fnI Tryz.func79 rfl rfl (fun w0 F0=> ?_)
 refine sq (rg (bx (key:=2) (cs:= [int d.1,int d.2]) J fun b2=>(bx (key:=3) (cs:= [int e.1,int e.2]) J fun b3=>(ag (nl (th (sq (rg (fP J T.eJ (lP J J J T.aF (fP J T.eJ (lP J J J T.aF (bi J J aN (mv ?_))))))))))))))
 apply gOr (t:=10) (pd:=23) rfl
 rotate_left
 ·intro hg0 fin
  have hg0':=hg0
  try simp at hg0'
  refine gy rfl rfl rfl hg0 (fP rfl T.eJ (gy rfl rfl rfl hg0 (lP rfl rfl rfl T.aF (gy rfl rfl rfl hg0 (fP rfl T.eJ (gy rfl rfl rfl hg0 (lP rfl rfl rfl T.aF (gy rfl rfl rfl hg0 (bi rfl rfl eF (gy rfl rfl rfl hg0 (mv ?_)))))))))))
  apply eH (t:=16) (pd:=22) rfl
  rotate_left
  ·intro hg1 fin
   have hg1':=hg1
   try simp at hg1'
   exact gy J J J hg1 (fP J T.iW (gy J J J hg1 (lP J J J T.aF (gy J J J hg1 (fP J T.iW (gy J J J hg1 (lP J J J T.aF (gy J J J hg1 (bi J J aN (gy J J J hg0 (pkT J hg1 J (drp (X:= [(21,_),(20,_),(19,_),(18,_),(17,_)]) ⟨J,J,J,J,J,tV⟩ fin))))))))))))
  ·intro hg1 fin
   exact gn J J J hg1 J J (gn J J J hg1 J J (gn J J J hg1 J J (gn J J J hg1 J J (gn J J J hg1 J J (gy J J J hg0 (pkF J hg1 J (drp (X:= [(21,_),(20,_),(19,_),(18,_),(17,_)]) ⟨J,J,J,J,J,tV⟩ fin)))))))
  exact pkF rfl hg0 rfl (drp (X:= [(22,_),(16,_),(15,_),(14,_),(13,_),(12,_),(11,_)]) ⟨rfl,rfl,rfl,rfl,rfl,rfl,rfl,tV⟩ fin)
 ·intro hg0 fin
  exact gn J J J hg0 J J (gn J J J hg0 J J (gn J J J hg0 J J (gn J J J hg0 J J (gn J J J hg0 J J (gn J J J hg0 J J (gu J J J J J (gu J J J J J (gu J J J J J (gu J J J J J (gu J J J J J (gn J J J hg0 J J (pkT J hg0 J (drp (X:= [(22,_),(21,_),(20,_),(19,_),(18,_),(17,_),(16,_),(15,_),(14,_),(13,_),(12,_),(11,_)]) ⟨J,J,J,J,J,J,J,J,J,J,J,J,tV⟩ fin)))))))))))))
 refine ag (nl (th (rt ?_)))
 have hr0:((decide (d.1<e.1))||((decide (d.1=e.1))&&(decide (d.2<e.2))))=(ltP d e):=by
  first|rfl|simp_all|omega
 exact rE () [.tmp 4] J [bl ((decide (d.1<e.1))||((decide (d.1=e.1))&&(decide (d.2<e.2))))] ⟨.tmp J,tV⟩ (cA1 (fun x0=>rV [bl x0]) hr0) trivial eX
theorem Bm (m:aI) (x:Int) (hm:∀e∈ix m.sT x.toNat,0≤e.1∧e.1<8) (h0:0≤x) (hx:x<(m.sT.length:Int)):
 Fn0 Tryz.prog 74 [sys m,int x] (int (cJ m x.toNat)):=by
 refine fnI Tryz.func74 rfl rfl (fun w0 F0=> ?_)
 refine fcC (bO 0 J) (fun hS0=> ?_)
 obtain⟨hma0,hms0,hme0⟩:=eI hS0
 refine sq (rg (bx (key:=2) (cs:= [sl 1 rE_ m.aC,sl 1 gE m.sT]) J fun b2=>(ag (nl (th (sq (rg (ag (nl (th (sq (sq (rg (fP J T.dS (lP J J J T.gH (mv (iF J J T.jN O gB (lF J J T.iL (fc (aL 12 J) fun hm12=>(lnF J T.iE (mv (nl (th (bk ?_))))))))))))))))))))))))
 have hI0_0:0≤(ix m.sT x.toNat).length:=by
  first|omega|simp
 have hI0_1:(0:Int)=iC ((ix m.sT x.toNat).take 0)∧0≤(0:Int)∧(0:Int)<256:=by
  exact⟨rfl,O,O⟩
 refine lp (κ:=Nat × Int) (fun p=> [(4,int 0),(5,int p.2),(12,sl 2 pE (ix m.sT x.toNat)),(13,int ((ix m.sT x.toNat).length:Int)),(14,int (p.1:Int))]) (fun p=> [(2,cell b2 [sl 1 rE_ m.aC,sl 1 gE m.sT])]) (fun p=>(p.1≤(ix m.sT x.toNat).length)∧(p.2=iC ((ix m.sT x.toNat).take p.1)∧0≤p.2∧p.2<256)) (fun p=>(ix m.sT x.toNat).length- p.1) ⟨0,(0:Int)⟩ ⟨hI0_0,hI0_1⟩ ⟨id,id,id,id,id,tV⟩ ⟨rI,tV⟩ ?_
 intro⟨k,u⟩ hG0
 obtain⟨hk0,⟨hu,hu0,hu1⟩⟩:(k≤(ix m.sT x.toNat).length)∧(u=iC ((ix m.sT x.toNat).take k)∧0≤u∧u<256):=hG0
 show Ct _ _ _ _ [(4,int 0),(5,int u),(12,sl 2 pE (ix m.sT x.toNat)),(13,int ((ix m.sT x.toNat).length:Int)),(14,int (k:Int))] [(2,cell b2 [sl 1 rE_ m.aC,sl 1 gE m.sT])] _
 refine sq (rg (bi J J aN (nl (th (sq ?_)))))
 refine cd J (fun hc0=> ?_) (fun hc0=> ?_)
 ·try simp at hc0
  have hek:=hm _ (aZ hc0)
  have hp:2^ ((ix (ix m.sT x.toNat) k).1).toNat≤2^7:=Nat.pow_le_pow_right O O
  have hp0:0≤((2^ ((ix (ix m.sT x.toNat) k).1).toNat:Nat):Int):=Int.natCast_nonneg _
  refine sk (th (sq (bk (sq (rg (iF J J T.iE O gB (lFA J T.gC (Nat.le_of_ble_eq_true J) (al (key:=7) T.yC (eC (eC eZ)) fun b7=>(sPA (cs':= [int ((ix (ix m.sT x.toNat) k).1),int ((ix (ix m.sT x.toNat) k).2)]) J J J T.gC J J (nl (th (rg (mv (fP J T.eJ (lP J J J T.aF (bi J J (uW O O) (bi J J (rO O O O O) (ag (nl (eb (th (rg (bi J J (aK i6) (mv (nl ?_)))))))))))))))))))))))))
  have hN0:(k+1)≤(ix m.sT x.toNat).length:=by
   first|omega|simp_all
  have hN1:((u.toNat|||(2^ ((ix (ix m.sT x.toNat) k).1).toNat):Nat):Int)=iC ((ix m.sT x.toNat).take (k+1))∧0≤((u.toNat|||(2^ ((ix (ix m.sT x.toNat) k).1).toNat):Nat):Int)∧((u.toNat|||(2^ ((ix (ix m.sT x.toNat) k).1).toNat):Nat):Int)<256:=by
   refine⟨?_,O,kG (b:=((2^ ((ix (ix m.sT x.toNat) k).1).toNat:Nat):Int)) hu1 O⟩
   rw[bL hc0]
   unfold iC
   rw[List.map_append,List.map_cons,List.map_nil,gQ,hu];rfl
  exact ln (⟨k+1,((u.toNat|||(2^ ((ix (ix m.sT x.toNat) k).1).toNat):Nat):Int)⟩:Nat × Int) ⟨hN0,hN1⟩ dO ⟨id,id,id,id,id,tV⟩ ⟨rI,tV⟩
 ·try simp at hc0
  refine ex (xt_ (xt_ (xb (th (sq (rg (mv (ag (nl (th (rt ?_)))))))))))
  have hr0:(u:Int)=(cJ m x.toNat):=by
   rw[hu,show k=(ix m.sT x.toNat).length by omega,List.take_length]
  exact rE () [.tmp 4] J [int u] ⟨.tmp J,tV⟩ (cA1 (fun x0=>rV [int x0]) hr0) trivial eX
theorem tU (m:aI):
 Fn0 Tryz.prog 31 [sys m] (bl (eV m)):=by
 refine fnI Tryz.func31 rfl rfl (fun w0 F0=> ?_)
 refine fcC (bO 0 J) (fun hS0=> ?_)
 obtain⟨hma0,hms0,hme0⟩:=eI hS0
 refine sq (rg (bx (key:=1) (cs:= [sl 1 rE_ m.aC,sl 1 gE m.sT]) J fun b1=>(ag (nl (th (sq (sq (rg (fP J T.mW (lP J J J T.cV (aO (φs:= [sl 1 rE_ m.aC]) (φ:=bl (bM m.aC)) ⟨J,tV⟩ (ref01.tU _) T.Ra (no J (mv ?_)))))))))))))
 apply gOr (t:=12) (pd:=17) rfl
 rotate_left
 ·intro hg0 fin
  have hg0':=hg0
  try simp at hg0'
  exact gy J J J hg0 (fP J T.dS (gy J J J hg0 (lP J J J T.gH (gy J J J hg0 (fc (aL 14 J) fun hm14=>(lnF J T.jN (gy J J J hg0 (bi J J aN (pkF J hg0 J (drp (X:= [(16,_),(15,_),(14,_),(13,_)]) ⟨J,J,J,J,tV⟩ fin))))))))))
 ·intro hg0 fin
  exact gn J J J hg0 J J (gn J J J hg0 J J (gn J J J hg0 J J (gn J J J hg0 J J (pkT J hg0 J (drp (X:= [(16,_),(15,_),(14,_),(13,_)]) ⟨J,J,J,J,tV⟩ fin)))))
 refine mv ?_
 apply gOr (t:=18) (pd:=23) rfl
 rotate_left
 ·intro hg1 fin
  have hg1':=hg1
  try simp at hg1'
  exact gy J J J hg1 (fP J T.dS (gy J J J hg1 (lP J J J T.gH (gy J J J hg1 (fc (aL 20 J) fun hm20=>(lnF J T.jN (gy J J J hg1 (bi J J gW (pkF J hg1 J (drp (X:= [(22,_),(21,_),(20,_),(19,_)]) ⟨J,J,J,J,tV⟩ fin))))))))))
 ·intro hg1 fin
  exact gn J J J hg1 J J (gn J J J hg1 J J (gn J J J hg1 J J (gn J J J hg1 J J (pkT J hg1 J (drp (X:= [(22,_),(21,_),(20,_),(19,_)]) ⟨J,J,J,J,tV⟩ fin)))))
 refine nl (th ?_)
 refine cd J (fun hc0=> ?_) (fun hc0=> ?_)
 ·try simp at hc0
  refine sq (rg (ag (nl (th (rt (rt_ ?_))))))
  have hr0:false=(eV m):=by
   unfold eV
   by_cases h:bM m.aC=true
   ·simp[h] at hc0 ⊢
    omega
   ·simp[h]
  exact rE () [.tmp 2] J [bl false] ⟨.tmp J,tV⟩ (cA1 (fun x0=>rV [bl x0]) hr0) trivial eX
 ·try simp at hc0
  have hact:=fG (l:=m.aC) (by simp_all)
  refine sk (th (sq (rg (ag (nl (th (sq (sq (rg (fP J T.dS (lP J J J T.gH (fc (aL 25 J) fun hm25=>(lnF J T.jN (mv (nl (th (bk ?_)))))))))))))))))
  have hI0_0:0≤m.sT.length:=by
   first|omega|simp
  have hI0_1:(0:Int)=(eE (m.sT.take 0):Int)∧(m.sT.take 0).all (eQ m.aC.length m.sT.length)=true∧(0:Int)≤140737488355328*(0:Int):=by
   exact⟨rfl,by simp,O⟩
  refine lp (κ:=Nat × Int) (fun p=> [(1,ptr 1 b1 0),(3,int p.2),(25,sl 1 gE m.sT),(26,int (m.sT.length:Int)),(27,int (p.1:Int))]) (fun p=> [(1,cell b1 [sl 1 rE_ m.aC,sl 1 gE m.sT])]) (fun p=>(p.1≤m.sT.length)∧(p.2=(eE (m.sT.take p.1):Int)∧(m.sT.take p.1).all (eQ m.aC.length m.sT.length)=true∧p.2≤140737488355328*(p.1:Int))) (fun p=>m.sT.length- p.1) ⟨0,(0:Int)⟩ ⟨hI0_0,hI0_1⟩ ⟨id,id,id,id,id,tV⟩ ⟨rI,tV⟩ ?_
  intro⟨k,n⟩ hG0
  obtain⟨hk0,⟨hn,hal,hn4⟩⟩:(k≤m.sT.length)∧(n=(eE (m.sT.take k):Int)∧(m.sT.take k).all (eQ m.aC.length m.sT.length)=true∧n≤140737488355328*(k:Int)):=hG0
  show Ct _ _ _ _ [(1,ptr 1 b1 0),(3,int n),(25,sl 1 gE m.sT),(26,int (m.sT.length:Int)),(27,int (k:Int))] [(1,cell b1 [sl 1 rE_ m.aC,sl 1 gE m.sT])] _
  have hmk:=hme0 k
  refine sq (rg (bi J J aN (nl (th (sq ?_)))))
  refine cd J (fun hc1=> ?_) (fun hc1=> ?_)
  ·try simp at hc1
   refine sk (th (sq (bk (sq (rg (iF J J T.jN O gB (lF J J T.iL (ag (nl (th (sq (rg (mv (mv (fc (aL 32 J) fun hm32=>(lnF J T.iE (bi J J (aK i6) (ag (nl (th (sq (rg (mv (lnF J T.iE (mv (nl (th (bk ?_))))))))))))))))))))))))))))
   have hI1_0:0≤(ix m.sT k).length:=by
    first|omega|simp
   have hI1_1:(∀j,j<0→iM m.aC.length m.sT.length (ix (ix m.sT k) j)=true)∧∀j,j+1<0→ltP (ix (ix m.sT k) j) (ix (ix m.sT k) (j+1))=true:=by
    exact⟨fun j hj=>by omega,fun j hj=>by omega⟩
   refine lp (κ:=Nat) (fun p=> [(1,ptr 1 b1 0),(3,int (n+((ix m.sT k).length:Int))),(5,sl 2 pE (ix m.sT k)),(25,sl 1 gE m.sT),(26,int (m.sT.length:Int)),(27,int (k:Int)),(35,sl 2 pE (ix m.sT k)),(36,int ((ix m.sT k).length:Int)),(37,int (p:Int))]) (fun p=> [(1,cell b1 [sl 1 rE_ m.aC,sl 1 gE m.sT])]) (fun p=>(p≤(ix m.sT k).length)∧((∀j,j<p→iM m.aC.length m.sT.length (ix (ix m.sT k) j)=true)∧∀j,j+1<p→ltP (ix (ix m.sT k) j) (ix (ix m.sT k) (j+1))=true)) (fun p=>(ix m.sT k).length- p) 0 ⟨hI1_0,hI1_1⟩ ⟨id,id,id,id,id,id,id,id,id,tV⟩ ⟨rI,tV⟩ ?_
   intro k1 hG1
   obtain⟨hk1,hI1⟩:(k1≤(ix m.sT k).length)∧((∀j,j<k1→iM m.aC.length m.sT.length (ix (ix m.sT k) j)=true)∧∀j,j+1<k1→ltP (ix (ix m.sT k) j) (ix (ix m.sT k) (j+1))=true):=hG1
   refine sq (rg (bi J J aN (nl (th (sq ?_)))))
   refine cd J (fun hc2=> ?_) (fun hc2=> ?_)
   ·try simp at hc2
    refine sk (th (sq (bk (sq (rg (mv (iF J J T.iE O gB (lFA J T.gC (Nat.le_of_ble_eq_true J) (al (key:=7) T.yC (eC (eC eZ)) fun b7=>(ag (sPA (cs':= [int ((ix (ix m.sT k) k1).1),int ((ix (ix m.sT k) k1).2)]) J J J T.gC J J (nl (th (sq (dr (nh:=38) [0,1,3,7,15,31,15,79,207,511,1023,2047,4095,8191,16383,32767,65535,131071,262143,131071,655359,1703935,4194303,8388607,16777215,33554431,67108863,134217727,268435455,268435455,805306367,2147483647,4294967295,268435455,17179869183,34359738367,68719476735,137438953471] T.mixed kR ?_)))))))))))))))
    refine st_ J (fun _ _ _ gq kq=>fP (gq.1.trans J) T.eJ kq) ?_
    refine st_ J (fun _ _ _ gq kq=>lP (gq.1.trans J) J J T.aF kq) ?_
    refine st_ J (fun _ _ _ gq kq=>bi (gq.1.trans J) J aN kq) ?_
    refine st_ J (fun _ _ _ gq kq=>mv' (gq.1.trans J) kq) ?_
    refine sg_ (φ:=ptr 7 b7 0) J J J J (List.mem_of_elem_eq_true J) (fun hgd=> ?_) ?_
    ·have hgd':=hgd
     try simp at hgd'
     exact fun _ _ _ gq kq=>fP (gq.1.trans J) T.eJ kq
    refine sg_ (φ:=int ((ix (ix m.sT k) k1).1)) J J J J (List.mem_of_elem_eq_true J) (fun hgd=> ?_) ?_
    ·have hgd':=hgd
     try simp at hgd'
     exact fun _ _ _ gq kq=>lP (gq.1.trans (bG hgd)) J J T.aF kq
    refine sg_ (φ:=ptr 1 b1 0) J J J J (List.mem_of_elem_eq_true J) (fun hgd=> ?_) ?_
    ·have hgd':=hgd
     try simp at hgd'
     exact fun _ _ _ gq kq=>fP (gq.1.trans J) T.mW kq
    refine sg_ (φ:=sl 1 rE_ m.aC) J J J J (List.mem_of_elem_eq_true J) (fun hgd=> ?_) ?_
    ·have hgd':=hgd
     try simp at hgd'
     exact fun _ _ _ gq kq=>lP (gq.1.trans (bG hgd)) J J T.cV kq
    refine sg_ (φ:=int (m.aC.length:Int)) J J J J (List.mem_of_elem_eq_true J) (fun hgd=> ?_) ?_
    ·have hgd':=hgd
     try simp at hgd'
     exact fun _ _ _ gq kq=>lnF (gq.1.trans (bG hgd)) T.eS kq
    refine sg_ (φ:=bl (decide ((m.aC.length:Int)≤((ix (ix m.sT k) k1).1)))) J J J J (List.mem_of_elem_eq_true J) (fun hgd=> ?_) ?_
    ·have hgd':=hgd
     try simp at hgd'
     exact fun _ _ _ gq kq=>bi (gq.1.trans (bG hgd)) (gq.2.1.trans (bG hgd)) eT kq
    refine st_ J (fun _ _ _ gq kq=>pk (gq.1.trans J) (nG (x:= .tmp 45) (gq.1.trans J) (gq.2.1.trans J) J) kq) ?_
    refine st_ J (fun _ _ _ gq kq=>mv' (gq.1.trans J) kq) ?_
    refine sg_ (φ:=ptr 7 b7 1) J J J J (List.mem_of_elem_eq_true J) (fun hgd=> ?_) ?_
    ·have hgd':=hgd
     try simp at hgd'
     exact fun _ _ _ gq kq=>fP (gq.1.trans J) T.iW kq
    refine sg_ (φ:=int ((ix (ix m.sT k) k1).2)) J J J J (List.mem_of_elem_eq_true J) (fun hgd=> ?_) ?_
    ·have hgd':=hgd
     try simp at hgd'
     exact fun _ _ _ gq kq=>lP (gq.1.trans (bG hgd)) J J T.aF kq
    refine sg_ (φ:=bl (decide (((ix (ix m.sT k) k1).2)<0))) J J J J (List.mem_of_elem_eq_true J) (fun hgd=> ?_) ?_
    ·have hgd':=hgd
     try simp at hgd'
     exact fun _ _ _ gq kq=>bi (gq.1.trans (bG hgd)) J aN kq
    refine st_ J (fun _ _ _ gq kq=>pk (gq.1.trans J) (nG (x:= .tmp 53) (gq.1.trans J) (gq.2.1.trans J) J) kq) ?_
    refine st_ J (fun _ _ _ gq kq=>mv' (gq.1.trans J) kq) ?_
    refine sg_ (φ:=ptr 7 b7 1) J J J J (List.mem_of_elem_eq_true J) (fun hgd=> ?_) ?_
    ·have hgd':=hgd
     try simp at hgd'
     exact fun _ _ _ gq kq=>fP (gq.1.trans J) T.iW kq
    refine sg_ (φ:=int ((ix (ix m.sT k) k1).2)) J J J J (List.mem_of_elem_eq_true J) (fun hgd=> ?_) ?_
    ·have hgd':=hgd
     try simp at hgd'
     exact fun _ _ _ gq kq=>lP (gq.1.trans (bG hgd)) J J T.aF kq
    refine sg_ (φ:=ptr 1 b1 1) J J J J (List.mem_of_elem_eq_true J) (fun hgd=> ?_) ?_
    ·have hgd':=hgd
     try simp at hgd'
     exact fun _ _ _ gq kq=>fP (gq.1.trans J) T.dS kq
    refine sg_ (φ:=sl 1 gE m.sT) J J J J (List.mem_of_elem_eq_true J) (fun hgd=> ?_) ?_
    ·have hgd':=hgd
     try simp at hgd'
     exact fun _ _ _ gq kq=>lP (gq.1.trans (bG hgd)) J J T.gH kq
    refine sg_ (φ:=int (m.sT.length:Int)) J J J J (List.mem_of_elem_eq_true J) (fun hgd=> ?_) ?_
    ·have hgd':=hgd
     try simp at hgd'
     exact fun _ _ _ gq kq=>lnF (gq.1.trans (bG hgd)) T.jN kq
    refine sg_ (φ:=bl (decide ((m.sT.length:Int)≤((ix (ix m.sT k) k1).2)))) J J J J (List.mem_of_elem_eq_true J) (fun hgd=> ?_) ?_
    ·have hgd':=hgd
     try simp at hgd'
     exact fun _ _ _ gq kq=>bi (gq.1.trans (bG hgd)) (gq.2.1.trans (bG hgd)) eT kq
    refine st_ J (fun _ _ _ gq kq=>pk (gq.1.trans J) (nG (x:= .tmp 58) (gq.1.trans J) (gq.2.1.trans J) J) kq) ?_
    refine st_ J (fun _ _ _ gq kq=>mv' (gq.1.trans J) kq) ?_
    refine sg_ (φ:=int (k1:Int)) J J J J (List.mem_of_elem_eq_true J) (fun hgd=> ?_) ?_
    ·have hgd':=hgd
     try simp at hgd'
     exact fun _ _ _ gq kq=>mv' (gq.1.trans J) kq
    refine sg_ (φ:=bl (decide (0<(k1:Int)))) J J J J (List.mem_of_elem_eq_true J) (fun hgd=> ?_) ?_
    ·have hgd':=hgd
     try simp at hgd'
     exact fun _ _ _ gq kq=>bi (gq.1.trans (bG hgd)) J gW kq
    refine sg_ (φ:=bl (decide (0<(k1:Int)))) J J J J (List.mem_of_elem_eq_true J) (fun hgd=> ?_) ?_
    ·have hgd':=hgd
     try simp at hgd'
     exact fun _ _ _ gq kq=>mv' (gq.1.trans (bG hgd)) kq
    refine iH (φ:=sl 2 pE (ix m.sT k)) rfl rfl rfl rfl (List.mem_of_elem_eq_true rfl) (fun hgd hgd2=> ?_) ?_
    ·have hgd':=hgd
     try simp at hgd'
     have hgd2':=hgd2
     try simp at hgd2'
     exact fun _ _ _ gq kq=>mv' (gq.1.trans J) kq
    refine iH (φ:=int (k1:Int)) rfl rfl rfl rfl (List.mem_of_elem_eq_true rfl) (fun hgd hgd2=> ?_) ?_
    ·have hgd':=hgd
     try simp at hgd'
     have hgd2':=hgd2
     try simp at hgd2'
     exact fun _ _ _ gq kq=>mv' (gq.1.trans J) kq
    refine iH (φ:=int ((k1:Int)- 1)) rfl rfl rfl rfl (List.mem_of_elem_eq_true rfl) (fun hgd hgd2=> ?_) ?_
    ·have hgd':=hgd
     try simp at hgd'
     have hgd2':=hgd2
     try simp at hgd2'
     exact fun _ _ _ gq kq=>bi (gq.1.trans (fQ hgd hgd2)) J (qE i6) kq
    refine iH (φ:=fp [int ((ix (ix m.sT k) ((k1:Int)- 1).toNat).1),int ((ix (ix m.sT k) ((k1:Int)- 1).toNat).2)]) rfl rfl rfl rfl (List.mem_of_elem_eq_true rfl) (fun hgd hgd2=> ?_) ?_
    ·have hgd':=hgd
     try simp at hgd'
     have hgd2':=hgd2
     try simp at hgd2'
     exact fun _ _ _ gq kq=>iF (gq.1.trans (fQ hgd hgd2)) (gq.2.1.trans (fQ hgd hgd2)) T.iE O gB kq
    refine iH (φ:=agg [int ((ix (ix m.sT k) ((k1:Int)- 1).toNat).1),int ((ix (ix m.sT k) ((k1:Int)- 1).toNat).2)]) rfl rfl rfl rfl (List.mem_of_elem_eq_true rfl) (fun hgd hgd2=> ?_) ?_
    ·have hgd':=hgd
     try simp at hgd'
     have hgd2':=hgd2
     try simp at hgd2'
     exact fun _ _ _ gq kq=>lFA (gq.1.trans (fQ hgd hgd2)) T.gC (Nat.le_of_ble_eq_true J) kq
    refine iH (φ:=agg [int ((ix (ix m.sT k) k1).1),int ((ix (ix m.sT k) k1).2)]) rfl rfl rfl rfl (List.mem_of_elem_eq_true rfl) (fun hgd hgd2=> ?_) ?_
    ·have hgd':=hgd
     try simp at hgd'
     have hgd2':=hgd2
     try simp at hgd2'
     exact fun _ _ _ gq kq=>lPA (gq.1.trans J) J T.gC J kq
    refine iH (φ:=bl (ltP ((ix (ix m.sT k) ((k1:Int)- 1).toNat).1,(ix (ix m.sT k) ((k1:Int)- 1).toNat).2) ((ix (ix m.sT k) k1).1,(ix (ix m.sT k) k1).2))) rfl rfl rfl rfl (List.mem_of_elem_eq_true rfl) (fun hgd hgd2=> ?_) ?_
    ·have hgd':=hgd
     try simp at hgd'
     have hgd2':=hgd2
     try simp at hgd2'
     exact fun _ _ _ gq kq=>aO (φs:= [agg [int ((ix (ix m.sT k) ((k1:Int)- 1).toNat).1),int ((ix (ix m.sT k) ((k1:Int)- 1).toNat).2)],agg [int ((ix (ix m.sT k) k1).1),int ((ix (ix m.sT k) k1).2)]]) (φ:=bl (ltP ((ix (ix m.sT k) ((k1:Int)- 1).toNat).1,(ix (ix m.sT k) ((k1:Int)- 1).toNat).2) ((ix (ix m.sT k) k1).1,(ix (ix m.sT k) k1).2))) ⟨(gq.1.trans (fQ hgd hgd2)),(gq.2.1.trans (fQ hgd hgd2)),tV⟩ (divs.Nd ((ix (ix m.sT k) ((k1:Int)- 1).toNat).1,(ix (ix m.sT k) ((k1:Int)- 1).toNat).2) ((ix (ix m.sT k) k1).1,(ix (ix m.sT k) k1).2)) T.WA kq
    refine iH (φ:=bl (!(ltP ((ix (ix m.sT k) ((k1:Int)- 1).toNat).1,(ix (ix m.sT k) ((k1:Int)- 1).toNat).2) ((ix (ix m.sT k) k1).1,(ix (ix m.sT k) k1).2)))) rfl rfl rfl rfl (List.mem_of_elem_eq_true rfl) (fun hgd hgd2=> ?_) ?_
    ·have hgd':=hgd
     try simp at hgd'
     have hgd2':=hgd2
     try simp at hgd2'
     exact fun _ _ _ gq kq=>no (gq.1.trans (fQ hgd hgd2)) kq
    refine sg_ (φ:=bl ((decide (0<(k1:Int)))&&(!(ltP ((ix (ix m.sT k) ((k1:Int)- 1).toNat).1,(ix (ix m.sT k) ((k1:Int)- 1).toNat).2) ((ix (ix m.sT k) k1).1,(ix (ix m.sT k) k1).2))))) J J J J (List.mem_of_elem_eq_true J) (fun hgd=> ?_) ?_
    ·have hgd':=hgd
     try simp at hgd'
     exact fun _ _ _ gq kq=>pk (gq.1.trans (bG hgd)) (mA (x:= .tmp 69) (gq.1.trans (bG hgd)) (gq.2.1.trans (uY hgd)) J) kq
    refine st_ J (fun _ _ _ gq kq=>pk (gq.1.trans J) (nG (x:= .tmp 66) (gq.1.trans J) (gq.2.1.trans J) J) kq) ?_
    refine pn (nl (th ?_))
    refine cd J (fun hc3=> ?_) (fun hc3=> ?_)
    ·skip
     simp only [Bool.or_eq_true,Bool.and_eq_true,decide_eq_true_eq] at hc3
     refine sq (rg (ag (nl (th (rt (rb (rt_ (rt_ (rb (rb (rt_ (rt_ (rb (rt_ ?_))))))))))))))
     have hr0:false=(eV m):=by
      unfold eV
      rw[gO (xs:=m.sT) (k:=k) O ?_];simp
      have hno:∀{p:Prop},(iM m.aC.length m.sT.length (ix (ix m.sT k) k1)=true→¬p)→p→eQ m.aC.length m.sT.length (ix m.sT k)=false:=fun hh hp=>Ez hc2 (by cases g:iM m.aC.length m.sT.length (ix (ix m.sT k) k1) with|false=>rfl|true=>exact absurd hp (hh g))
      rcases hc3 with(((h|h)|h)|h)|h
      ·exact hno (fun g=>by have:=fK.1 g;omega) h
      ·exact hno (fun g=>by have:=fK.1 g;omega) h
      ·exact hno (fun g=>by have:=fK.1 g;omega) h
      ·exact hno (fun g=>by have:=fK.1 g;omega) h
      ·have h5:=h.2
       rw[show((k1:Int)- 1).toNat=k1- 1 by omega] at h5
       refine EA hc2 O ?_
       simpa using h5
     exact rE () [.tmp 2] J [bl false] ⟨.tmp J,tV⟩ (cA1 (fun x0=>rV [bl x0]) hr0) trivial eX
    ·skip
     simp only [Bool.or_eq_false_iff,Bool.and_eq_false_iff,decide_eq_false_iff_not] at hc3
     obtain⟨⟨⟨⟨h41,h42⟩,h43⟩,h44⟩,h45⟩:=hc3
     refine sk (eb (th (rg (bi J J (aK i6) (mv (nl ?_))))))
     have hN0:(k1+1)≤(ix m.sT k).length:=by
      first|omega|simp_all
     have hN1:(∀j,j<(k1+1)→iM m.aC.length m.sT.length (ix (ix m.sT k) j)=true)∧∀j,j+1<(k1+1)→ltP (ix (ix m.sT k) j) (ix (ix m.sT k) (j+1))=true:=by
      refine⟨fun j hj=> ?_,fun j hj=> ?_⟩
      ·by_cases e:j=k1
       ·subst e;exact fK.2 ⟨O,O,O,O⟩
       ·exact hI1.1 j O
      ·by_cases e:j+1=k1
       ·subst e
        rcases h45 with h|h
        ·exact absurd O h
        ·rw[show(((j+1:Nat):Int)- 1).toNat=j by omega] at h
         simpa using h
       ·exact hI1.2 j O
     exact ln (k1+1) ⟨hN0,hN1⟩ dO ⟨id,id,id,id,id,id,id,id,id,tV⟩ ⟨rI,tV⟩
   ·try simp at hc2
    refine ex (xt_ (xt_ (xb (eb (th (rg (bi J J (aK i6) (mv (nl ?_)))))))))
    have hN0:(k+1)≤m.sT.length:=by
     first|omega|simp_all
    have hN1:(n+((ix m.sT k).length:Int))=(eE (m.sT.take (k+1)):Int)∧(m.sT.take (k+1)).all (eQ m.aC.length m.sT.length)=true∧(n+((ix m.sT k).length:Int))≤140737488355328*((k+1):Int):=by
     refine⟨?_,?_,O⟩
     ·rw[bL O,nD];omega
     ·rw[fE O,hal,Bk (fun j hj=>hI1.1 j O) (fun j hj=>hI1.2 j O)];rfl
    exact ln (⟨k+1,n+((ix m.sT k).length:Int)⟩:Nat × Int) ⟨hN0,hN1⟩ dO ⟨id,id,id,id,id,tV⟩ ⟨rI,tV⟩
  ·try simp at hc1
   refine ex (xt_ (xt_ (xb (th (sq (rg (mv (bi J J qF (ag (nl (th (rt ?_))))))))))))
   have hr0:(decide (n≤400000))=(eV m):=by
    have hkk:k=m.sT.length:=by omega
    rw[hkk,List.take_length] at hal hn
    unfold eV
    rw[hal,hc0.1.1,hn,decide_eq_true (p:=1≤m.sT.length) O,decide_eq_true (p:=m.sT.length≤5000) O]
    simp only [Bool.true_and,Bool.and_true]
    exact decide_eq_decide.2 O
   exact rE () [.tmp 2] J [bl (decide (n≤400000))] ⟨.tmp J,tV⟩ (cA1 (fun x0=>rV [bl x0]) hr0) trivial eX
end divs
end
section
namespace LevM
open ref01 ref03 ref04 ref06 Part Rungs LeftM TrimM BisM BisM5 WitM
inductive Rch (B:PP→Prop) (S:PP→PP→Prop):PP→Prop
 |zero:Rch B S (0,0)
 |step {p q:PP}:Rch B S p→¬B p→S p q→Rch B S q
def GU (B:PP→Prop) (S:PP→PP→Prop):Prop:=∀p,Rch B S p→¬B p
def Fin (B:PP→Prop) (S:PP→PP→Prop) (vis:List PP) (p:PP):Prop:=¬B p∧∀q,S p q→q∈vis
structure LI (B:PP→Prop) (S:PP→PP→Prop) (vis op:List PP):Prop where
 nd:vis.Nodup
 z:((0,0):PP)∈vis
 rch:∀p∈vis,Rch B S p
 opn:∀p∈op,p∈vis
 dn:∀p∈vis,p∈op∨Fin B S vis p
variable {B:PP→Prop} {S:PP→PP→Prop} {vis op:List PP}
theorem Jq:LI B S [(0,0)] [(0,0)]:=
 ⟨by simp,by simp,fun p hp=>by rw[List.mem_singleton.1 hp];exact .zero,fun p hp=>hp,fun p hp=> .inl hp⟩
theorem PG {v:List PP} {p:PP} (h:Fin B S vis p):Fin B S (vis++v) p:=⟨h.1,fun q hq=>List.mem_append.2 (.inl (h.2 q hq))⟩
theorem Jr (h:LI B S vis op) {q:PP} (hq:q∉vis) (hr:Rch B S q):LI B S (vis++ [q]) (op++ [q]):=by
 refine⟨?_,List.mem_append.2 (.inl h.z),fun p hp=> ?_,fun p hp=> ?_,fun p hp=> ?_⟩
 ·rw[List.nodup_append]
  refine⟨h.nd,by simp,fun a ha b hb e=> ?_⟩
  rw[List.mem_singleton.1 hb] at e
  subst e;exact hq ha
 ·rcases List.mem_append.1 hp with g|g
  ·exact h.rch p g
  ·rw[List.mem_singleton.1 g];exact hr
 ·rcases List.mem_append.1 hp with g|g
  ·exact List.mem_append.2 (.inl (h.opn p g))
  ·exact List.mem_append.2 (.inr g)
 ·rcases List.mem_append.1 hp with g|g
  ·rcases h.dn p g with g|g
   ·exact .inl (List.mem_append.2 (.inl g))
   ·exact .inr (PG g)
  ·exact .inl (List.mem_append.2 (.inr g))
theorem Nf {p:PP} (h:LI B S vis (p::op)) (hf:Fin B S vis p):LI B S vis op:=
 ⟨h.nd,h.z,h.rch,fun q hq=>h.opn q (List.mem_cons_of_mem _ hq),fun q hq=>by
   rcases h.dn q hq with g|g
   ·rcases List.mem_cons.1 g with g|g
    ·subst g;exact .inr hf
    ·exact .inl g
   ·exact .inr g⟩
theorem Ng (h:LI B S vis []):GU B S:=fun p hp=>by
 have:p∈vis∧Fin B S vis p:=by
  induction hp with
  |zero=>exact⟨h.z,by rcases h.dn _ h.z with g|g;cases g;exact g⟩
  |step h1 h2 h3 ih=>
   have hq:=ih.2.2 _ h3
   exact⟨hq,by rcases h.dn _ hq with g|g;cases g;exact g⟩
 exact this.2.1
theorem Ro (h:LI B S vis op) {p:PP} (hp:p∈vis) (hb:B p):¬GU B S:=fun hw=>hw p (h.rch p hp) hb
theorem zH {l:List PP} {k:Nat} (h:k<l.length):l.drop k=ix l k::l.drop (k+1):=by
 rw[aJ h];exact List.drop_eq_getElem_cons h
def mat (n m:Nat) (vis:List PP):List (List Bool):=(List.range n).map fun(x:Nat)=>(List.range m).map fun(y:Nat)=>decide (((x:Int),(y:Int))∈vis)
theorem GV (n m:Nat):mat n m []=List.replicate n (List.replicate m false):=by
 unfold mat
 rw[show(fun(x:Nat)=>(List.range m).map fun(y:Nat)=>decide (((x:Int),(y:Int))∈([]:List PP)))=fun _=>List.replicate m false from funext fun x=>by
  rw[show(fun(y:Nat)=>decide (((x:Int),(y:Int))∈([]:List PP)))=fun _=>false from funext fun y=>by simp]
  rw[List.map_const'];simp]
 rw[List.map_const'];simp
theorem sK (n m:Nat) (vis:List PP):(mat n m vis).length=n:=by simp[mat]
theorem Dz {n m:Nat} {vis:List PP} {x:Nat} (hx:x<n):ix (mat n m vis) x=(List.range m).map fun(y:Nat)=>decide (((x:Int),(y:Int))∈vis):=cY hx
theorem pG {n m:Nat} {vis:List PP} {x:Nat} (hx:x<n):(ix (mat n m vis) x).length=m:=by rw[Dz hx];simp
theorem Nh {n m:Nat} {vis:List PP} {x y:Nat} (hx:x<n) (hy:y<m):ix (ix (mat n m vis) x) y=decide (((x:Int),(y:Int))∈vis):=by
 rw[Dz hx];exact cY hy
theorem zI {n m:Nat} {vis:List PP} {x y:Nat} (hx:x<n) (hy:y<m):(mat n m vis).set x ((ix (mat n m vis) x).set y true)=mat n m (vis++ [((x:Int),(y:Int))]):=by
 rw[Dz hx]
 refine mP hx ?_ (fun z _ hne=> ?_)
 ·refine(mP hy ?_ (fun z _ hne=> ?_)).symm
  ·simp
  ·rw[decide_eq_decide]
   constructor
   ·intro h
    rcases List.mem_append.1 h with h|h
    ·exact h
    ·have h:=List.mem_singleton.1 h
     simp only [Prod.mk.injEq] at h
     omega
   ·exact fun h=>List.mem_append.2 (.inl h)
 ·refine List.map_congr_left fun w _=> ?_
  rw[decide_eq_decide]
  constructor
  ·intro h
   rcases List.mem_append.1 h with h|h
   ·exact h
   ·have h:=List.mem_singleton.1 h
    simp only [Prod.mk.injEq] at h
    omega
  ·exact fun h=>List.mem_append.2 (.inl h)
def jG (T t:SS) (p:PP):Prop:=∃u∈acc T p.1.toNat,u∉acc t p.2.toNat
def kJ (T t:SS) (p q:PP):Prop:=∃a:Nat,a<(nxt T p.1.toNat).length∧0≤ix (nxt T p.1.toNat) a∧q=(ix (nxt T p.1.toNat) a,ix (nxt t p.2.toNat) a)
def Bn (T:SS):Prop:=∀x,x<T.sT.length→∀a,a<T.aC.length→(0≤ix (nxt T x) a↔has (aT (acc T x)) (a:Int)=true)
def KL (T t:SS) (p:PP):Prop:=0≤p.1∧p.1<(T.sT.length:Int)∧0≤p.2∧p.2<(t.sT.length:Int)
theorem Js {T t:SS} (hT:oK T) (ht:oK t) (hu:Bn T) {p q:PP} (hp:KL T t p) (hb:¬jG T t p) (hs:kJ T t p q):KL T t q:=by
 obtain⟨a,ha,h0,rfl⟩:=hs
 obtain⟨p0,p1,p2,p3⟩:=hp
 have hx:p.1.toNat<T.sT.length:=by omega
 have hy:p.2.toNat<t.sT.length:=by omega
 have hl:=(hT.st _ hx).len
 have ha':a<T.aC.length:=by have:(nxt T p.1.toNat).length=T.aC.length:=hl;omega
 have hg:=WalkM.vD hT ht hx hy (fun u hu=>Classical.byContradiction fun hn=>hb ⟨u,hu,hn⟩) ((hu _ hx a ha').1 h0)
 have hn:=((hT.st _ hx).nx a ha').2
 exact⟨h0,hn,hg.2.1,hg.2.2⟩
theorem oI {T t:SS} (hT:oK T) (ht:oK t) (hu:Bn T) {p:PP} (h:Rch (jG T t) (kJ T t) p):KL T t p:=by
 induction h with
 |zero=>exact⟨by simp,by have:=hT.few0;show(0:Int)<_;omega,by simp,by have:=ht.few0;show(0:Int)<_;omega⟩
 |step h1 h2 h3 ih=>exact Js hT ht hu ih h2 h3
theorem PJ {T t:SS} (hT:oK T) (ht:oK t) (hu:Bn T):GU (jG T t) (kJ T t)↔∃R,Ref T t R∧R 0 0:=by
 constructor
 ·intro hw
  refine⟨fun x y=>Rch (jG T t) (kJ T t) ((x:Int),(y:Int)),⟨fun {x y} h=> ?_,fun {x y} h u hu'=> ?_,fun {x y} h a ha=> ?_⟩,.zero⟩
  ·obtain⟨_,h1,_,h2⟩:=oI hT ht hu h
   dsimp only at h1 h2
   omega
  ·refine Classical.byContradiction fun hn=>hw _ h ⟨u,hu',hn⟩
  ·have hb:=oI hT ht hu h
   have hx:x<T.sT.length:=by have:=hb.2.1;dsimp only at this;omega
   have hg:=WalkM.jR hT hx ha
   have hs:kJ T t ((x:Int),(y:Int)) (ix (nxt T x) a,ix (nxt t y) a):=⟨a,by have:(nxt T x).length=T.aC.length:=(hT.st _ hx).len;show a<(nxt T x).length;omega,hg.2.1,rfl⟩
   have hr:=Rch.step h (hw _ h) hs
   have hq:=oI hT ht hu hr
   rw[Int.toNat_of_nonneg hg.2.1,Int.toNat_of_nonneg hq.2.2.1]
   exact hr
 ·rintro⟨R,hR,h0⟩ p hp
  have:KL T t p∧R p.1.toNat p.2.toNat:=by
   induction hp with
   |zero=>exact⟨oI hT ht hu .zero,h0⟩
   |step h1 h2 h3 ih=>
    refine⟨Js hT ht hu ih.1 h2 h3,?_⟩
    obtain⟨a,ha,g0,rfl⟩:=h3
    have hx:_<T.sT.length:=(hR.bd ih.2).1
    have hl:(nxt T _).length=T.aC.length:=(hT.st _ hx).len
    have ha':a<T.aC.length:=by rw[←hl];exact ha
    exact hR.nxt ih.2 a ((hu _ hx a ha').1 g0)
  rintro⟨u,hu',hn⟩
  exact hn (hR.acc this.2 u hu')
end LevM
end
section
open ref01 ref03 ref04 ref06 prog prog2 prog3 prog6 prog13 Part Rungs LeftM TrimM RoundM MergeM BisM BisM4 BisM5 WalkM StepM WitM JudgM refw judg wit sysw divr divs LevM
theorem bC {s:SS} (hs:oK s):oK (tR s).1:=by
 cases h:ix (hOl s) 0 with
 |true=>rw[dK h];exact jE hs.acts
 |false=>rw[bX h];exact Ky hs
theorem dV (s:SS):(tR s).1.aC=s.aC:=by
 cases h:ix (hOl s) 0 with
 |true=>rw[dK h];rfl
 |false=>rw[bX h]
theorem qW {s:SS} (hs:oK s):Bn (tR s).1:=by
 cases h:ix (hOl s) 0 with
 |true=>
  rw[dK h]
  intro x hx a ha
  have hx:x=0:=by have hx:x<1:=hx;omega
  subst hx
  have ha:a<s.aC.length:=ha
  have e:ix (nxt (nothing s.aC) 0) a= -1:=by
   show ix (List.replicate s.aC.length (-1)) a= -1
   rw[aJ (by simpa using ha)];simp
  rw[e]
  constructor
  ·intro h;omega
  ·intro h
   have h:has (aT []) (a:Int)=true:=h
   rw[AX] at h;cases h
 |false=>
  rw[bX h]
  intro x hx a ha
  have hx:x<(aH s).length:=by simpa using hx
  have ha:a<s.aC.length:=ha
  have e1:ix (nxt (tS s) x) a=_:=zB hx ha
  have e2:acc (tS s) x=_:=kA hx
  show 0≤ix (nxt (tS s) x) a↔has (aT (acc (tS s) x)) (a:Int)=true
  rw[e1,e2]
  by_cases g:has (aT (keep s (ix (aH s) x).toNat)) (a:Int)=true
  ·rw[if_pos g];exact⟨fun _=>g,fun _=>(jW _ _).1⟩
  ·rw[if_neg g];exact⟨fun h=>absurd h (by decide),fun h=>absurd h g⟩
theorem EC {s t:SS} (hs:oK s) (ht:oK t):GU (jG (tR s).1 t) (kJ (tR s).1 t)↔dA s t:=by
 unfold dA
 cases h:ix (hOl s) 0 with
 |true=>
  refine⟨fun _=> .inl rfl,fun _=> ?_⟩
  have hx:∀p,¬jG (tR s).1 t p:=by
   rintro p ⟨u,hu,_⟩
   rw[dK h] at hu
   have:p.1.toNat<1:=BisM6.MM hu
   have e:p.1.toNat=0:=by omega
   rw[e] at hu;cases hu
  exact fun p _=>hx p
 |false=>
  rw[PJ (bC hs) ht (qW hs),bX h]
  simp
theorem Jt {α:Type} (a b:α) {n k:Nat} (h:k<n):(List.replicate k a++List.replicate (n- k) b).set k a=List.replicate (k+1) a++List.replicate (n- (k+1)) b:=by
 rw[List.set_append_right _ _ (by simp),List.length_replicate,Nat.sub_self,show n- k=(n- (k+1))+1 by omega,List.replicate_succ,List.set_cons_zero,List.replicate_succ',List.append_assoc]
 rfl
theorem ED {T t:SS} {p:Int × Int}:vH (ix T.sT p.1.toNat) (ix t.sT p.2.toNat)=true↔jG T t p:=by
 unfold vH jG
 rw[List.any_eq_true]
 simp
namespace T
theorem Ve:Ent Tryz.prog 226:=aG kR
end T
namespace divd
theorem PK (s t:SS) (hs:oK s) (ht:oK t):
 AL.Fn Tryz.prog 192 [spec s,spec t] [] (ι:= { d:Int//d<0↔dA s t }) (fun _ i=>int i.1) (fun _=> []):=by
 refine fnI Tryz.func192 rfl rfl (fun w0 F0=> ?_)
 have hT:=bC hs;have hU:=qW hs;have hT0:=hT.few0;have hT1:=hT.few1;have ht0:=ht.few0;have ht1:=ht.few1;have hn8:=hT.n8;have hm8:=ht.n8
 have hmm:(tR s).1.sT.length*t.sT.length≤10000*10000:=Nat.mul_le_mul hT1 ht1
 refine fcC (bO 0 J) (fun hS0=> ?_)
 obtain⟨hsa0,hss0,hse0⟩:=sLn hS0
 refine fcC (bO 1 J) (fun hS1=> ?_)
 obtain⟨hsa1,hss1,hse1⟩:=sLn hS1
 refine sq (rg (bx (key:=2) (cs:= [sl 1 rE_ s.aC,sl 2 sE s.sT]) J fun b2=>(bx (key:=3) (cs:= [sl 1 rE_ t.aC,sl 2 sE t.sT]) J fun b3=>(ag (nl (th (sq (rg (lPA J J T.aD J (aO (φs:= [agg [sl 1 rE_ s.aC,sl 2 sE s.sT]]) (φ:=tup [agg [sl 1 rE_ ((tR s).1).aC,sl 2 sE ((tR s).1).sT],sl 1 nE ((tR s).2)]) ⟨J,tV⟩ (divr.Jp s aS) T.Rn (mv (xt J J (xt J J (sPA (cs':= [sl 1 rE_ ((tR s).1).aC,sl 2 sE ((tR s).1).sT]) J J J T.aD J J (nl (th (sq (rg (fP J T.aY (lP J J J T.bI (fc (aL 21 J) fun hm21=>(lnF J T.bU (mk (key:=23) (m:=((tR s).1).sT.length) (enc:=cF) (y:=(.slice none 0 0:Value)) J J T.Ko (eC eZ) mL mL fun v23=>(ag (nl (th (sq (sq (rg (nbB 231 ((tR s).1.sT.length) 4 1 blE (mv (lnO J J T.lD (mv (nl (th (bk ?_))))))))))))))))))))))))))))))))))))
 have hI0_0:0≤(List.replicate ((tR s).1).sT.length (.slice none 0 0:Value)).length:=by
  first|omega|simp
 have hI0_1:(List.replicate ((tR s).1).sT.length (.slice none 0 0:Value)).length=(tR s).1.sT.length∧(List.replicate ((tR s).1.sT.length) [])=List.replicate 0 (List.replicate t.sT.length false)++List.replicate ((tR s).1.sT.length- 0) []:=by
  exact⟨by simp,by simp⟩
 refine lp (κ:=Nat × (List Value) × (List (List Bool))) (fun p=> [(2,ptr 2 b2 0),(3,ptr 3 b3 0),(4,int 0),(5,osl 23 v23),(25,int ((List.replicate ((tR s).1).sT.length (.slice none 0 0:Value)).length:Int)),(26,int (p.1:Int))]) (fun p=> [(2,cell b2 [sl 1 rE_ ((tR s).1).aC,sl 2 sE ((tR s).1).sT]),(3,cell b3 [sl 1 rE_ t.aC,sl 2 sE t.sT]),(23,own v23 143 1 cF p.2.1),(231,aW p.2.1 4 1 blE p.2.2 none)]) (fun p=>(p.1≤(List.replicate ((tR s).1).sT.length (.slice none 0 0:Value)).length)∧(p.2.1.length=(tR s).1.sT.length∧p.2.2=List.replicate p.1 (List.replicate t.sT.length false)++List.replicate ((tR s).1.sT.length- p.1) [])) (fun p=>(List.replicate ((tR s).1).sT.length (.slice none 0 0:Value)).length- p.1) ⟨0,List.replicate ((tR s).1).sT.length (.slice none 0 0:Value),List.replicate ((tR s).1.sT.length) []⟩ ⟨hI0_0,hI0_1⟩ ⟨id,id,id,id,id,id,tV⟩ ⟨rI,rI,rI,rI,tV⟩ ?_
 intro⟨k,us,mt⟩ hG0
 obtain⟨hk0,⟨hul,hmt⟩⟩:(k≤(List.replicate ((tR s).1).sT.length (.slice none 0 0:Value)).length)∧(us.length=(tR s).1.sT.length∧mt=List.replicate k (List.replicate t.sT.length false)++List.replicate ((tR s).1.sT.length- k) []):=hG0
 show Ct _ _ _ _ [(2,ptr 2 b2 0),(3,ptr 3 b3 0),(4,int 0),(5,osl 23 v23),(25,int ((List.replicate ((tR s).1).sT.length (.slice none 0 0:Value)).length:Int)),(26,int (k:Int))] [(2,cell b2 [sl 1 rE_ ((tR s).1).aC,sl 2 sE ((tR s).1).sT]),(3,cell b3 [sl 1 rE_ t.aC,sl 2 sE t.sT]),(23,own v23 143 1 cF us),(231,aW us 4 1 blE mt none)] _
 have hml:mt.length=(tR s).1.sT.length:=by rw[hmt];simp;omega
 refine sq (rg (bi J J aN (nl (th (sq ?_)))))
 refine cd J (fun hc0=> ?_) (fun hc0=> ?_)
 ·try simp at hc0
  refine sk (th (sq (bk (sq (rg (mv (ag (nl (th (AE 231 2399 k J J (by decide) (gK O) (gK O) (rg (mv (mv (fP J T.aY (lP J J J T.bI (fc (aL 32 J) fun hm32=>(lnF J T.bU (mk (key:=34) (m:=t.sT.length) (enc:=blE) (y:=false) J J T.tX (eC eZ) mL mL fun v34=>(iO J J J T.lD O O (sOO (k2:=34) J J gZ J T.gS gB J (y':=v34) J (nl (eb (th (rg (gvB (us:=us) 231 34 k J J (by decide) O (bi J J (aK i6) (mv (nl ?_))))))))))))))))))))))))))))
  have hN0:(k+1)≤(List.replicate ((tR s).1).sT.length (.slice none 0 0:Value)).length:=by
   first|omega|simp_all
  have hN1:(us.set k v34).length=(tR s).1.sT.length∧(mt.set k (List.replicate t.sT.length false))=List.replicate (k+1) (List.replicate t.sT.length false)++List.replicate ((tR s).1.sT.length- (k+1)) []:=by
   refine⟨by simpa using hul,?_⟩
   rw[hmt];exact Jt _ _ hc0
  exact ln (⟨k+1,us.set k v34,mt.set k (List.replicate t.sT.length false)⟩:Nat × (List Value) × (List (List Bool))) ⟨hN0,hN1⟩ dO ⟨id,id,id,id,id,id,tV⟩ ⟨rI,rI,rI,rI,tV⟩
 ·try simp at hc0
  have hmz:mt=mat (tR s).1.sT.length t.sT.length []:=by rw[hmt,show k=(tR s).1.sT.length by omega,Nat.sub_self,GV];simp
  have hr0:(ix mt 0).length=t.sT.length:=by rw[hmz];exact pG O
  refine ex (xt_ (xt_ (xb (th (sq (rg (mv (iO J J J T.lD O O (lO J J gB J T.gS (tkB 231 2310 0 J J (by decide) (gK (k:=0) O) (gK (k:=0) O) (kn 39 (osl 2310 (ix us 0)) J dY (iO J J J T.fJ O O (sO (φ:=bl true) J J J T.eB gB J (y':=true) J (nl (th (sq (rg (gvU 231 2310 0 J J (by decide) (gK (k:=0) O) (bd (css:= [(0,_),(1,_)]) T.sW (eC (eC eZ)) ⟨J,J,p1 (φ:=int 0) J,⟨J,J,p1 (φ:=int 0) J,tV⟩⟩ (bsE (enc:=pE) (xs:= [(0,0)]) (css:= [[int 0,int 0]]) T.mD ⟨J,J,pA (cs:= [int 0,int 0]) J,tV⟩ J J J J (ag (nl (th (sq (sq (rg (ag (nl (th (bk ?_))))))))))))))))))))))))))))))
  have hI1_0:(mt.set 0 ((ix mt 0).set 0 true))=mat (tR s).1.sT.length t.sT.length ([(0,0)]:List (Int × Int))∧LI (jG (tR s).1 t) (kJ (tR s).1 t) ([(0,0)]:List (Int × Int)) ([(0,0)]:List (Int × Int))∧0≤(0:Int)∧(0:Int)+((min ([(0,0)]:List (Int × Int)).length 1:Nat):Int)≤(([(0,0)]:List (Int × Int)).length:Int):=by
   refine⟨?_,Jq,O,by simp⟩
   rw[hmz]
   exact zI (vis:= []) (x:=0) (y:=0) O O
  refine lp (κ:=(List (List Bool)) × (List (Int × Int)) × (List (Int × Int)) × Int) (fun p=> [(2,ptr 2 b2 0),(3,ptr 3 b3 0),(5,osl 23 v23),(7,sl 2 pE p.2.2.1),(8,int p.2.2.2)]) (fun p=> [(2,cell b2 [sl 1 rE_ ((tR s).1).aC,sl 2 sE ((tR s).1).sT]),(3,cell b3 [sl 1 rE_ t.aC,sl 2 sE t.sT]),(23,own v23 143 1 cF us),(231,aW us 4 1 blE p.1 none)]) (fun p=>p.1=mat (tR s).1.sT.length t.sT.length p.2.1∧LI (jG (tR s).1 t) (kJ (tR s).1 t) p.2.1 p.2.2.1∧0≤p.2.2.2∧p.2.2.2+((min p.2.2.1.length 1:Nat):Int)≤(p.2.1.length:Int)) (fun p=>(tR s).1.sT.length*t.sT.length- p.2.1.length+min p.2.2.1.length 1) ⟨mt.set 0 ((ix mt 0).set 0 true),([(0,0)]:List (Int × Int)),([(0,0)]:List (Int × Int)),(0:Int)⟩ hI1_0 ⟨id,id,id,id,id,tV⟩ ⟨rI,rI,rI,rI,tV⟩ ?_
  intro⟨mt1,vis,now,dp⟩ hG1
  obtain⟨hmt1,hLI,hd0,hdp⟩:mt1=mat (tR s).1.sT.length t.sT.length vis∧LI (jG (tR s).1 t) (kJ (tR s).1 t) vis now∧0≤dp∧dp+((min now.length 1:Nat):Int)≤(vis.length:Int):=hG1
  show Ct _ _ _ _ [(2,ptr 2 b2 0),(3,ptr 3 b3 0),(5,osl 23 v23),(7,sl 2 pE now),(8,int dp)] [(2,cell b2 [sl 1 rE_ ((tR s).1).aC,sl 2 sE ((tR s).1).sT]),(3,cell b3 [sl 1 rE_ t.aC,sl 2 sE t.sT]),(23,own v23 143 1 cF us),(231,aW us 4 1 blE mt1 none)] _
  have hv1:=jM (tR s).1.sT.length t.sT.length vis hLI.nd (fun p hp=>oI hT ht hU (hLI.rch p hp))
  have hml1:mt1.length=(tR s).1.sT.length:=by rw[hmt1];exact sK _ _ _
  refine sq (sq (rg (mv (fc (aL 43 J) fun hm43=>(lnF J T.pR (bi J J gW (nl (th ?_))))))))
  refine cd J (fun hc1=> ?_) (fun hc1=> ?_)
  ·try simp at hc1
   refine sk (th (sq (bk (sq (rg (nw 9 84 2 pE (ag (rtg (key:=9) 9 J (nl (th (sq (sq (rg (mv (lnF J T.pR (mv (nl (th (bk ?_)))))))))))))))))))
   have hI2_0:0≤now.length:=by
    first|omega|simp
   have hI2_1:mt1=mat (tR s).1.sT.length t.sT.length vis∧LI (jG (tR s).1 t) (kJ (tR s).1 t) vis (now.drop 0++([]:List (Int × Int)))∧vis.length=vis.length+([]:List (Int × Int)).length:=by
    exact⟨hmt1,by simpa using hLI,rfl⟩
   refine lp (κ:=Nat × (List (List Bool)) × Value × (List (Int × Int)) × (List (Int × Int))) (fun p=> [(2,ptr 2 b2 0),(3,ptr 3 b3 0),(5,osl 23 v23),(7,sl 2 pE now),(8,int dp),(9,osl 9 p.2.2.1),(48,sl 2 pE now),(49,int (now.length:Int)),(50,int (p.1:Int))]) (fun p=> [(2,cell b2 [sl 1 rE_ ((tR s).1).aC,sl 2 sE ((tR s).1).sT]),(3,cell b3 [sl 1 rE_ t.aC,sl 2 sE t.sT]),(9,own p.2.2.1 84 2 pE p.2.2.2.1),(23,own v23 143 1 cF us),(231,aW us 4 1 blE p.2.1 none)]) (fun p=>(p.1≤now.length)∧(p.2.1=mat (tR s).1.sT.length t.sT.length p.2.2.2.2∧LI (jG (tR s).1 t) (kJ (tR s).1 t) p.2.2.2.2 (now.drop p.1++p.2.2.2.1)∧p.2.2.2.2.length=vis.length+p.2.2.2.1.length)) (fun p=>now.length- p.1) ⟨0,mt1,(.slice none 0 0),([]:List (Int × Int)),vis⟩ ⟨hI2_0,hI2_1⟩ ⟨id,id,id,id,id,id,id,id,id,tV⟩ ⟨rI,rI,rI,rI,rI,tV⟩ ?_
   intro⟨k2,mt2,v9x,nx,vis2⟩ hG2
   obtain⟨hk2,⟨hmt2,hLI2,hvl2⟩⟩:(k2≤now.length)∧(mt2=mat (tR s).1.sT.length t.sT.length vis2∧LI (jG (tR s).1 t) (kJ (tR s).1 t) vis2 (now.drop k2++nx)∧vis2.length=vis.length+nx.length):=hG2
   show Ct _ _ _ _ [(2,ptr 2 b2 0),(3,ptr 3 b3 0),(5,osl 23 v23),(7,sl 2 pE now),(8,int dp),(9,osl 9 v9x),(48,sl 2 pE now),(49,int (now.length:Int)),(50,int (k2:Int))] [(2,cell b2 [sl 1 rE_ ((tR s).1).aC,sl 2 sE ((tR s).1).sT]),(3,cell b3 [sl 1 rE_ t.aC,sl 2 sE t.sT]),(9,own v9x 84 2 pE nx),(23,own v23 143 1 cF us),(231,aW us 4 1 blE mt2 none)] _
   have hv2:=jM (tR s).1.sT.length t.sT.length vis2 hLI2.nd (fun p hp=>oI hT ht hU (hLI2.rch p hp))
   have hml2:mt2.length=(tR s).1.sT.length:=by rw[hmt2];exact sK _ _ _
   refine sq (rg (bi J J aN (nl (th (sq ?_)))))
   refine cd J (fun hc2=> ?_) (fun hc2=> ?_)
   ·try simp at hc2
    have hpv:ix now k2∈vis2:=hLI2.opn _ (List.mem_append.2 (.inl (by rw[zH O];exact List.mem_cons_self)))
    have hpr:=hLI2.rch _ hpv
    obtain⟨hp0,hp1,hp2,hp3⟩:=oI hT ht hU hpr
    have hxl:=(hT.st (ix now k2).1.toNat O).len
    have hyl:=(ht.st (ix now k2).2.toNat O).len
    refine sk (th (sq (bk (sq (rg (iF J J T.pR O gB (lFA J T.eY (Nat.le_of_ble_eq_true J) (al (key:=11) T.z84 (eC (eC eZ)) fun b11=>(sPA (cs':= [int ((ix now k2).1),int ((ix now k2).2)]) J J J T.eY J J (nl (th (sq (sq (dr (nh:=13) [0,1,0,4,15,31,0,64,0,256,960,1984,4095] T.mixed kR ?_))))))))))))))
    refine st_ J (fun _ _ _ gq kq=>fP (gq.1.trans J) T.aY kq) ?_
    refine st_ J (fun _ _ _ gq kq=>lP (gq.1.trans J) J J T.bI kq) ?_
    refine st_ J (fun _ _ _ gq kq=>iPA (gq.1.trans J) J T.fA T.aF J kq) ?_
    refine st_ J (fun _ _ _ gq kq=>lP (gq.1.trans J) J J T.aF kq) ?_
    refine st_ J (fun _ _ _ gq kq=>iF (gq.1.trans J) (gq.2.1.trans J) T.bU O gB kq) ?_
    refine st_ J (fun _ _ _ gq kq=>lFA (gq.1.trans J) T.cP (Nat.le_of_ble_eq_true J) kq) ?_
    refine st_ J (fun _ _ _ gq kq=>fP (gq.1.trans J) T.aY kq) ?_
    refine st_ J (fun _ _ _ gq kq=>lP (gq.1.trans J) J J T.bI kq) ?_
    refine st_ J (fun _ _ _ gq kq=>iPA (gq.1.trans J) J T.fA T.aF J kq) ?_
    refine st_ J (fun _ _ _ gq kq=>lP (gq.1.trans J) J J T.aF kq) ?_
    refine st_ J (fun _ _ _ gq kq=>iF (gq.1.trans J) (gq.2.1.trans J) T.bU O gB kq) ?_
    refine st_ J (fun _ _ _ gq kq=>lFA (gq.1.trans J) T.cP (Nat.le_of_ble_eq_true J) kq) ?_
    refine st_ J (fun _ _ _ gq kq=>aO (φs:= [agg [sl 1 nE (ix ((tR s).1).sT ((ix now k2).1).toNat).aP,sl 1 nE (ix ((tR s).1).sT ((ix now k2).1).toNat).next],agg [sl 1 nE (ix t.sT ((ix now k2).2).toNat).aP,sl 1 nE (ix t.sT ((ix now k2).2).toNat).next]]) (φ:=bl (vH (ix ((tR s).1).sT ((ix now k2).1).toNat) (ix t.sT ((ix now k2).2).toNat))) ⟨(gq.1.trans J),(gq.2.1.trans J),tV⟩ (divs.PF (ix ((tR s).1).sT ((ix now k2).1).toNat) (ix t.sT ((ix now k2).2).toNat)) T.Ve kq) ?_
    refine pn (nl (th ?_))
    refine cd J (fun hc3=> ?_) (fun hc3=> ?_)
    ·try simp at hc3
     refine sq (rg (mv (ag (nl (th (rt (rt_ (rb (rt_ (rt_ (rb (rt_ (rb (rt_ (rt_ (rb (rt_ ?_)))))))))))))))))
     exact rE ⟨dp,⟨fun h=>absurd h O,fun h=>absurd ((EC hs ht).2 h) (Ro hLI2 hpv (ED.1 hc3))⟩⟩ [.tmp 4] J [int dp] ⟨.tmp J,tV⟩ J trivial eX
    ·try simp at hc3
     have hnb:¬jG (tR s).1 t (ix now k2):=fun h=>by have h2:=ED.2 h;exact absurd h2 (by rw[hc3];decide)
     refine sk (th (sq (rg (fP J T.aY (lP J J J T.bI (iPA J J T.fA T.aF J (lP J J J T.aF (iF J J T.bU O gB (fF J T.bQ (lF J J T.aV (fc (aL 74 J) fun hm74=>(lnF J T.aM (mv (nl (th (bk ?_))))))))))))))))
     have hI3_0:0≤(ix ((tR s).1).sT ((ix now k2).1).toNat).next.length:=by
      first|omega|simp
     have hI3_1:mt2=mat (tR s).1.sT.length t.sT.length vis2∧LI (jG (tR s).1 t) (kJ (tR s).1 t) vis2 (now.drop k2++nx)∧vis2.length=vis.length+nx.length∧∀a,a<0→0≤ix (ix (tR s).1.sT (ix now k2).1.toNat).next a→(ix (ix (tR s).1.sT (ix now k2).1.toNat).next a,ix (ix t.sT (ix now k2).2.toNat).next a)∈vis2:=by
      exact⟨hmt2,hLI2,hvl2,fun a ha=>absurd ha O⟩
     refine lp (κ:=Nat × (List (List Bool)) × Value × (List (Int × Int)) × (List (Int × Int))) (fun p=> [(2,ptr 2 b2 0),(3,ptr 3 b3 0),(5,osl 23 v23),(7,sl 2 pE now),(8,int dp),(9,osl 9 p.2.2.1),(11,ptr 11 b11 0),(48,sl 2 pE now),(49,int (now.length:Int)),(50,int (k2:Int)),(74,sl 1 nE (ix ((tR s).1).sT ((ix now k2).1).toNat).next),(75,int ((ix ((tR s).1).sT ((ix now k2).1).toNat).next.length:Int)),(76,int (p.1:Int))]) (fun p=> [(2,cell b2 [sl 1 rE_ ((tR s).1).aC,sl 2 sE ((tR s).1).sT]),(3,cell b3 [sl 1 rE_ t.aC,sl 2 sE t.sT]),(9,own p.2.2.1 84 2 pE p.2.2.2.1),(11,cell b11 [int ((ix now k2).1),int ((ix now k2).2)]),(23,own v23 143 1 cF us),(231,aW us 4 1 blE p.2.1 none)]) (fun p=>(p.1≤(ix ((tR s).1).sT ((ix now k2).1).toNat).next.length)∧(p.2.1=mat (tR s).1.sT.length t.sT.length p.2.2.2.2∧LI (jG (tR s).1 t) (kJ (tR s).1 t) p.2.2.2.2 (now.drop k2++p.2.2.2.1)∧p.2.2.2.2.length=vis.length+p.2.2.2.1.length∧∀a,a<p.1→0≤ix (ix (tR s).1.sT (ix now k2).1.toNat).next a→(ix (ix (tR s).1.sT (ix now k2).1.toNat).next a,ix (ix t.sT (ix now k2).2.toNat).next a)∈p.2.2.2.2)) (fun p=>(ix ((tR s).1).sT ((ix now k2).1).toNat).next.length- p.1) ⟨0,mt2,v9x,nx,vis2⟩ ⟨hI3_0,hI3_1⟩ ⟨id,id,id,id,id,id,id,id,id,id,id,id,id,tV⟩ ⟨rI,rI,rI,rI,rI,rI,tV⟩ ?_
     intro⟨k3,mt3,v9y,nx3,vis3⟩ hG3
     obtain⟨hk3,⟨hmt3,hLI3,hvl3,hdn⟩⟩:(k3≤(ix ((tR s).1).sT ((ix now k2).1).toNat).next.length)∧(mt3=mat (tR s).1.sT.length t.sT.length vis3∧LI (jG (tR s).1 t) (kJ (tR s).1 t) vis3 (now.drop k2++nx3)∧vis3.length=vis.length+nx3.length∧∀a,a<k3→0≤ix (ix (tR s).1.sT (ix now k2).1.toNat).next a→(ix (ix (tR s).1.sT (ix now k2).1.toNat).next a,ix (ix t.sT (ix now k2).2.toNat).next a)∈vis3):=hG3
     show Ct _ _ _ _ [(2,ptr 2 b2 0),(3,ptr 3 b3 0),(5,osl 23 v23),(7,sl 2 pE now),(8,int dp),(9,osl 9 v9y),(11,ptr 11 b11 0),(48,sl 2 pE now),(49,int (now.length:Int)),(50,int (k2:Int)),(74,sl 1 nE (ix ((tR s).1).sT ((ix now k2).1).toNat).next),(75,int ((ix ((tR s).1).sT ((ix now k2).1).toNat).next.length:Int)),(76,int (k3:Int))] [(2,cell b2 [sl 1 rE_ ((tR s).1).aC,sl 2 sE ((tR s).1).sT]),(3,cell b3 [sl 1 rE_ t.aC,sl 2 sE t.sT]),(9,own v9y 84 2 pE nx3),(11,cell b11 [int ((ix now k2).1),int ((ix now k2).2)]),(23,own v23 143 1 cF us),(231,aW us 4 1 blE mt3 none)] _
     have hv3:=jM (tR s).1.sT.length t.sT.length vis3 hLI3.nd (fun p hp=>oI hT ht hU (hLI3.rch p hp))
     have hml3:mt3.length=(tR s).1.sT.length:=by rw[hmt3];exact sK _ _ _
     refine sq (rg (bi J J aN (nl (th (sq ?_)))))
     refine cd J (fun hc4=> ?_) (fun hc4=> ?_)
     ·try simp at hc4
      refine sk (th (sq (bk (sq (rg (mv (iF J J T.aM O gB (lF J J T.aF (ag (ag (nl (th (sq (sq (rg (mv (bi J J aN (nl (th ?_)))))))))))))))))))
      refine cd J (fun hc5=> ?_) (fun hc5=> ?_)
      ·try simp at hc5
       refine ex (xt_ (xb (th (rg (bi J J (aK i6) (mv (nl ?_)))))))
       have hN0:(k3+1)≤(ix ((tR s).1).sT ((ix now k2).1).toNat).next.length:=by
        first|omega|simp_all
       have hN1:mt3=mat (tR s).1.sT.length t.sT.length vis3∧LI (jG (tR s).1 t) (kJ (tR s).1 t) vis3 (now.drop k2++nx3)∧vis3.length=vis.length+nx3.length∧∀a,a<(k3+1)→0≤ix (ix (tR s).1.sT (ix now k2).1.toNat).next a→(ix (ix (tR s).1.sT (ix now k2).1.toNat).next a,ix (ix t.sT (ix now k2).2.toNat).next a)∈vis3:=by
        refine⟨hmt3,hLI3,hvl3,fun a ha h0=> ?_⟩
        by_cases e:a=k3
        ·subst e;omega
        ·exact hdn a O h0
       exact ln (⟨k3+1,mt3,v9y,nx3,vis3⟩:Nat × (List (List Bool)) × Value × (List (Int × Int)) × (List (Int × Int))) ⟨hN0,hN1⟩ dO ⟨id,id,id,id,id,id,id,id,id,id,id,id,id,tV⟩ ⟨rI,rI,rI,rI,rI,rI,tV⟩
      ·try simp at hc5
       have hka:k3<(tR s).1.aC.length:=by omega
       have hga:=WalkM.vD hT ht (x:=(ix now k2).1.toNat) (y:=(ix now k2).2.toNat) O O (fun u hu=>Classical.byContradiction fun hn=>hnb ⟨u,hu,hn⟩) ((hU _ O k3 hka).1 (by dsimp only [nxt];omega))
       obtain⟨hga1,hga2,hga3⟩:=hga
       dsimp only [nxt] at hga2 hga3
       have hrq:Rch (jG (tR s).1 t) (kJ (tR s).1 t) (ix (ix (tR s).1.sT (ix now k2).1.toNat).next k3,ix (ix t.sT (ix now k2).2.toNat).next k3):=Rch.step hpr hnb ⟨k3,by dsimp only [nxt];omega,by dsimp only [nxt];omega,rfl⟩
       have hqn:=((hT.st (ix now k2).1.toNat O).nx k3 hka).2
       have hrl:(ix mt3 (ix (ix (tR s).1.sT (ix now k2).1.toNat).next k3).toNat).length=t.sT.length:=by rw[hmt3];exact pG O
       have hmq:ix (ix mt3 (ix (ix (tR s).1.sT (ix now k2).1.toNat).next k3).toNat) (ix (ix t.sT (ix now k2).2.toNat).next k3).toNat=decide ((ix (ix (tR s).1.sT (ix now k2).1.toNat).next k3,ix (ix t.sT (ix now k2).2.toNat).next k3)∈vis3):=by
        rw[hmt3,Nh O O,Int.toNat_of_nonneg O,Int.toNat_of_nonneg O]
       refine sk (th (sq (rg (mv (fP J T.aY (lP J J J T.bI (iPA J J T.fA T.aF J (lP J J J T.aF (iF J J T.bU O gB (fF J T.bQ (lF J J T.aV (mv (iF J J T.aM O gB (lF J J T.aF (bd (css:= [(0,_),(1,_)]) T.sW (eC (eC eZ)) ⟨J,J,p1 (φ:=int (ix (ix ((tR s).1).sT ((ix now k2).1).toNat).next k3)) J,⟨J,J,p1 (φ:=int (ix (ix t.sT ((ix now k2).2).toNat).next k3)) J,tV⟩⟩ (al (key:=14) T.z84 (eC (eC eZ)) fun b14=>(sPA (cs':= [int (ix (ix ((tR s).1).sT ((ix now k2).1).toNat).next k3),int (ix (ix t.sT ((ix now k2).2).toNat).next k3)]) J J J T.eY J J (nl (th (sq (AE 231 2310 (ix (ix (tR s).1.sT (ix now k2).1.toNat).next k3).toNat J J (by decide) (gK O) (gK O) (dr (nh:=10) [0,0,2,7,15,0,32,127,255,511] T.mixed kR ?_))))))))))))))))))))))
       refine st_ J (fun _ _ _ gq kq=>mv' (gq.1.trans J) kq) ?_
       refine st_ J (fun _ _ _ gq kq=>iPA (gq.1.trans J) J T.fA T.aF J kq) ?_
       refine st_ J (fun _ _ _ gq kq=>lP (gq.1.trans J) J J T.aF kq) ?_
       refine st_ J (fun _ _ _ gq kq=>iO (gq.1.trans J) J (gq.2.1.trans J) T.lD O O kq) ?_
       refine st_ J (fun _ _ _ gq kq=>lO (gq.1.trans J) J gB J T.gS kq) ?_
       refine st_ J (fun _ _ _ gq kq=>iPA (gq.1.trans J) J T.fA T.aF J kq) ?_
       refine st_ J (fun _ _ _ gq kq=>lP (gq.1.trans J) J J T.aF kq) ?_
       refine st_ J (fun _ _ _ gq kq=>iO ((gq.1.trans J).trans (gZ (key:=2310)).symm) J (gq.2.1.trans J) T.fJ O O kq) ?_
       refine st_ J (fun _ _ _ gq kq=>lO (gq.1.trans J) J gB J T.eB kq) ?_
       refine st_ J (fun _ _ _ gq kq=>no (gq.1.trans J) kq) ?_
       refine pn (nl (th ?_))
       refine cd J (fun hc6=> ?_) (fun hc6=> ?_)
       ·skip
        have hnq:(ix (ix (tR s).1.sT (ix now k2).1.toNat).next k3,ix (ix t.sT (ix now k2).2.toNat).next k3)∉vis3:=by
                  intro h
                  rw[hmq] at hc6
                  simp[h] at hc6
        refine sq (dr (nh:=8) [0,0,2,7,15,0,32,127,255] T.mixed kR ?_)
        refine st_ J (fun _ _ _ gq kq=>mv' (gq.1.trans J) kq) ?_
        refine st_ J (fun _ _ _ gq kq=>iPA (gq.1.trans J) J T.fA T.aF J kq) ?_
        refine st_ J (fun _ _ _ gq kq=>lP (gq.1.trans J) J J T.aF kq) ?_
        refine st_ J (fun _ _ _ gq kq=>iO (gq.1.trans J) J (gq.2.1.trans J) T.lD O O kq) ?_
        refine st_ J (fun _ _ _ gq kq=>lO (gq.1.trans J) J gB J T.gS kq) ?_
        refine st_ J (fun _ _ _ gq kq=>iPA (gq.1.trans J) J T.fA T.aF J kq) ?_
        refine st_ J (fun _ _ _ gq kq=>lP (gq.1.trans J) J J T.aF kq) ?_
        refine st_ J (fun _ _ _ gq kq=>iO ((gq.1.trans J).trans (gZ (key:=2310)).symm) J (gq.2.1.trans J) T.fJ O O kq) ?_
        refine pn (sO (φ:=bl true) J J J T.eB gB J (y':=true) J (nl (th (rg (gvU 231 2310 (ix (ix (tR s).1.sT (ix now k2).1.toNat).next k3).toNat J J (by decide) (gK O) (mv (lPA J J T.eY J (bs (css:= [[int (ix (ix ((tR s).1).sT ((ix now k2).1).toNat).next k3),int (ix (ix t.sT ((ix now k2).2).toNat).next k3)]]) T.mD ⟨J,J,pA (cs:= [int (ix (ix ((tR s).1).sT ((ix now k2).1).toNat).next k3),int (ix (ix t.sT ((ix now k2).2).toNat).next k3)]) J,tV⟩ J J J (ap (key:=9) (zs:= [(ix (ix ((tR s).1).sT ((ix now k2).1).toNat).next k3,ix (ix t.sT ((ix now k2).2).toNat).next k3)]) cH J J J T.mD (by unfold aU at*;simp;omega) (by unfold aU at*;simp;omega) fun v116=>(ag (nl (eb (th (rg (bi J J (aK i6) (mv (nl ?_)))))))))))))))))
        have hN0:(k3+1)≤((ix (((tR s).1).sT) (((ix now k2).1).toNat)).next).length:=by
                  first|omega|simp_all
        have hN1:(mt3.set ((ix (ix (tR s).1.sT (ix now k2).1.toNat).next k3).toNat) ((ix mt3 ((ix (ix (tR s).1.sT (ix now k2).1.toNat).next k3).toNat)).set ((ix ((ix t.sT (((ix now k2).2).toNat)).next) k3).toNat) true))=mat (tR s).1.sT.length t.sT.length (vis3++ [(ix (ix (tR s).1.sT (ix now k2).1.toNat).next k3,ix (ix t.sT (ix now k2).2.toNat).next k3)])∧LI (jG (tR s).1 t) (kJ (tR s).1 t) (vis3++ [(ix (ix (tR s).1.sT (ix now k2).1.toNat).next k3,ix (ix t.sT (ix now k2).2.toNat).next k3)]) (now.drop k2++(nx3++ [(ix ((ix (((tR s).1).sT) (((ix now k2).1).toNat)).next) k3,ix ((ix t.sT (((ix now k2).2).toNat)).next) k3)]))∧(vis3++ [(ix (ix (tR s).1.sT (ix now k2).1.toNat).next k3,ix (ix t.sT (ix now k2).2.toNat).next k3)]).length=vis.length+(nx3++ [(ix ((ix (((tR s).1).sT) (((ix now k2).1).toNat)).next) k3,ix ((ix t.sT (((ix now k2).2).toNat)).next) k3)]).length∧∀a,a<(k3+1)→0≤ix (ix (tR s).1.sT (ix now k2).1.toNat).next a→(ix (ix (tR s).1.sT (ix now k2).1.toNat).next a,ix (ix t.sT (ix now k2).2.toNat).next a)∈(vis3++ [(ix (ix (tR s).1.sT (ix now k2).1.toNat).next k3,ix (ix t.sT (ix now k2).2.toNat).next k3)]):=by
                  refine⟨?_,?_,by simp;omega,fun a ha h0=> ?_⟩
                  ·have hms:=zI (n:=(tR s).1.sT.length) (m:=t.sT.length) (vis:=vis3) (x:=(ix (ix (tR s).1.sT (ix now k2).1.toNat).next k3).toNat) (y:=(ix (ix t.sT (ix now k2).2.toNat).next k3).toNat) O O
                   rw[Int.toNat_of_nonneg O,Int.toNat_of_nonneg O,←hmt3] at hms
                   exact hms
                  ·have:=Jr hLI3 hnq hrq
                   rwa [List.append_assoc] at this
                  ·by_cases e:a=k3
                   ·subst e;exact List.mem_append.2 (.inr (List.mem_singleton.2 rfl))
                   ·exact List.mem_append.2 (.inl (hdn a O h0))
        exact ln (⟨k3+1,mt3.set (ix (ix (tR s).1.sT (ix now k2).1.toNat).next k3).toNat ((ix mt3 (ix (ix (tR s).1.sT (ix now k2).1.toNat).next k3).toNat).set (ix (ix t.sT ((ix now k2).2).toNat).next k3).toNat true),v116,nx3++ [(ix (ix ((tR s).1).sT ((ix now k2).1).toNat).next k3,ix (ix t.sT ((ix now k2).2).toNat).next k3)],vis3++ [(ix (ix (tR s).1.sT (ix now k2).1.toNat).next k3,ix (ix t.sT (ix now k2).2.toNat).next k3)]⟩:Nat × (List (List Bool)) × Value × (List (Int × Int)) × (List (Int × Int))) ⟨hN0,hN1⟩ dO ⟨id,id,id,id,id,id,id,id,id,id,id,id,id,tV⟩ ⟨rI,rI,rI,rI,rI,rI,tV⟩
       ·skip
        have hyq:(ix (ix (tR s).1.sT (ix now k2).1.toNat).next k3,ix (ix t.sT (ix now k2).2.toNat).next k3)∈vis3:=by
                  rw[hmq] at hc6
                  simpa using hc6
        refine Oz 231 2310 (ix (ix (tR s).1.sT (ix now k2).1.toNat).next k3).toNat rfl rfl (by decide) (gK O) (gK O) (sk (eb (th (rg (bi rfl rfl (aK i6) (mv (nl ?_)))))))
        have hN0:(k3+1)≤((ix (((tR s).1).sT) (((ix now k2).1).toNat)).next).length:=by
                  first|omega|simp_all
        have hN1:mt3=mat (tR s).1.sT.length t.sT.length vis3∧LI (jG (tR s).1 t) (kJ (tR s).1 t) vis3 (now.drop k2++nx3)∧vis3.length=vis.length+nx3.length∧∀a,a<(k3+1)→0≤ix (ix (tR s).1.sT (ix now k2).1.toNat).next a→(ix (ix (tR s).1.sT (ix now k2).1.toNat).next a,ix (ix t.sT (ix now k2).2.toNat).next a)∈vis3:=by
                  refine⟨hmt3,hLI3,hvl3,fun a ha h0=> ?_⟩
                  by_cases e:a=k3
                  ·subst e;exact hyq
                  ·exact hdn a O h0
        exact ln (⟨k3+1,mt3,v9y,nx3,vis3⟩:Nat × (List (List Bool)) × Value × (List (Int × Int)) × (List (Int × Int))) ⟨hN0,hN1⟩ dO ⟨id,id,id,id,id,id,id,id,id,id,id,id,id,tV⟩ ⟨rI,rI,rI,rI,rI,rI,tV⟩
     ·try simp at hc4
      refine ex (xt_ (xt_ (xb (eb (th (rg (bi J J (aK i6) (mv (nl ?_)))))))))
      have hN0:(k2+1)≤now.length:=by
       first|omega|simp_all
      have hN1:mt3=mat (tR s).1.sT.length t.sT.length vis3∧LI (jG (tR s).1 t) (kJ (tR s).1 t) vis3 (now.drop (k2+1)++nx3)∧vis3.length=vis.length+nx3.length:=by
       refine⟨hmt3,?_,hvl3⟩
       have h3:=hLI3
       rw[zH O] at h3
       refine Nf h3 ⟨hnb,?_⟩
       rintro _ ⟨a,ha,h0,rfl⟩
       exact hdn a (by dsimp only [nxt] at ha;omega) h0
      exact ln (⟨k2+1,mt3,v9y,nx3,vis3⟩:Nat × (List (List Bool)) × Value × (List (Int × Int)) × (List (Int × Int))) ⟨hN0,hN1⟩ dO ⟨id,id,id,id,id,id,id,id,id,tV⟩ ⟨rI,rI,rI,rI,rI,tV⟩
   ·try simp at hc2
    refine ex (xt_ (xt_ (xb (th (rg (fz 9 9 J J (mv (ag (nl (eb (th (rg (mv (bi J J (aK i6) (ag (nl ?_))))))))))))))))
    have hN0:mt2=mat (tR s).1.sT.length t.sT.length vis2∧LI (jG (tR s).1 t) (kJ (tR s).1 t) vis2 nx∧0≤(dp+1)∧(dp+1)+((min nx.length 1:Nat):Int)≤(vis2.length:Int):=by
     refine⟨hmt2,?_,O,?_⟩
     ·rw[show now.drop k2= [] from List.drop_eq_nil_of_le O] at hLI2
      simpa using hLI2
     ·omega
    exact ln (⟨mt2,vis2,nx,dp+1⟩:(List (List Bool)) × (List (Int × Int)) × (List (Int × Int)) × Int) hN0 dO ⟨id,id,id,id,id,tV⟩ ⟨rI,rI,rI,rI,tV⟩
  ·try simp at hc1
   refine ex (xt_ (xt_ (xb (th (sq (rg (ag (nl (th (rt ?_))))))))))
   exact rE ⟨-1,⟨fun _=>(EC hs ht).1 (Ng (by rw[show now= [] from by first|exact hc1|exact List.eq_nil_of_length_eq_zero O] at hLI;exact hLI)),fun _=>by decide⟩⟩ [.tmp 4] J [int (-1)] ⟨.tmp J,tV⟩ J trivial eX
end divd
end
section
open ref01 ref03 ref04 ref06 prog6 prog15 starts Part Rungs LeftM TrimM RoundM MergeM BisM BisM5 BisM6 WalkM StepM WitM JudgM
namespace JudgM2
theorem KM {s:SS} (hs:oK s) (h0:ix (hOl s) 0=false) {x:Nat} (hx:x<(tS s).sT.length):0<(acc (tS s) x).length:=by
 rw[iJ] at hx
 rw[kA hx]
 exact List.length_pos_iff.2 (zA (by have:=hO hs hx;omega) (xS hs h0 hx))
structure VR where
 holds:Bool
 ladder:List Int
 pairs:List PP
 wit:aI
structure Fh (s t:SS) (v:VR):Prop where
 yes:v.holds=true→dA s t∧v.ladder=cK s∧v.wit=⟨[],[]⟩∧(ix (hOl s) 0=true→v.pairs= [])∧(ix (hOl s) 0=false→∃q,lS (tS s) t q∧(∀k,k<q.length→pT (tS s) t q k)∧v.pairs=q.map fun m=>(ix (aH s) m.s.toNat,m.t))
 no:v.holds=false→¬dA s t∧v.ladder= []∧v.pairs= []∧ix (hOl s) 0=false∧∃q i u,lS (tS s) t q∧i<q.length∧u∈acc (tS s) (ix q i).s.toNat∧u∉acc t (ix q i).t.toNat∧lX (tS s) (bS (tS s) (eD q i) u) v.wit
theorem SR {s t:SS} {v:VR} (h:Fh s t v):v.holds=true↔dA s t:=by
 constructor
 ·exact fun e=>(h.yes e).1
 ·intro hs
  cases e:v.holds with
  |true=>rfl
  |false=>exact absurd hs (h.no e).1
theorem EE {s t:SS} (h0:ix (hOl s) 0=false):dA s t↔Gl (tS s) t:=by
 unfold dA Gl
 constructor
 ·rintro(h|h)
  ·rw[h0] at h;cases h
  ·exact h
 ·exact .inr
end JudgM2
end
section
open ref01 ref03 ref04 ref06 prog prog2 prog3 prog4 prog5 prog6 prog13 prog15 starts search Part Rungs LeftM TrimM RoundM MergeM BisM BisM5 WalkM StepM WitM JudgM JudgM2 refw judg wit
abbrev Vf (v:VR):AV:=agg [bl v.holds,ints v.ladder,sl 2 pE v.pairs,strs v.wit.aC,sl 1 gE v.wit.sT]
theorem oK.small {s:SS} (h:oK s):bK s:=fun k hk i hi=>by
 have:=(h.st k hk).ac i hi
 omega
noncomputable def jO (s t:SS):Bool:= @decide (dA s t) (Classical.propDecidable _)
theorem nR {s t:SS}:jO s t=true↔dA s t:=by unfold jO;simp
theorem wG {s t:SS} {v:VR} (h:Fh s t v):v.holds=jO s t:=by
 rw[Bool.eq_iff_iff,nR];exact SR h
theorem mX {s t:SS} (h:bN s t=0):aX s=true∧aX t=true∧s.aC=t.aC:=by
 unfold bN at h
 split at h
 ·next g=>
  split at h
  ·next g2=>exact⟨g.1,g.2,g2⟩
  ·exact absurd h (by decide)
 ·exact absurd h (by decide)
noncomputable def eqB (s t:SS):Bool:=decide (bN s t=0)&&(jO s t&&jO t s)
namespace T
theorem KN:dM Tryz.prog 138 [.bool false,.slice none 0 0,.slice none 0 0,.slice none 0 0,.slice none 0 0]:=cC kR
theorem uG:Ent Tryz.prog 68:=aG kR
theorem Vg:Ent Tryz.prog 189:=aG kR
theorem Rp:fW Tryz.prog 136 [(0,1),(1,1)] [.slice none 0 0,.slice none 0 0]:=fI kR kR
theorem Fj:fW Tryz.prog 138 [(0,1),(1,2),(3,2)] [.bool false,.slice none 0 0,.slice none 0 0,.slice none 0 0,.slice none 0 0]:=fI kR kR
theorem kT:fH Tryz.prog 138 5:=fT kR
theorem Vh:Ent Tryz.prog 190:=aG kR
theorem Vi:Ent Tryz.prog 191:=aG kR
theorem KO:Ent Tryz.prog 70:=aG kR
theorem KP:Ent Tryz.prog 71:=aG kR
theorem Ni:fH Tryz.prog 237 4:=fT kR
theorem Xv:dM Tryz.prog 237 [.int .i64 0,.int .i64 0,.int .i64 0,.int .i64 0]:=cC kR
theorem GX:cW Tryz.prog 138 1 1:=cB kR
theorem GY:cW Tryz.prog 136 1 1:=cB kR
theorem Fk:Ent Tryz.prog 61:=aG kR
theorem GZ:Ent Tryz.prog 153:=aG kR
theorem Ha:KD Tryz.prog 138 0 0 4:=Sn kR
end T
namespace refj
theorem tJ (s t:SS) (hsv:aX s=true) (htv:aX t=true):
 AL.Fn Tryz.prog 153 [spec s,spec t] [] (ι:= { v:VR//Fh s t v }) (fun _ i=>Vf i.1) (fun _=> []):=by
 refine fnI Tryz.func153 rfl rfl (fun w0 F0=> ?_)
 have hs:=bW hsv;have ht:=bW htv;have hsm:=hs.small;have hf0:=hs.few0;have hf1:=hs.few1;have hg1:=ht.few1;have hmm:s.sT.length*t.sT.length≤10000*10000:=Nat.mul_le_mul hf1 hg1;have hop:=iU s;have hol:=pF hs
 refine fcC (bO 0 J) (fun hS0=> ?_)
 obtain⟨hsa0,hss0,hse0⟩:=sLn hS0
 refine fcC (bO 1 J) (fun hS1=> ?_)
 obtain⟨hsa1,hss1,hse1⟩:=sLn hS1
 refine sq (rg (bx (key:=2) (cs:= [sl 1 rE_ s.aC,sl 2 sE s.sT]) J fun b2=>(bx (key:=3) (cs:= [sl 1 rE_ t.aC,sl 2 sE t.sT]) J fun b3=>(al (key:=4) T.KN (eC (eC (eC (eC (eC eZ))))) fun b4=>(nl (th (sq (rg (lPA J J T.aD J (dU (φs:= [agg [sl 1 rE_ s.aC,sl 2 sE s.sT]]) (φ:=tup [agg [sl 1 rE_ ((tR s).1.aC),sl 2 sE ((tR s).1.sT)],sl 1 nE ((tR s).2)]) ⟨J,tV⟩ (prog9.jZ s aS) T.uG (fun N hN=>fun h=>qQ (cs:= [agg [fre N (sl 1 rE_ ((tR s).1.aC)),frb (ix (hOl s) 0) N (sl 2 sE ((tR s).1.sT))],sl 1 nE ((tR s).2)]) (ds:= [agg [sl 1 rE_ ((tR s).1.aC),sl 2 sE ((tR s).1.sT)],sl 1 nE ((tR s).2)]) ⟨fun h=>cU (cs:= [fre N (sl 1 rE_ ((tR s).1.aC)),frb (ix (hOl s) 0) N (sl 2 sE ((tR s).1.sT))]) (ds:= [sl 1 rE_ ((tR s).1.aC),sl 2 sE ((tR s).1.sT)]) ⟨fun h=>bP h,fun h=>oP h,tV⟩ h,fun h=>h,tV⟩ h) (mv (xt J J (xt J J (al (key:=5) T.z25 (eC (eC eZ)) fun b5=>(sPA (cs':= [sl 1 rE_ ((tR s).1.aC),sl 2 sE ((tR s).1.sT)]) J J J T.aD J J (ag (nl (th (sq (rg (lPA J J T.aD J (aO (φs:= [agg [sl 1 rE_ s.aC,sl 2 sE s.sT]]) (φ:=tup [sl 1 nE (if aX s=true then cK s else []),int (errOf s)]) ⟨J,tV⟩ (judg.ML s aS) T.Vg (mv (xt J J (kn 25 (ints (cK s)) J (by rw[if_pos hsv];exact fun h=>h) (xt J J (ag (ag (nl (th (sq (sq (rg (mv (fc (aL 27 J) fun hm27=>(lnF J T.aM (bi J J eF (nl (th ?_)))))))))))))))))))))))))))))))))))))))
 refine cd J (fun hc0=> ?_) (fun hc0=> ?_)
 ·try simp at hc0
  have hh0:ix (hOl s) 0=true:=by
   cases h:ix (hOl s) 0 with
   |true=>rfl
   |false=>
    exfalso
    rw[bX h] at hc0
    have h3:=hop
    rw[show aH s= [] from hc0] at h3
    simp at h3
  refine sq (rg (mv (bd (css:= [(0,_)]) T.Rp (eC (eC eZ)) ⟨J,J,p1 (φ:=sl 1 nE (cK s)) J,tV⟩ (bd (css:= [(0,_),(1,_)]) T.Fj (eC (eC (eC (eC (eC eZ))))) ⟨J,J,p1 (φ:=bl true) J,⟨J,J,pA (cs:= [sl 1 nE (cK s),eqv (.slice none 0 0)]) J,tV⟩⟩ (sPA (cs':= [bl true,sl 1 nE (cK s),eqv (.slice none 0 0),eqv (.slice none 0 0),eqv (.slice none 0 0)]) J J J T.kT J J (nl (th (rt (rt_ ?_)))))))))
  refine dE 4 2 (sl 2 pE []) rfl rfl bT ?_
  refine dE 4 3 (sl 1 rE_ []) rfl rfl bT ?_
  refine dE 4 4 (sl 1 gE []) rfl rfl bT ?_
  exact rE ⟨⟨true,cK s,[],⟨[],[]⟩⟩,⟨fun _=>⟨.inl hh0,J,J,fun _=>J,fun h=>absurd h (by rw[hh0];decide)⟩,fun h=>(nomatch (show true=false from h))⟩⟩ [.cell 4 138] J [agg [bl true,sl 1 nE (cK s),sl 2 pE [],sl 1 rE_ [],sl 1 gE []]] ⟨.agg J J T.kT J J,tV⟩ J trivial eX
 ·try simp at hc0
  have h00:ix (hOl s) 0=false:=by
   cases h:ix (hOl s) 0 with
   |false=>rfl
   |true=>exact absurd (by rw[dK h]) hc0
  have hts:(tR s).1=tS s:=by rw[bX h00]
  have htf:(tR s).2=aH s:=by rw[bX h00]
  have hto:oK (tR s).1:=by rw[hts];exact Ky hs
  have hm2:(tR s).1.sT.length*t.sT.length≤10000*10000:=Nat.mul_le_mul (by rw[hts,iJ];omega) hg1
  have hNf:(tR s).2.length=(tR s).1.sT.length:=by rw[hts,htf,iJ]
  refine sk (th (sq (rg (lPA J J T.aD J (lPA J J T.aD J (cl (refw.Sm ((tR s).1) t aS aS) T.Vh trivial fun N36 i36=>(mv (xt J J (xt J J (xt J J (ag (ag (ag (nl (th (sq (sq (rg (mv (bi J J eT (nl (th ?_))))))))))))))))))))))
  refine cd J (fun hc1=> ?_) (fun hc1=> ?_)
  ·try simp at hc1
   obtain⟨kk,hkk⟩:∃k:Nat,i36.1.2.1=(k:Int):=⟨_,(Int.toNat_of_nonneg hc1).symm⟩
   obtain⟨hnr,hil,hiu,hin⟩:=i36.2.no hc1
   rw[hkk] at hil hiu hin
   rw[Int.toNat_natCast] at hiu hin
   have hkl:kk<i36.1.1.length:=by omega
   have hql:=WalkM.q_len i36.2.q
   have hlw:=KC (Gy i36.2.q) kk hkl
   have hruns:=(UK i36.2.q kk hkl).1
   have halive:=hruns.alive hto
   have hgo:=hruns.go hto
   have hbd:=i36.2.q.bd _ (aZ hkl)
   have hwants:jF (tR s).1 (bS (tR s).1 (eD i36.1.1 kk) i36.1.2.2):=⟨qV hto halive (by rw[hgo,Int.toNat_natCast];exact hiu),fun x hx=>by rw[hts] at hx ⊢;exact KM hs h00 hx,by rw[oG];omega⟩
   refine sq (knC 10 (int (kk:Int)) J (by rw[hkk];exact fun h=>h) (dr (nh:=11) [0,0,0,6,0,31,63,127,127,255,1023] T.mixed kR ?_))
   refine st_ J (fun _ _ _ gq kq=>lPA (gq.1.trans J) J T.aD J kq) ?_
   refine st_ J (fun _ _ _ gq kq=>mv' (gq.1.trans J) kq) ?_
   refine st_ J (fun _ _ _ gq kq=>mv' (gq.1.trans J) kq) ?_
   refine st_ J (fun _ _ _ gq kq=>aO (φs:= [sl 4 kS i36.1.1,int (kk:Int)]) (φ:=sl 1 nE (eD i36.1.1 kk)) ⟨(gq.1.trans J),(gq.2.1.trans J),tV⟩ (judg.Sq i36.1.1 (Gy i36.2.q) kk O) T.Vi kq) ?_
   refine st_ J (fun _ _ _ gq kq=>mv' (gq.1.trans J) kq) ?_
   refine st_ J (fun _ _ _ gq kq=>aO (φs:= [agg [sl 1 rE_ ((tR s).1.aC),sl 2 sE ((tR s).1.sT)],sl 1 nE (eD i36.1.1 kk),int i36.1.2.2]) (φ:=tup [sl 2 pE (bS ((tR s).1) (eD i36.1.1 kk) i36.1.2.2),bl (decide (i36.1.2.2∈acc ((tR s).1) (goS ((tR s).1) (eD i36.1.1 kk)).toNat))]) ⟨(gq.1.trans J),(gq.2.1.trans J),(gq.2.2.1.trans J),tV⟩ (judg.Du ((tR s).1) aS (eD i36.1.1 kk) aS i36.1.2.2 O) T.KO kq) ?_
   refine st_ J (fun _ _ _ gq kq=>mv' (gq.1.trans J) kq) ?_
   refine st_ J (fun _ _ _ gq kq=>xt (gq.1.trans J) J kq) ?_
   refine st_ J (fun _ _ _ gq kq=>xt (gq.1.trans J) J kq) ?_
   refine st_ J (fun _ _ _ gq kq=>ag' (gq.1.trans J) kq) ?_
   refine st_ J (fun _ _ _ gq kq=>ag' (gq.1.trans J) kq) ?_
   refine pn (nl (th (sq (rg (lPA J J T.aD J (mv (cl (wit.CM ((tR s).1) aS (bS ((tR s).1) (eD i36.1.1 kk) i36.1.2.2) aS) T.KP trivial fun N53 i53=>(bd (css:= [(3,_)]) T.Fj (eC (eC (eC (eC (eC eZ))))) ⟨J,J,pA (cs:= [fre N53 (sl 1 rE_ i53.1.aC),fre N53 (sl 1 gE i53.1.sT)]) J,tV⟩ (sPA (cs':= [bl false,eqv (.slice none 0 0),eqv (.slice none 0 0),fre N53 (sl 1 rE_ i53.1.aC),fre N53 (sl 1 gE i53.1.sT)]) J J J T.kT J J (nl (th (rt (rt_ ?_)))))))))))))
   refine dE 4 1 (sl 1 nE []) rfl rfl bT ?_
   refine dE 4 2 (sl 2 pE []) rfl rfl bT ?_
   refine dE 4 3 (sl 1 rE_ i53.1.aC) rfl rfl bP ?_
   refine dE 4 4 (sl 1 gE i53.1.sT) rfl rfl bP ?_
   exact rE ⟨⟨false,[],[],i53.1⟩,⟨fun h=>(nomatch (show false=true from h)),fun _=>⟨fun h=>hnr (by rw[hts];exact(EE h00).1 h),J,J,h00,i36.1.1,kk,i36.1.2.2,by rw[←hts];exact i36.2.q,hkl,by rw[←hts];exact hiu,hin,by rw[←hts];exact i53.2⟩⟩⟩ [.cell 4 138] J [agg [bl false,sl 1 nE [],sl 2 pE [],sl 1 rE_ i53.1.aC,sl 1 gE i53.1.sT]] ⟨.agg J J T.kT J J,tV⟩ J trivial eX
  ·try simp at hc1
   have hql:=WalkM.q_len i36.2.q
   refine sk (th (sq (rg (mv (bd (css:= [(0,_)]) T.Rp (eC (eC eZ)) ⟨J,J,p1 (φ:=sl 1 nE (cK s)) J,tV⟩ (bd (css:= [(0,_),(1,_)]) T.Fj (eC (eC (eC (eC (eC eZ))))) ⟨J,J,p1 (φ:=bl true) J,⟨J,J,pA (cs:= [sl 1 nE (cK s),eqv (.slice none 0 0)]) J,tV⟩⟩ (al (key:=14) T.KN (eC (eC (eC (eC (eC eZ))))) fun b14=>(sPA (cs':= [bl true,sl 1 nE (cK s),eqv (.slice none 0 0),eqv (.slice none 0 0),eqv (.slice none 0 0)]) J J J T.kT J J (nl (th (sq (sq (rg (mv (fc (aL 58 J) fun hm58=>(lnF J T.vY (mv (nl (th (bk ?_))))))))))))))))))))
   refine nwC 140 84 2 pE (oJ 14 2 (osl 140 (.slice none 0 0)) rfl rfl dY ?_)
   have hI0_0:0≤i36.1.1.length:=by
    first|omega|simp
   have hI0_1:([]:List (Int × Int))=(i36.1.1.take 0).map (fun m:WalkM.Mt=>(ix (tR s).2 m.s.toNat,m.t)):=by
    rfl
   refine lp (κ:=Nat × Value × (List (Int × Int))) (fun p=> [(4,ptr 4 b4 0),(6,sl 1 nE ((tR s).2)),(14,ptr 14 b14 0),(58,sl 4 kS i36.1.1),(59,int (i36.1.1.length:Int)),(60,int (p.1:Int))]) (fun p=> [(2,cell b2 [sl 1 rE_ s.aC,sl 2 sE s.sT]),(3,cell b3 [sl 1 rE_ t.aC,sl 2 sE t.sT]),(4,cell b4 [bl false,eqv (.slice none 0 0),eqv (.slice none 0 0),eqv (.slice none 0 0),eqv (.slice none 0 0)]),(5,cell b5 [sl 1 rE_ ((tR s).1.aC),sl 2 sE ((tR s).1.sT)]),(14,cell b14 [bl true,sl 1 nE (cK s),osl 140 p.2.1,eqv (.slice none 0 0),eqv (.slice none 0 0)]),(140,own p.2.1 84 2 pE p.2.2)]) (fun p=>(p.1≤i36.1.1.length)∧(p.2.2=(i36.1.1.take p.1).map (fun m:WalkM.Mt=>(ix (tR s).2 m.s.toNat,m.t)))) (fun p=>i36.1.1.length- p.1) ⟨0,(.slice none 0 0),([]:List (Int × Int))⟩ ⟨hI0_0,hI0_1⟩ ⟨id,id,id,id,id,id,tV⟩ ⟨rI,rI,rI,rI,rI,rI,tV⟩ ?_
   intro⟨k,v,prs⟩ hG0
   obtain⟨hk0,hI0⟩:(k≤i36.1.1.length)∧(prs=(i36.1.1.take k).map (fun m:WalkM.Mt=>(ix (tR s).2 m.s.toNat,m.t))):=hG0
   show Ct _ _ _ _ [(4,ptr 4 b4 0),(6,sl 1 nE ((tR s).2)),(14,ptr 14 b14 0),(58,sl 4 kS i36.1.1),(59,int (i36.1.1.length:Int)),(60,int (k:Int))] [(2,cell b2 [sl 1 rE_ s.aC,sl 2 sE s.sT]),(3,cell b3 [sl 1 rE_ t.aC,sl 2 sE t.sT]),(4,cell b4 [bl false,eqv (.slice none 0 0),eqv (.slice none 0 0),eqv (.slice none 0 0),eqv (.slice none 0 0)]),(5,cell b5 [sl 1 rE_ ((tR s).1.aC),sl 2 sE ((tR s).1.sT)]),(14,cell b14 [bl true,sl 1 nE (cK s),osl 140 v,eqv (.slice none 0 0),eqv (.slice none 0 0)]),(140,own v 84 2 pE prs)] _
   have hpl:prs.length≤k:=by rw[hI0];simp;omega
   refine sq (rg (bi J J aN (nl (th (sq ?_)))))
   refine cd J (fun hc2=> ?_) (fun hc2=> ?_)
   ·try simp at hc2
    have hbd:=i36.2.q.bd _ (aZ hc2)
    refine sk (th (sq (bk (sq (rg (iF J J T.vY O gB (lFA J T.Ni (Nat.le_of_ble_eq_true J) (al (key:=16) T.Xv (eC (eC (eC (eC eZ)))) fun b16=>(sPA (cs':= [int (ix i36.1.1 k).s,int (ix i36.1.1 k).t,int (ix i36.1.1 k).before,int (ix i36.1.1 k).action]) J J J T.Ni J J (nl (th ?_)))))))))))
    refine drH (nh:=18) [0,1,3,0,0,16,48,120,248,0,512,1536,4088,8184,16383,32767,65535,131071] [(none,[]),(none,[]),(none,[14]),(none,[]),(none,[]),(none,[]),(none,[16]),(none,[]),(none,[]),(none,[]),(none,[]),(none,[16]),(none,[]),(none,[]),(some 140,[140]),(none,[]),(none,[]),(some 14,[14,140])] T.mixed kR kR ?_
    refine stv (d:=64) (fun β0=>ptr 14 b14 1) [] J bH (fun β0 _ _ _ _ gq gh kq=>fP (gq.1.trans J) T.GX kq) ?_
    refine stv (d:=65) (fun β0=>ptr 14 b14 2) [] J bH (fun β0 _ _ _ _ gq gh kq=>fP (gq.1.trans J) T.GY kq) ?_
    refine stv (d:=66) (fun β0=>osl 140 v) [14] J bH (fun β0 _ _ _ _ gq gh kq=>lP (gq.1.trans J) (gh.1.trans J) J T.kL kq) ?_
    refine stv (d:=67) (fun β0=>sl 1 nE ((tR s).2)) [] J bH (fun β0 _ _ _ _ gq gh kq=>mv' (gq.1.trans J) kq) ?_
    refine stv (d:=68) (fun β0=>ptr 16 b16 0) [] J bH (fun β0 _ _ _ _ gq gh kq=>fP (gq.1.trans J) T.AY kq) ?_
    refine stv (d:=69) (fun β0=>ptr 16 b16 0) [] J bH (fun β0 _ _ _ _ gq gh kq=>fP (gq.1.trans J) T.Gq kq) ?_
    refine stv (d:=70) (fun β0=>int (ix i36.1.1 k).s) [16] J bH (fun β0 _ _ _ _ gq gh kq=>lP (gq.1.trans J) (gh.1.trans J) J T.aF kq) ?_
    refine stv (d:=71) (fun β0=>fp [int (ix ((tR s).2) (ix i36.1.1 k).s.toNat)]) [] J bH (fun β0 _ _ _ _ gq gh kq=>iF (gq.1.trans J) (gq.2.1.trans J) T.aM O gB kq) ?_
    refine stv (d:=72) (fun β0=>int (ix ((tR s).2) (ix i36.1.1 k).s.toNat)) [] J bH (fun β0 _ _ _ _ gq gh kq=>lF (gq.1.trans J) J T.aF kq) ?_
    refine stv (d:=73) (fun β0=>ptr 16 b16 0) [] J bH (fun β0 _ _ _ _ gq gh kq=>fP (gq.1.trans J) T.AY kq) ?_
    refine stv (d:=74) (fun β0=>ptr 16 b16 1) [] J bH (fun β0 _ _ _ _ gq gh kq=>fP (gq.1.trans J) T.Gr kq) ?_
    refine stv (d:=75) (fun β0=>int (ix i36.1.1 k).t) [16] J bH (fun β0 _ _ _ _ gq gh kq=>lP (gq.1.trans J) (gh.1.trans J) J T.aF kq) ?_
    refine stv (d:=76) (fun β0=>agg [int (ix ((tR s).2) (ix i36.1.1 k).s.toNat),int (ix i36.1.1 k).t]) [] J bH (fun β0 _ _ _ _ gq gh kq=>bd (css:= [(0,_),(1,_)]) T.sW (eC (eC eZ)) ⟨J,J,p1 (φ:=int (ix ((tR s).2) (ix i36.1.1 k).s.toNat)) (by exact(gq.1.trans J)),⟨J,J,p1 (φ:=int (ix i36.1.1 k).t) (by exact(gq.2.1.trans J)),tV⟩⟩ kq) ?_
    refine stv (d:=77) (fun β0=>sl 2 id [[int (ix ((tR s).2) (ix i36.1.1 k).s.toNat),int (ix i36.1.1 k).t]]) [] J bH (fun β0 _ _ _ _ gq gh kq=>bs (css:= [[int (ix ((tR s).2) (ix i36.1.1 k).s.toNat),int (ix i36.1.1 k).t]]) T.mD ⟨J,J,pA (cs:= [int (ix ((tR s).2) (ix i36.1.1 k).s.toNat),int (ix i36.1.1 k).t]) (by exact(gq.1.trans J)),tV⟩ J J J kq) ?_
    refine stc (d:=78) (e:=84) (n:=2) (enc:=pE) (xs:=prs++ [(ix ((tR s).2) (ix i36.1.1 k).s.toNat,(ix i36.1.1 k).t)]) 140 [140] rfl (fun β0 _ _ _ _ gq gh kq=>ap (key:=140) (zs:= [(ix ((tR s).2) (ix i36.1.1 k).s.toNat,(ix i36.1.1 k).t)]) (fun h=>MI (gq.1.trans rfl) h) (gh.1.trans rfl) (gq.2.1.trans rfl) rfl T.mD (by unfold aU at*;simp;omega) (by unfold aU at*;simp;omega) fun v=>kq v) ?_
    refine stv (d:=79) (fun β0=>ptr 14 b14 1) [] J bH (fun β0 _ _ _ _ gq gh kq=>fP (gq.1.trans J) T.GX kq) ?_
    refine stv (d:=80) (fun β0=>ptr 14 b14 2) [] J bH (fun β0 _ _ _ _ gq gh kq=>fP (gq.1.trans J) T.GY kq) ?_
    refine stw 14 (fun β0=>cell b14 [bl true,sl 1 nE (cK s),osl 140 (sv (β0 14)),eqv (.slice none 0 0),eqv (.slice none 0 0)]) [14,140] J (fun β β' hb=>by first|rw[hb 14 J]|(dsimp only;rw[hb 14 J])) (fun β0 _ _ _ _ gq gh kq=>bY (gq.1.trans J) (gh.1.trans J) (gq.2.1.trans J) (gh.2.1.trans J) T.kL J kq) ?_
    refine pnH fun β0=>(nl (eb (th (rg (bi J J (aK i6) (mv (nl ?_)))))))
    have hN0:(k+1)≤i36.1.1.length:=by
     first|omega|simp_all
    have hN1:(prs++ [(ix ((tR s).2) (ix i36.1.1 k).s.toNat,(ix i36.1.1 k).t)])=(i36.1.1.take (k+1)).map (fun m:WalkM.Mt=>(ix (tR s).2 m.s.toNat,m.t)):=by
     rw[bL hc2,List.map_append,←hI0];rfl
    exact ln (⟨k+1,(sv (β0 14)),prs++ [(ix ((tR s).2) (ix i36.1.1 k).s.toNat,(ix i36.1.1 k).t)]⟩:Nat × Value × (List (Int × Int))) ⟨hN0,hN1⟩ dO ⟨id,id,id,id,id,id,tV⟩ ⟨rI,rI,rI,rI,rI,rI,tV⟩
   ·try simp at hc2
    refine ex (xt_ (xt_ (xb (th (sq (rg (fzc 14 140 2 J J J J (lPA J J T.kT J (sPA (cs':= [bl true,sl 1 nE (cK s),sl 2 pE prs,eqv (.slice none 0 0),eqv (.slice none 0 0)]) J J J T.kT J J (nl (th (rt ?_))))))))))))
    refine dE 4 3 (sl 1 rE_ []) rfl rfl bT ?_
    refine dE 4 4 (sl 1 gE []) rfl rfl bT ?_
    exact rE ⟨⟨true,cK s,prs,⟨[],[]⟩⟩,⟨fun _=>⟨(EE h00).2 (by rw[←hts];exact(i36.2.yes O).1),J,J,fun h=>absurd h (by rw[h00];decide),fun _=>⟨i36.1.1,by rw[←hts];exact i36.2.q,by rw[←hts];exact(i36.2.yes O).2,by rw[hI0,show k=i36.1.1.length by omega,List.take_length,htf]⟩⟩,fun h=>(nomatch (show true=false from h))⟩⟩ [.cell 4 138] J [agg [bl true,sl 1 nE (cK s),sl 2 pE prs,sl 1 rE_ [],sl 1 gE []]] ⟨.agg J J T.kT J J,tV⟩ J trivial eX
theorem Bo (s t:SS) (hs:bK s) (ht:bK t):
 Fn0 Tryz.prog 105 [spec s,spec t] (tup [bl (eqB s t),int (bN s t)]):=by
 refine fnI Tryz.func105 rfl rfl (fun w0 F0=> ?_)
 refine fcC (bO 0 J) (fun hS0=> ?_)
 obtain⟨hsa0,hss0,hse0⟩:=sLn hS0
 refine fcC (bO 1 J) (fun hS1=> ?_)
 obtain⟨hsa1,hss1,hse1⟩:=sLn hS1
 refine sq (rg (bx (key:=2) (cs:= [sl 1 rE_ s.aC,sl 2 sE s.sT]) J fun b2=>(bx (key:=3) (cs:= [sl 1 rE_ t.aC,sl 2 sE t.sT]) J fun b3=>(ag (ag (nl (th (sq (sq (rg (lPA J J T.aD J (lPA J J T.aD J (aO (φs:= [agg [sl 1 rE_ s.aC,sl 2 sE s.sT],agg [sl 1 rE_ t.aC,sl 2 sE t.sT]]) (φ:=int (bN s t)) ⟨J,J,tV⟩ (judg.mS s t aS aS) T.Fk (ag (nl (th (sq (rg (mv (bi J J fS (nl (th ?_))))))))))))))))))))))
 refine cd J (fun hc0=> ?_) (fun hc0=> ?_)
 ·try simp at hc0
  refine sq (rg (mv (ag (ag (nl (th (rt (rt_ ?_))))))))
  have hr0:false=(eqB s t):=by
   unfold eqB;rw[decide_eq_false hc0];rfl
  exact rE () [.tmp 4,.tmp 5] J [bl false,int (bN s t)] ⟨.tmp J,.tmp J,tV⟩ (cA1 (fun x0=>rV [bl x0,int (bN s t)]) hr0) trivial eX
 ·try simp at hc0
  obtain⟨hsv,htv,hac⟩:=mX hc0
  refine sk (th (sq (rg (lPA J J T.aD J (lPA J J T.aD J (cl (refj.tJ s t aS aS) T.GZ trivial fun N15 i15=>(UM J T.Ha T.eB J (kn 16 (bl (jO s t)) J (by rw[wG i15.2];exact fun h=>h) (mv ?_)))))))))
  apply eH (t:=17) (pd:=22) rfl
  rotate_left
  ·intro hg0 fin
   have hg0':=hg0
   try simp at hg0'
   exact gy J J J hg0 (lPA J J T.aD J (gy J J J hg0 (lPA J J T.aD J (gy J J J hg0 (cl (refj.tJ t s aS aS) T.GZ trivial fun N20 i20=>(gy J J J hg0 (UM J T.Ha T.eB J (kn 21 (bl (jO t s)) J (by rw[wG i20.2];exact fun h=>h) (pkT J hg0 J (drp (X:= [(21,_),(21,_),(20,_),(19,_),(18,_)]) ⟨J,J,J,J,J,tV⟩ fin))))))))))
  ·intro hg0 fin
   exact gn J J J hg0 J J (gn J J J hg0 J J (gn J J J hg0 J J (gn J J J hg0 J J (pkF J hg0 J (drp (X:= [(21,_),(20,_),(19,_),(18,_)]) ⟨J,J,J,J,tV⟩ fin)))))
  refine ag (ag (nl (th (rt ?_))))
  have hr0:((jO s t)&&(jO t s))=(eqB s t):=by
   unfold eqB;rw[decide_eq_true hc0];rfl
  have hr1:(0:Int)=(bN s t):=by
   exact hc0.symm
  exact rE () [.tmp 4,.tmp 5] J [bl ((jO s t)&&(jO t s)),int 0] ⟨.tmp J,.tmp J,tV⟩ (cA2 (fun x0 x1=>rV [bl x0,int x1]) hr0 hr1) trivial eX
end refj
end
end Go.Proofs.YtcjemmihcplgdaaGreatDoor
