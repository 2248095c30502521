/- The walks of the functions and the plain laws. Own texts of this claim, packed: MkLawP, MkJudgM, Mksysw, Mkdivr, Mkdivs, MkLevM, Mkdivd, MkJudgM2, Mkrefj, Mkdive, MkLevM2, Mkdivg, MkWitSat, MkWitVal, MkBisS, Mkdivw, Mkdivv, Mkdivf, MkChsM, MkValidM, MkTrimI, MkQuoM, MkFailM, MkDivM. -/
import Derived.Test.YtnlfjojfgghchaaGreatDoorX04
import Derived.Test.YtnlfjojfgghchaaGreatDoorX12
import Derived.Test.YtnlfjojfgghchaaGreatDoorX13
import Derived.Test.YtnlfjojfgghchaaGreatDoorRows
import Derived.ProofKit
import Derived.LaidMore
import Derived.Lib.LaidTab
import Derived.Lib.SmallJoins
import Derived.OpenShut
import Derived.Stop.Joined
import Derived.Test.YtnlfjojfgghchaaGreatDoorX10
import Derived.Test.YtnlfjojfgghchaaGreatDoorX06
import Derived.Test.YtnlfjojfgghchaaGreatDoorX08
set_option linter.all false
namespace Go.Proofs.YtnlfjojfgghchaaGreatDoor
open AL Go
set_option maxRecDepth 100000
section
open ref01 ref03 ref04 ref06 prog prog2 prog6 Itoa
open Go.ChangeShapes Go.WideShapes Go.ChangeAt Go.WideElems Go.RowKit
namespace LawOpen
theorem laidOut:laidOutB Tryz.prog=true:=by kernel_rfl
theorem own:ownKnob Tryz.prog.godebug=none:=by kernel_rfl
theorem uM {H:Type} {P:Program} {t:TypeId} {fs:Array Field} {ps:List (DataW H)} (h:P.underlying t=some (.struct fs)):(DataW.agg ps:DataW H).weights P t=DataW.weightsEach P (fs.toList.map (·.type)) ps:=by
 simp[DataW.weights,h]
section
variable {H:Type} {enc:TypeId × Value→H} {W:World}
attribute [local semireducible] agg in
theorem IK {m:Nat} {cs:List Value} {y:DataW H × List MemPlace} (h:DataW.trod enc Tryz.prog W 0 (fun _=>true) true m 79 cs=some y) (hz:∀k∈y.1.weights Tryz.prog 79,k≤reachBytes) (hl:cs.length=2):
 ∃x:SA,All2 W (lV W) (sE x) cs∧∀t∈x.aP,t<2^63:=by
 obtain⟨y0,y1,n,hx,_,h0,h1⟩:=trod_struct2 Tryz.underlying79 h
 subst hx
 have hz:∀k∈y0.1.weights Tryz.prog 66++(y1.1.weights Tryz.prog 66++ []),k≤reachBytes:=by
  have e:(DataW.agg [y0.1,y1.1]:DataW H).weights Tryz.prog 79=y0.1.weights Tryz.prog 66++(y1.1.weights Tryz.prog 66++ []):=by
   rw[uM Tryz.underlying79]
   simp[DataW.weightsEach]
  rw[←e];exact hz
 have c28:Tryz.prog.cellsOf 66=1:=by kernel_rfl
 have c3:Tryz.prog.cellsOf 3=1:=by kernel_rfl
 have b3:1≤Tryz.prog.bytesOf 3:=by have:Tryz.prog.bytesOf 3=8:=kR;omega
 match cs,hl with
 | [v0,v1],_=>
   have h0:DataW.trod enc Tryz.prog W 0 (fun _=>true) true n 66 (([v0,v1].drop 0).take (Tryz.prog.cellsOf 66))=some y0:=h0
   have h1:DataW.trod enc Tryz.prog W 0 (fun _=>true) true n 66 (([v0,v1].drop 1).take (Tryz.prog.cellsOf 66))=some y1:=h1
   rw[c28] at h0 h1
   obtain⟨ys,g1,g2⟩:=Cf Tryz.underlying66 Tryz.underlying3 c3 b3 h0 (fun k hk=>hz k (List.mem_append.2 (.inl hk)))
   obtain⟨zs,g3,_⟩:=Cf Tryz.underlying66 Tryz.underlying3 c3 b3 h1 (fun k hk=>hz k (List.mem_append.2 (.inr (List.mem_append.2 (.inl hk)))))
   exact⟨⟨ys,zs⟩,⟨g1,g3,tV⟩,fun t ht=>by have:=g2 t ht;omega⟩
attribute [local semireducible] agg in
theorem Ch {r:Reach} {b0:Nat} {v:Value} {d:DataW H} {p:List MemPlace} (hv:Value.okWide Tryz.prog W r b0 28 v) (h:DataW.Trod enc Tryz.prog W 0 (fun _=>true) true 28 v d p) (hz:∀k∈d.weights Tryz.prog 28,k≤reachBytes):
 ∃s:SS,(spec s).p W (lV W) v∧eB s:=by
 obtain⟨v0,v1,y0,y1,n,rfl,rfl,rfl,h0,h1⟩:=Go.Joins.open_agg2 Tryz.underlying28 kR kR hv h
 have hz:∀k∈y0.1.weights Tryz.prog 22++(y1.1.weights Tryz.prog 26++ []),k≤reachBytes:=by
  have e:(DataW.agg [y0.1,y1.1]:DataW H).weights Tryz.prog 28=y0.1.weights Tryz.prog 22++(y1.1.weights Tryz.prog 26++ []):=by
   rw[uM Tryz.underlying28]
   simp[DataW.weightsEach]
  rw[←e];exact hz
 have c9:Tryz.prog.cellsOf 9=1:=by kernel_rfl
 have b9:1≤Tryz.prog.bytesOf 9:=by have:Tryz.prog.bytesOf 9=16:=kR;omega
 have c69:Tryz.prog.cellsOf 79=2:=by kernel_rfl
 have b69:1≤Tryz.prog.bytesOf 79:=by have:Tryz.prog.bytesOf 79=48:=kR;omega
 obtain⟨al,g1⟩:=Cg Tryz.underlying22 Tryz.underlying9 c9 b9 h0 (fun k hk=>hz k (List.mem_append.2 (.inl hk)))
 obtain⟨xs,g2,g3⟩:=sU (n:=2) (E:=sE) Tryz.underlying26 c69 (by decide) b69 h1 (fun k hk=>hz k (List.mem_append.2 (.inr (List.mem_append.2 (.inl hk))))) (fun x=> ∀t∈x.aP,t<2^63) (fun m cs y hy hw hl=>IK hy hw hl)
 refine⟨⟨al,xs⟩,⟨[v0,v1],rfl,g1,g2,tV⟩,fun k hk i hi=> ?_⟩
 have hk:k<xs.length:=hk
 have hi:i<(ix xs k).aP.length:=hi
 exact g3 (ix xs k) (Rungs.aX hk) _ (Rungs.fY hi)
end
abbrev Ci:List (String × DataW Unit):= [("math/bits.deBruijn32tab",Rows.laid_math_bits_deBruijn32tab),("math/bits.deBruijn64tab",Rows.laid_math_bits_deBruijn64tab),("internal/strconv.uint64pow10",Rows.laid_internal_strconv_uint64pow10)]
theorem IL {W:World} (h:laidMetH Tryz.prog Ci W) (v:Value):tab.p W (lV W) v:=by
 rw[MakeChecks.laidMetH_plain _ _ _ kR] at h
 obtain⟨ps,⟨g0,t0,cs0,f0,p0,q0,hg0,ht0,hv0,hd0,⟨g1,t1,cs1,f1,p1,q1,hg1,ht1,hv1,hd1,⟨g2,t2,cs2,f2,p2,q2,hg2,ht2,hv2,hd2,_,_⟩,_⟩,_⟩,_,_⟩:=h
 have e0:g2=0:=Option.some.inj (hg2.symm.trans (show Tryz.prog.globalNamed "internal/strconv.uint64pow10" =some 0 by kernel_rfl))
 subst e0
 have e1:t2=267:=Option.some.inj (ht2.symm.trans (show(Tryz.prog.globals[0]?).map (·.type)=some 267 by kernel_rfl))
 subst e1
 have hc:=Lib.cells_of_tab (zs:=Lib.pow10Tab) (k:= .u64) Tryz.underlying267 Tryz.underlying219 kR kR hd2
 refine⟨0,by kernel_rfl,?_,?_⟩
 ·have h2:=hv2
  unfold World.var? at h2
  rw[show Tryz.prog.globalNamed "internal/strconv.uint64pow10" =some 0 by kernel_rfl] at h2
  simp only [Option.bind_some] at h2
  show 0<W.heap.size
  cases hh:W.heap[0]? with
  |none=>rw[hh] at h2;cases h2
  |some o=>exact(Array.getElem?_eq_some_iff.1 hh).1
 ·unfold Lib.TabIs CS
  rw[hv2,←hc]
end LawOpen
open LawOpen
namespace LawOpen2
theorem PD (os:Os) (args:Array Value):laidMetH Tryz.prog Ci ((World.doorLaid Tryz.prog 400 os).forCall (fun _ _=>0) ⟨#[],args,[]⟩).memory:=
 laidMetH_of_parts3 (fuel:=8) (laidMet_of_run' 8 kR kR) kR kR
end LawOpen2
open LawOpen2 WitM wit
namespace LawOpen3
section
variable {H:Type} {enc:TypeId × Value→H} {W:World}
attribute [local semireducible] eqv in
theorem La {m:Nat} {cs:List Value} {y:DataW H × List MemPlace} (h:DataW.trod enc Tryz.prog W 0 (fun _=>true) true m 94 cs=some y) (hl:cs.length=2):
 ∃x:Int × Int,All2 W (lV W) (pE x) cs∧True:=by
 obtain⟨y0,y1,n,_,_,h0,h1⟩:=trod_struct2 Tryz.underlying94 h
 match cs,hl with
 | [v0,v1],_=>
   have h0:DataW.trod enc Tryz.prog W 0 (fun _=>true) true n 3 [v0]=some y0:=h0
   have h1:DataW.trod enc Tryz.prog W 0 (fun _=>true) true n 3 [v1]=some y1:=h1
   obtain⟨a,ea,_,_⟩:=DataW.trod_int Tryz.underlying3 h0
   obtain⟨b,eb,_,_⟩:=DataW.trod_int Tryz.underlying3 h1
   simp at ea eb
   subst ea;subst eb
   exact⟨(a,b),⟨(show(int a).p W (lV W) (.int .i64 a) from rfl),(show(int b).p W (lV W) (.int .i64 b) from rfl),tV⟩,tV⟩
theorem IM {m:Nat} {cs:List Value} {y:DataW H × List MemPlace} (h:DataW.trod enc Tryz.prog W 0 (fun _=>true) true m 87 cs=some y) (hz:∀k∈y.1.weights Tryz.prog 87,k≤reachBytes) (hl:cs.length=1):
 ∃x:List (Int × Int),All2 W (lV W) (gE x) cs∧True:=by
 match cs,hl with
 | [v],_=>
   obtain⟨ys,g,_⟩:=sU (n:=2) (E:=pE) Tryz.underlying87 kR (by decide) (by have:Tryz.prog.bytesOf 94=16:=kR;omega) h hz (fun _=>True) (fun m cs y hy _ hl=>La hy hl)
   exact⟨ys,⟨g,tV⟩,tV⟩
attribute [local semireducible] agg in
theorem Em {r:Reach} {b0:Nat} {v:Value} {d:DataW H} {p:List MemPlace} (hv:Value.okWide Tryz.prog W r b0 25 v) (h:DataW.Trod enc Tryz.prog W 0 (fun _=>true) true 25 v d p) (hz:∀k∈d.weights Tryz.prog 25,k≤reachBytes):
 ∃m:aA,(sys m).p W (lV W) v:=by
 obtain⟨v0,v1,y0,y1,n,rfl,rfl,rfl,h0,h1⟩:=Go.Joins.open_agg2 Tryz.underlying25 kR kR hv h
 have hz:∀k∈y0.1.weights Tryz.prog 22++(y1.1.weights Tryz.prog 23++ []),k≤reachBytes:=by
  have e:(DataW.agg [y0.1,y1.1]:DataW H).weights Tryz.prog 25=y0.1.weights Tryz.prog 22++(y1.1.weights Tryz.prog 23++ []):=by
   rw[uM Tryz.underlying25]
   simp[DataW.weightsEach]
  rw[←e];exact hz
 have b9:1≤Tryz.prog.bytesOf 9:=by have:Tryz.prog.bytesOf 9=16:=kR;omega
 have b85:1≤Tryz.prog.bytesOf 87:=by have:Tryz.prog.bytesOf 87=24:=kR;omega
 obtain⟨al,g1⟩:=Cg Tryz.underlying22 Tryz.underlying9 kR b9 h0 (fun k hk=>hz k (List.mem_append.2 (.inl hk)))
 obtain⟨xs,g2,_⟩:=sU (n:=1) (E:=gE) Tryz.underlying23 kR (by decide) b85 h1 (fun k hk=>hz k (List.mem_append.2 (.inr (List.mem_append.2 (.inl hk))))) (fun _=>True) (fun m cs y hy hw hl=>IM hy hw hl)
 exact⟨⟨al,xs⟩,⟨[v0,v1],rfl,g1,g2,tV⟩⟩
end
end LawOpen3
end
section
open ref01 ref03 ref04 ref06 prog15 starts Part Rungs LeftM TrimM RoundM BisM BisM5 BisM6 WalkM StepM WitM
namespace JudgM
def eQ (es:List PP):Int:=aT (es.map fun e=>((2^e.1.toNat:Nat):Int))
abbrev edg (m:aA) (x:Nat):List PP:=ix m.sT x
abbrev cJ (m:aA) (x:Nat):Int:=eQ (edg m x)
def edM (m:aA) (x:Nat):List (Nat × Nat):=(edg m x).map fun e=>(e.1.toNat,e.2.toNat)
theorem JC (a b:Nat):has ((2^a:Nat):Int) (b:Int)=decide (a=b):=by
 unfold has;rw[Int.toNat_natCast,Int.toNat_natCast,Nat.testBit_two_pow]
theorem iD {es:List PP} {a:Nat}:has (eQ es) (a:Int)=true↔∃e∈es,e.1.toNat=a:=by
 unfold eQ
 rw[cS]
 constructor
 ·rintro⟨u,hu,hh⟩
  obtain⟨e,he,rfl⟩:=List.mem_map.1 hu
  rw[JC] at hh
  exact⟨e,he,by simpa using hh⟩
 ·rintro⟨e,he,rfl⟩
  exact⟨_,List.mem_map.2 ⟨e,he,rfl⟩,by rw[JC];simp⟩
theorem yI (m:aA):Fa (cJ m) (edM m):=fun x a=>by
 rw[iD]
 unfold edM
 constructor
 ·rintro⟨e,he,h⟩;exact⟨_,List.mem_map.2 ⟨e,he,rfl⟩,h⟩
 ·rintro⟨e,he,h⟩
  obtain⟨e',he',rfl⟩:=List.mem_map.1 he
  exact⟨e',he',h⟩
structure bL (m:aA):Prop where
 acts:dH m.aC=true
 n8:m.aC.length≤8
 few0:1≤m.sT.length
 few1:m.sT.length≤10000
 ed:∀x,x<m.sT.length→∀e∈edg m x,0≤e.1∧e.1<(m.aC.length:Int)∧0≤e.2∧e.2<(m.sT.length:Int)
 many:∀x,x<m.sT.length→(edg m x).length≤400000
def iA (m:aA) (t:SS):Prop:=Sat (cJ m) (edM m) t 0 0
structure QJ (m:aA) (t:SS) (q:List Mt):Prop where
 ne:0<q.length
 hd:ix q 0=⟨0,0,-1,0⟩
 bd:∀p∈q,0≤p.s∧p.s<(m.sT.length:Int)∧0≤p.t∧p.t<(t.sT.length:Int)
 nd:(q.map dU).Nodup
 back:∀k,0<k→k<q.length→∃(b:Nat) (e:PP),(ix q k).before=(b:Int)∧(ix q k).action=e.1∧b<k∧e∈edg m (ix q b).s.toNat∧(ix q k).s=e.2∧(ix q k).t=ix (nxt t (ix q b).t.toNat) e.1.toNat∧cJ m (ix q b).s.toNat∈acc t (ix q b).t.toNat
 all:∀R,KW (cJ m) (edM m) t R→R 0 0→∀p∈q,R p.s.toNat p.t.toNat
def lJ (m:aA) (t:SS) (q:List Mt) (k:Nat):Prop:=
 cJ m (ix q k).s.toNat∈acc t (ix q k).t.toNat∧∀e∈edg m (ix q k).s.toNat,(e.2,ix (nxt t (ix q k).t.toNat) e.1.toNat)∈q.map dU
theorem SQ {m:aA} {t:SS} (hm:bL m) (ht:oK t):QJ m t [⟨0,0,-1,0⟩]:=by
 have f1:=hm.few0
 have f2:=ht.few0
 refine⟨by simp,rfl,fun p hp=> ?_,by simp,fun k h1 h2=> ?_,fun R hR h p hp=> ?_⟩
 ·have:p=⟨0,0,-1,0⟩:=by simpa using hp
  subst this
  show 0≤(0:Int)∧(0:Int)<_∧0≤(0:Int)∧(0:Int)<_
  omega
 ·simp at h2;omega
 ·have:p=⟨0,0,-1,0⟩:=by simpa using hp
  subst this;exact h
theorem zT {m:aA} {t:SS} (hm:bL m) (ht:oK t) {x y:Nat} (hx:x<m.sT.length) (hy:y<t.sT.length) (ha:cJ m x∈acc t y) {e:PP} (he:e∈edg m x):
 e.1.toNat<t.aC.length∧0≤ix (nxt t y) e.1.toNat∧ix (nxt t y) e.1.toNat<(t.sT.length:Int):=by
 have:=rK ht hy (a:=e.1.toNat) ((cS _ _).2 ⟨_,ha,iD.2 ⟨e,he,rfl⟩⟩)
 exact this
theorem SR {m:aA} {t:SS} (hm:bL m) (ht:oK t) {q:List Mt} (h:QJ m t q) {i:Nat} (hi:i<q.length) (ha:cJ m (ix q i).s.toNat∈acc t (ix q i).t.toNat) {e:PP} (he:e∈edg m (ix q i).s.toNat)
 (hn:(e.2,ix (nxt t (ix q i).t.toNat) e.1.toNat)∉q.map dU):QJ m t (q++ [⟨e.2,ix (nxt t (ix q i).t.toNat) e.1.toNat,(i:Int),e.1⟩]):=by
 have hb:=h.bd _ (aX hi)
 have g1:=hm.ed (ix q i).s.toNat O e he
 have g2:=zT hm ht (x:=(ix q i).s.toNat) (y:=(ix q i).t.toNat) O O ha he
 refine⟨by simp,by rw[pJ h.ne];exact h.hd,fun p hp=> ?_,?_,fun k h1 h2=> ?_,fun R hR h0 p hp=> ?_⟩
 ·rcases List.mem_append.1 hp with hp|hp
  ·exact h.bd p hp
  ·have:p=_:=List.mem_singleton.1 hp
   subst this
   exact⟨g1.2.2.1,g1.2.2.2,g2.2.1,g2.2.2⟩
 ·rw[List.map_append,List.nodup_append]
  exact⟨h.nd,by simp,fun p hp p' hp' e'=>hn (by
   have:p'=_:=List.mem_singleton.1 hp'
   rw[e',this] at hp;exact hp)⟩
 ·simp at h2
  by_cases e':k=q.length
  ·subst e'
   refine⟨i,e,?_⟩
   rw[Pn,pJ hi]
   exact⟨rfl,rfl,hi,he,rfl,rfl,ha⟩
  ·obtain⟨b,a',p1,p2,p3,p4⟩:=h.back k h1 O
   refine⟨b,a',?_⟩
   rw[pJ O,pJ O]
   exact⟨p1,p2,p3,p4⟩
 ·rcases List.mem_append.1 hp with hp|hp
  ·exact h.all R hR h0 p hp
  ·have:p=_:=List.mem_singleton.1 hp
   subst this
   have:=(hR.nxt (h.all R hR h0 _ (aX hi)) (e.1.toNat,e.2.toNat) (List.mem_map.2 ⟨e,he,rfl⟩)).2
   exact this
theorem Lb {m:aA} {t:SS} {q:List Mt} {p:Mt} {k:Nat} (hk:k<q.length) (h:lJ m t q k):lJ m t (q++ [p]) k:=by
 unfold lJ
 rw[pJ hk]
 exact⟨h.1,fun e he=>by rw[List.map_append];exact List.mem_append_left _ (h.2 e he)⟩
theorem SU {m:aA} {t:SS} {q:List Mt} (h:QJ m t q):MM q:=fun k hk h0=>by
 rcases Nat.eq_zero_or_pos k with e|e
 ·subst e;rw[h.hd] at h0
  have h0:(0:Int)≤ -1:=h0
  omega
 ·obtain⟨b,a,e1,e2,e3,_⟩:=h.back k e hk
  rw[e1];omega
theorem qB:∀(n m:Nat) (l:List (Int × Int)),l.Nodup→(∀p∈l,0≤p.1∧p.1<(n:Int)∧0≤p.2∧p.2<(m:Int))→l.length≤n*m:=by
 intro n m l hnd hb
 have h1:(l.map fun p=>p.1.toNat*m+p.2.toNat).Nodup:=by
  rw[List.nodup_iff_pairwise_ne,List.pairwise_map]
  refine List.Pairwise.imp_of_mem ?_ hnd
  intro a b ha hb' hne e
  have b1:=hb a ha
  have b2:=hb b hb'
  have hm:0<m:=by omega
  have e1:a.1.toNat=b.1.toNat:=by
   have:=congrArg (· /m) e
   simp only [Nat.mul_comm _ m] at this
   rw[Nat.mul_add_div hm,Nat.mul_add_div hm,Nat.div_eq_of_lt O,Nat.div_eq_of_lt O] at this
   omega
  have e2:a.2.toNat=b.2.toNat:=by rw[e1] at e;omega
  exact hne (Prod.ext O O)
 have h2:∀x∈(l.map fun p=>p.1.toNat*m+p.2.toNat),x∈List.range (n*m):=fun x hx=>by
  obtain⟨p,hp,rfl⟩:=List.mem_map.1 hx
  have b1:=hb p hp
  rw[List.mem_range]
  have:(p.1.toNat+1)*m≤n*m:=Nat.mul_le_mul_right m O
  rw[Nat.add_mul] at this
  omega
 have h3:=List.Nodup.length_le_of_subset h1 h2
 simpa using h3
theorem MU {m:aA} {t:SS} {q:List Mt} (h:QJ m t q):q.length≤m.sT.length*t.sT.length:=by
 have:=qB m.sT.length t.sT.length (q.map dU) h.nd (fun p hp=>by
  obtain⟨m,hm,rfl⟩:=List.mem_map.1 hp
  exact h.bd m hm)
 simpa using this
structure sV (m:aA) (t:SS) (q:List Mt) (i:Nat) (k:Nat) (q2:List Mt) (mm2:List ((Int × Int) × Bool)):Prop where
 qi:QJ m t q2
 sm:qY mm2 q2
 pre:q<+:q2
 dn:∀k,k<i→lJ m t q2 k
 al:∀e∈(edg m (ix q i).s.toNat).take k,(e.2,ix (nxt t (ix q i).t.toNat) e.1.toNat)∈q2.map dU
theorem JD {q r:List Mt} {k:Nat} (h:q<+:r) (hk:k<q.length):ix r k=ix q k:=by
 obtain⟨u,rfl⟩:=h
 exact pJ hk
theorem MV {m:aA} {t:SS} {q:List Mt} {i:Nat} {mm:List ((Int × Int) × Bool)} (h:QJ m t q) (hs:qY mm q) (hd:∀k,k<i→lJ m t q k):sV m t q i 0 q mm:=⟨h,hs,List.prefix_rfl,hd,fun e he=>by simp at he⟩
theorem MW {m:aA} {t:SS} (hm:bL m) (ht:oK t) {q:List Mt} {i k:Nat} {q2:List Mt} {mm2:List ((Int × Int) × Bool)} (h:sV m t q i k q2 mm2) (hi:i<q.length) (ha:cJ m (ix q i).s.toNat∈acc t (ix q i).t.toNat) (hk:k<(edg m (ix q i).s.toNat).length) {e:PP} (he:ix (edg m (ix q i).s.toNat) k=e)
 {y:Int} (hy:ix (nxt t (ix q i).t.toNat) e.1.toNat=y) (hn:(bJ mm2 (e.2,y)).getD false=false):sV m t q i (k+1) (q2++ [⟨e.2,y,(i:Int),e.1⟩]) (bT mm2 (e.2,y) true):=by
 subst hy
 have hl:=h.pre.length_le
 have hqi:=JD h.pre hi
 have hem:e∈edg m (ix q i).s.toNat:=by rw[←he];exact aX hk
 have hn':(e.2,ix (nxt t (ix q i).t.toNat) e.1.toNat)∉q2.map dU:=by
  rw[Gp h.sm] at hn
  simpa using hn
 have hp:=SR hm ht h.qi (i:=i) O (by rw[hqi];exact ha) (e:=e) (by rw[hqi];exact hem) (by rw[hqi];exact hn')
 rw[hqi] at hp
 refine⟨hp,Eh h.sm ⟨e.2,ix (nxt t (ix q i).t.toNat) e.1.toNat,(i:Int),e.1⟩,h.pre.trans (List.prefix_append _ _),fun k hk=>Lb O (h.dn k hk),fun b hb=> ?_⟩
 rw[List.map_append,List.mem_append]
 rw[bK hk,he,List.mem_append] at hb
 rcases hb with h1|h1
 ·exact .inl (h.al b h1)
 ·have:b=e:=by simpa using h1
  subst this
  exact .inr (List.mem_singleton.2 rfl)
theorem MX {m:aA} {t:SS} {q:List Mt} {i k:Nat} {q2:List Mt} {mm2:List ((Int × Int) × Bool)} (h:sV m t q i k q2 mm2) (hk:k<(edg m (ix q i).s.toNat).length) {e:PP} (he:ix (edg m (ix q i).s.toNat) k=e)
 {y:Int} (hy:ix (nxt t (ix q i).t.toNat) e.1.toNat=y) (hn:(bJ mm2 (e.2,y)).getD false=true):sV m t q i (k+1) q2 mm2:=by
 subst hy
 refine⟨h.qi,h.sm,h.pre,h.dn,fun b hb=> ?_⟩
 rw[bK hk,he,List.mem_append] at hb
 rcases hb with h1|h1
 ·exact h.al b h1
 ·have:b=e:=by simpa using h1
  subst this
  rw[Gp h.sm] at hn
  simpa using hn
theorem PF {m:aA} {t:SS} {q:List Mt} {i k:Nat} {q2:List Mt} {mm2:List ((Int × Int) × Bool)} (h:sV m t q i k q2 mm2) (hi:i<q.length) (ha:cJ m (ix q i).s.toNat∈acc t (ix q i).t.toNat) (hk:(edg m (ix q i).s.toNat).length≤k):
 QJ m t q2∧qY mm2 q2∧i+1≤q2.length∧∀k,k<i+1→lJ m t q2 k:=by
 have hl:=h.pre.length_le
 refine⟨h.qi,h.sm,O,fun j hj=> ?_⟩
 by_cases e:j=i
 ·subst e
  have hqi:=JD h.pre hi
  have hal:=h.al
  rw[List.take_of_length_le hk] at hal
  unfold lJ
  rw[hqi]
  exact⟨ha,hal⟩
 ·exact h.dn j O
theorem SV {m:aA} {t:SS} (hm:bL m) (ht:oK t) {q:List Mt} (h:QJ m t q) (hd:∀k,k<q.length→lJ m t q k):iA m t:=by
 have hat:∀{x y:Nat},((x:Int),(y:Int))∈q.map dU→∃k,k<q.length∧(ix q k).s=(x:Int)∧(ix q k).t=(y:Int):=fun {x y} hm=>by
  obtain⟨m,hm,e⟩:=List.mem_map.1 hm
  obtain⟨k,hk,rfl⟩:=List.getElem_of_mem hm
  unfold dU at e
  simp only [Prod.mk.injEq] at e
  exact⟨k,hk,by rw[aK hk];exact e.1,by rw[aK hk];exact e.2⟩
 refine⟨fun x y=>((x:Int),(y:Int))∈q.map dU,⟨fun {x y} hm=> ?_,fun {x y} hm=> ?_,fun {x y} hxy e he=> ?_,fun {x y} hxy e he=> ?_⟩,?_⟩
 ·obtain⟨k,hk,e1,e2⟩:=hat hm
  have:=h.bd _ (aX hk)
  omega
 ·obtain⟨k,hk,e1,e2⟩:=hat hm
  have:=(hd k hk).1
  rw[e1,e2,Int.toNat_natCast,Int.toNat_natCast] at this
  exact this
 ·obtain⟨k,hk,e1,e2⟩:=hat hxy
  have hb:=h.bd _ (aX hk)
  have ha:=(hd k hk).1
  rw[e1,e2,Int.toNat_natCast,Int.toNat_natCast] at ha
  obtain⟨e',he',rfl⟩:=List.mem_map.1 he
  have:=(zT hm ht (x:=x) (y:=y) O O ha he').1
  show e'.1.toNat<_
  rw[(ht.st y O).len];exact this
 ·obtain⟨k,hk,e1,e2⟩:=hat hxy
  have hb:=h.bd _ (aX hk)
  obtain⟨ha,hed⟩:=hd k hk
  rw[e1,e2,Int.toNat_natCast,Int.toNat_natCast] at ha
  rw[e1,e2,Int.toNat_natCast,Int.toNat_natCast] at hed
  obtain⟨e',he',rfl⟩:=List.mem_map.1 he
  have g1:=(zT hm ht (x:=x) (y:=y) O O ha he').2.1
  have g2:=hm.ed x O e' he'
  have g3:=hed e' he'
  refine⟨g1,?_⟩
  show(((e'.2.toNat:Nat):Int),_)∈_
  rw[show((e'.2.toNat:Nat):Int)=e'.2 by omega,show(((ix (nxt t y) e'.1.toNat).toNat:Nat):Int)=ix (nxt t y) e'.1.toNat by omega]
  exact g3
 ·have:=aX (l:=q) h.ne
  rw[h.hd] at this
  exact List.mem_map.2 ⟨_,this,rfl⟩
theorem UZ {m:aA} {t:SS} {q:List Mt} (h:QJ m t q) {i:Nat} (hi:i<q.length) (hn:cJ m (ix q i).s.toNat∉acc t (ix q i).t.toNat):¬iA m t:=fun⟨R,hR,h0⟩=>hn (hR.acc (h.all R hR h0 _ (aX hi)))
structure VJ where
 holds:Bool
 pairs:List PP
 word:List Int
 state:Int
structure zU (m:aA) (t:SS) (v:VJ):Prop where
 yes:v.holds=true→iA m t∧v.word= []∧v.state=0∧∃q,QJ m t q∧(∀k,k<q.length→lJ m t q k)∧v.pairs=cF (q.map dU)
 no:v.holds=false→¬iA m t∧v.pairs= []∧∃q i,QJ m t q∧i<q.length∧v.word=mR q i∧v.state=(ix q i).s∧(∀k,k<i→lJ m t q k)∧cJ m (ix q i).s.toNat∉acc t (ix q i).t.toNat
theorem MY {m:aA} {t:SS} {v:VJ} (h:zU m t v):v.holds=true↔iA m t:=by
 constructor
 ·exact fun e=>(h.yes e).1
 ·intro hs
  cases e:v.holds with
  |true=>rfl
  |false=>exact absurd hs (h.no e).1
end JudgM
end
section
open ref01 ref03 ref04 ref06 prog prog2 prog3 prog6 prog13 prog15 starts search Part Rungs LeftM TrimM RoundM BisM BisM5 WalkM StepM WitM JudgM refw judg wit
def pM (d e:Int × Int):Int:=if d.1=e.1 then d.2- e.2 else d.1- e.1
theorem SX {d e:Int × Int} (h:¬0≤pM d e):d.1<e.1∨(d.1=e.1∧d.2<e.2):=by
 unfold pM at h
 split at h<;>omega
theorem SY {d e:Int × Int} (h:0≤pM d e):¬(d.1<e.1∨(d.1=e.1∧d.2<e.2)):=by
 unfold pM at h
 split at h<;>omega
def lW (A N:Nat) (e:Int × Int):Bool:=decide (0≤e.1)&&decide (e.1<(A:Int))&&decide (0≤e.2)&&decide (e.2<(N:Int))
theorem gY {A N:Nat} {e:Int × Int}:lW A N e=true↔0≤e.1∧e.1<(A:Int)∧0≤e.2∧e.2<(N:Int):=by
 unfold lW;simp[and_assoc]
def ltP (d e:Int × Int):Bool:=decide (d.1<e.1)||(decide (d.1=e.1)&&decide (d.2<e.2))
theorem pN {d e:Int × Int}:ltP d e=true↔d.1<e.1∨(d.1=e.1∧d.2<e.2):=by unfold ltP;simp
def fD (A N:Nat) (l:List (Int × Int)):Bool:=l.all (lW A N)&&(List.range (l.length- 1)).all fun i=>ltP (ix l i) (ix l (i+1))
def bV (l:List (List (Int × Int))):Nat:=(l.map List.length).sum
theorem mS (l:List (List (Int × Int))) (x:List (Int × Int)):bV (l++ [x])=bV l+x.length:=by simp[bV]
theorem uN (l:List (List (Int × Int))) (k:Nat):bV (l.take k)≤bV l:=by
 conv=>rhs;rw[←List.take_append_drop k l]
 unfold bV
 rw[List.map_append,List.sum_append];omega
theorem En {l:List (List (Int × Int))} {k:Nat} (h:k<l.length):(ix l k).length≤bV l:=by
 have:=uN l (k+1)
 rw[bK h,mS] at this
 omega
def bR (m:aA):Bool:=dH m.aC&&decide (1≤m.sT.length)&&decide (m.sT.length≤5000)&&m.sT.all (fD m.aC.length m.sT.length)&&decide (bV m.sT≤400000)
def rL (m:aA):Nat:=m.aC.length+m.sT.length+bV m.sT
def yJ (m:aA) (n:Int):Bool:=decide ((rL m:Int)≤n)
theorem eY {m:aA} (h:bR m=true):bL m:=by
 unfold bR at h
 simp only [Bool.and_eq_true,decide_eq_true_eq] at h
 obtain⟨⟨⟨⟨h1,h2⟩,h3⟩,h4⟩,h5⟩:=h
 refine⟨h1,iI h1,h2,O,fun x hx e he=> ?_,fun x hx=> ?_⟩
 ·have g:=vC h4 hx
  unfold fD at g
  rw[Bool.and_eq_true] at g
  exact gY.1 (List.all_eq_true.1 g.1 e he)
 ·exact Nat.le_trans (En hx) h5
theorem wQ {A N:Nat} {l:List (Int × Int)} (h1:∀j,j<l.length→lW A N (ix l j)=true) (h2:∀j,j+1<l.length→ltP (ix l j) (ix l (j+1))=true):fD A N l=true:=by
 unfold fD
 rw[Bool.and_eq_true]
 refine⟨List.all_eq_true.2 (fun e he=> ?_),List.all_eq_true.2 (fun j hj=>h2 j (by have:=List.mem_range.1 hj;omega))⟩
 obtain⟨j,hj,rfl⟩:=List.getElem_of_mem he
 rw[←aK hj];exact h1 j hj
theorem MZ {A N:Nat} {l:List (Int × Int)} {j:Nat} (hj:j<l.length) (h:lW A N (ix l j)=false):fD A N l=false:=by
 cases g:fD A N l with
 |false=>rfl
 |true=>
  unfold fD at g
  rw[Bool.and_eq_true] at g
  rw[vC g.1 hj] at h;cases h
theorem Na {A N:Nat} {l:List (Int × Int)} {j:Nat} (hj:j<l.length) (h0:0<j) (h:ltP (ix l (j- 1)) (ix l j)=false):fD A N l=false:=by
 cases g:fD A N l with
 |false=>rfl
 |true=>
  unfold fD at g
  rw[Bool.and_eq_true] at g
  have:=List.all_eq_true.1 g.2 (j- 1) (List.mem_range.2 O)
  rw[show j- 1+1=j by omega,h] at this;cases this
theorem cZ {m:aA} (h:Inh (sys m)):m.aC.length≤140737488355328∧m.sT.length≤140737488355328∧∀k,k<m.sT.length→(ix m.sT k).length≤140737488355328:=
 ⟨(h.agg 0 rfl).len,(h.agg 1 rfl).len,fun _ hk=>((h.agg 1 rfl).el (gK hk) 0 rfl).len⟩
namespace T
theorem fE:eK Tryz.prog 94 0 0:=dN kR
theorem fG:eK Tryz.prog 94 1 1:=dN kR
theorem dJ:IsSlice Tryz.prog 87 94 2:=fV kR
theorem dG:gX Tryz.prog 94 2:=iV kR
theorem z94:eP Tryz.prog 94 [.int .i64 0,.int .i64 0]:=cT kR
theorem bX:eK Tryz.prog 25 1 1:=dN kR
theorem dB:dK Tryz.prog 23:=eL kR
theorem fJ:IsSlice Tryz.prog 23 87 1:=fV kR
theorem fR:eK Tryz.prog 25 0 0:=dN kR
theorem fT:dK Tryz.prog 87:=eL kR
theorem Va:Ent Tryz.prog 114:=aZ kR
theorem z25:eP Tryz.prog 25 [.slice none 0 0,.slice none 0 0]:=cT kR
theorem kQ:iU Tryz.prog 25 [(0,1),(1,1)] [.slice none 0 0,.slice none 0 0]:=iN kR kR
theorem aY:gX Tryz.prog 25 2:=iV kR
theorem nK:eR Tryz.prog 87 94 2 16 [.int .i64 0,.int .i64 0]:=iW kR kR
theorem pO:eR Tryz.prog 23 87 1 24 [.slice none 0 0]:=iW kR kR
end T
namespace sysw
theorem PG (d e:Int × Int) (hd:bdP d) (he:bdP e):
 Fn0 Tryz.prog 114 [agg [int d.1,int d.2],agg [int e.1,int e.2]] (int (pM d e)):=by
 refine fnI Tryz.func114 rfl rfl (fun w0 F0=> ?_)
 unfold bdP at hd he
 refine sq (rg (bx (key:=2) (cs:= [int d.1,int d.2]) J fun b2=>(bx (key:=3) (cs:= [int e.1,int e.2]) J fun b3=>(ag (nl (th (sq (sq (rg (fP J T.fE (lP J J J T.aH (fP J T.fE (lP J J J T.aH (bi J J gO (nl (th ?_))))))))))))))))
 refine cd J (fun hc0=> ?_) (fun hc0=> ?_)
 ·try simp at hc0
  refine sq (rg (fP J T.fE (lP J J J T.aH (fP J T.fE (lP J J J T.aH (bi J J (kL i6) (ag (nl (th (rt (rt_ ?_)))))))))))
  have hr0:((d.1- e.1):Int)=(pM d e):=by
   unfold pM;rw[if_neg hc0]
  exact rE () [.tmp 4] J [int (d.1- e.1)] ⟨.tmp J,tV⟩ (cA1 (fun x0=>rV [int x0]) hr0) trivial eX
 ·try simp at hc0
  refine sk (th (sq (rg (fP J T.fG (lP J J J T.aH (fP J T.fG (lP J J J T.aH (bi J J (kL i6) (ag (nl (th (rt ?_))))))))))))
  have hr0:((d.2- e.2):Int)=(pM d e):=by
   unfold pM;rw[if_pos hc0]
  exact rE () [.tmp 4] J [int (d.2- e.2)] ⟨.tmp J,tV⟩ (cA1 (fun x0=>rV [int x0]) hr0) trivial eX
theorem yK (l:List (Int × Int)) (hl:∀e∈l,0≤e.1∧e.1<8):
 Fn0 Tryz.prog 98 [sl 2 pE l] (int (eQ l)):=by
 refine fnI Tryz.func98 rfl rfl (fun w0 F0=> ?_)
 refine fcC (bB 0 J) (fun hm0=> ?_)
 refine sq (rg (ag (nl (th (sq (rg (ag (nl (th (sq (sq (rg (mv (lnF J T.dJ (mv (nl (th (bk ?_))))))))))))))))))
 have hI0_0:0≤l.length:=by
  first|omega|simp
 have hI0_1:(0:Int)=eQ (l.take 0)∧0≤(0:Int)∧(0:Int)<256:=by
  exact⟨rfl,O,O⟩
 refine lp (κ:=Nat × Int) (fun p=> [(2,int 0),(3,int p.2),(6,sl 2 pE l),(7,int (l.length:Int)),(8,int (p.1:Int))]) (fun p=> []) (fun p=>(p.1≤l.length)∧(p.2=eQ (l.take p.1)∧0≤p.2∧p.2<256)) (fun p=>l.length- p.1) ⟨0,(0:Int)⟩ ⟨hI0_0,hI0_1⟩ ⟨id,id,id,id,id,tV⟩ trivial ?_
 intro⟨k,u⟩ hG0
 obtain⟨hk0,⟨hu,hu0,hu1⟩⟩:(k≤l.length)∧(u=eQ (l.take k)∧0≤u∧u<256):=hG0
 show Ct _ _ _ _ [(2,int 0),(3,int u),(6,sl 2 pE l),(7,int (l.length:Int)),(8,int (k:Int))] [] _
 refine sq (rg (bi J J bA (nl (th (sq ?_)))))
 refine cd J (fun hc0=> ?_) (fun hc0=> ?_)
 ·try simp at hc0
  have hek:=hl _ (aX hc0)
  have hp:2^ ((ix l k).1).toNat≤2^7:=Nat.pow_le_pow_right O O
  have hp0:0≤((2^ ((ix l k).1).toNat:Nat):Int):=Int.natCast_nonneg _
  refine sk (th (sq (bk (sq (rg (iF J J T.dJ O gB (lFA J T.dG (Nat.le_of_ble_eq_true J) (al (key:=5) T.z94 (eC (eC eZ)) fun b5=>(sPA (cs':= [int ((ix l k).1),int ((ix l k).2)]) J J J T.dG J J (nl (th (rg (mv (fP J T.fE (lP J J J T.aH (bi J J (uV O O) (bi J J (pW O O O O) (ag (nl (eb (th (rg (bi J J (aN i6) (mv (nl ?_)))))))))))))))))))))))))
  have hN0:(k+1)≤l.length:=by
   first|omega|simp_all
  have hN1:((u.toNat|||(2^ ((ix l k).1).toNat):Nat):Int)=eQ (l.take (k+1))∧0≤((u.toNat|||(2^ ((ix l k).1).toNat):Nat):Int)∧((u.toNat|||(2^ ((ix l k).1).toNat):Nat):Int)<256:=by
   refine⟨?_,O,iY (b:=((2^ ((ix l k).1).toNat:Nat):Int)) hu1 O⟩
   rw[bK hc0]
   unfold eQ
   rw[List.map_append,List.map_cons,List.map_nil,fW,hu];rfl
  exact ln (⟨k+1,((u.toNat|||(2^ ((ix l k).1).toNat):Nat):Int)⟩:Nat × Int) ⟨hN0,hN1⟩ dO ⟨id,id,id,id,id,tV⟩ trivial
 ·try simp at hc0
  refine ex (xt_ (xt_ (xb (th (sq (rg (mv (ag (nl (th (rt ?_)))))))))))
  have hr0:(u:Int)=(eQ l):=by
   rw[hu,show k=l.length by omega,List.take_length]
  exact rE () [.tmp 2] J [int u] ⟨.tmp J,tV⟩ (cA1 (fun x0=>rV [int x0]) hr0) trivial eX
theorem gU (m:aA):
 Fn0 Tryz.prog 66 [sys m] (bl (bR m)):=by
 refine fnI Tryz.func66 rfl rfl (fun w0 F0=> ?_)
 refine fcC (cG 0 J) (fun hS0=> ?_)
 obtain⟨hma0,hms0,hme0⟩:=cZ hS0
 refine sq (rg (bx (key:=1) (cs:= [sl 1 rE_ m.aC,sl 1 gE m.sT]) J fun b1=>(ag (nl (th (sq (rg (fP J T.bX (lP J J J T.dB (fc (bB 10 J) fun hm10=>(lnF J T.fJ (ag (nl (th (sq (sq (rg (fP J T.fR (lP J J J T.bZ (bC (φs:= [sl 1 rE_ m.aC]) (φ:=bl (dH m.aC)) ⟨J,tV⟩ (prog.DT _) T.Mo (no J (mv ?_))))))))))))))))))))))
 apply gOr (t:=16) (pd:=19) rfl
 rotate_left
 ·intro hg0 fin
  have hg0':=hg0
  try simp at hg0'
  exact gy J J J hg0 (mv (gy J J J hg0 (bi J J bA (pkF J hg0 J (drp (X:= [(18,_),(17,_)]) ⟨J,J,tV⟩ fin)))))
 ·intro hg0 fin
  exact gn J J J hg0 J J (gn J J J hg0 J J (pkT J hg0 J (drp (X:= [(18,_),(17,_)]) ⟨J,J,tV⟩ fin)))
 refine mv ?_
 apply gOr (t:=20) (pd:=23) rfl
 rotate_left
 ·intro hg1 fin
  have hg1':=hg1
  try simp at hg1'
  exact gy J J J hg1 (mv (gy J J J hg1 (bi J J jV (pkF J hg1 J (drp (X:= [(22,_),(21,_)]) ⟨J,J,tV⟩ fin)))))
 ·intro hg1 fin
  exact gn J J J hg1 J J (gn J J J hg1 J J (pkT J hg1 J (drp (X:= [(22,_),(21,_)]) ⟨J,J,tV⟩ fin)))
 refine nl (th ?_)
 refine cd J (fun hc0=> ?_) (fun hc0=> ?_)
 ·try simp at hc0
  refine sq (rg (ag (nl (th (rt (rt_ ?_))))))
  have hr0:false=(bR m):=by
   unfold bR
   by_cases h:dH m.aC=true
   ·simp[h] at hc0 ⊢
    omega
   ·simp[h]
  exact rE () [.tmp 2] J [bl false] ⟨.tmp J,tV⟩ (cA1 (fun x0=>rV [bl x0]) hr0) trivial eX
 ·try simp at hc0
  have hact:=iI (l:=m.aC) (by simp_all)
  refine sk (th (sq (rg (ag (nl (th (sq (sq (rg (fP J T.bX (lP J J J T.dB (lnF J T.fJ (mv (nl (th (bk ?_))))))))))))))))
  have hI0_0:0≤m.sT.length:=by
   first|omega|simp
  have hI0_1:(0:Int)=(bV (m.sT.take 0):Int)∧(m.sT.take 0).all (fD m.aC.length m.sT.length)=true∧(0:Int)≤400000:=by
   exact⟨rfl,by simp,O⟩
  refine lp (κ:=Nat × Int) (fun p=> [(1,ptr 1 b1 0),(3,int (m.sT.length:Int)),(4,int p.2),(25,sl 1 gE m.sT),(26,int (m.sT.length:Int)),(27,int (p.1:Int))]) (fun p=> [(1,cell b1 [sl 1 rE_ m.aC,sl 1 gE m.sT])]) (fun p=>(p.1≤m.sT.length)∧(p.2=(bV (m.sT.take p.1):Int)∧(m.sT.take p.1).all (fD m.aC.length m.sT.length)=true∧p.2≤400000)) (fun p=>m.sT.length- p.1) ⟨0,(0:Int)⟩ ⟨hI0_0,hI0_1⟩ ⟨id,id,id,id,id,id,tV⟩ ⟨rI,tV⟩ ?_
  intro⟨k,n⟩ hG0
  obtain⟨hk0,⟨hn,hal,hn4⟩⟩:(k≤m.sT.length)∧(n=(bV (m.sT.take k):Int)∧(m.sT.take k).all (fD m.aC.length m.sT.length)=true∧n≤400000):=hG0
  show Ct _ _ _ _ [(1,ptr 1 b1 0),(3,int (m.sT.length:Int)),(4,int n),(25,sl 1 gE m.sT),(26,int (m.sT.length:Int)),(27,int (k:Int))] [(1,cell b1 [sl 1 rE_ m.aC,sl 1 gE m.sT])] _
  have hmk:=hme0 k
  refine sq (rg (bi J J bA (nl (th (sq ?_)))))
  refine cd J (fun hc1=> ?_) (fun hc1=> ?_)
  ·try simp at hc1
   refine sk (th (sq (bk (sq (rg (iF J J T.fJ O gB (lF J J T.fT (ag (nl (th (sq (rg (mv (mv (fc (bB 32 J) fun hm32=>(lnF J T.dJ (bi J J (aN i6) (ag (nl (th (sq (sq (rg (mv (bi J J jV (nl (th ?_)))))))))))))))))))))))))))
   refine cd J (fun hc2=> ?_) (fun hc2=> ?_)
   ·try simp at hc2
    refine sq (rg (ag (nl (th (rt (rt_ (rb (rt_ (rt_ (rb (rt_ ?_)))))))))))
    have hr0:false=(bR m):=by
     unfold bR
     rw[decide_eq_false (p:=bV m.sT≤400000) (by have:=uN m.sT (k+1);rw[bK O,mS] at this;omega)]
     simp
    exact rE () [.tmp 2] J [bl false] ⟨.tmp J,tV⟩ (cA1 (fun x0=>rV [bl x0]) hr0) trivial eX
   ·try simp at hc2
    refine sk (th (sq (rg (mv (lnF J T.dJ (mv (nl (th (bk ?_)))))))))
    have hI1_0:0≤(ix m.sT k).length:=by
     first|omega|simp
    have hI1_1:(∀j,j<0→lW m.aC.length m.sT.length (ix (ix m.sT k) j)=true)∧∀j,j+1<0→ltP (ix (ix m.sT k) j) (ix (ix m.sT k) (j+1))=true:=by
     exact⟨fun j hj=>by omega,fun j hj=>by omega⟩
    refine lp (κ:=Nat) (fun p=> [(1,ptr 1 b1 0),(3,int (m.sT.length:Int)),(4,int (n+((ix m.sT k).length:Int))),(6,sl 2 pE (ix m.sT k)),(25,sl 1 gE m.sT),(26,int (m.sT.length:Int)),(27,int (k:Int)),(37,sl 2 pE (ix m.sT k)),(38,int ((ix m.sT k).length:Int)),(39,int (p:Int))]) (fun p=> [(1,cell b1 [sl 1 rE_ m.aC,sl 1 gE m.sT])]) (fun p=>(p≤(ix m.sT k).length)∧((∀j,j<p→lW m.aC.length m.sT.length (ix (ix m.sT k) j)=true)∧∀j,j+1<p→ltP (ix (ix m.sT k) j) (ix (ix m.sT k) (j+1))=true)) (fun p=>(ix m.sT k).length- p) 0 ⟨hI1_0,hI1_1⟩ ⟨id,id,id,id,id,id,id,id,id,id,tV⟩ ⟨rI,tV⟩ ?_
    intro k1 hG1
    obtain⟨hk1,hI1⟩:(k1≤(ix m.sT k).length)∧((∀j,j<k1→lW m.aC.length m.sT.length (ix (ix m.sT k) j)=true)∧∀j,j+1<k1→ltP (ix (ix m.sT k) j) (ix (ix m.sT k) (j+1))=true):=hG1
    refine sq (rg (bi J J bA (nl (th (sq ?_)))))
    refine cd J (fun hc3=> ?_) (fun hc3=> ?_)
    ·try simp at hc3
     refine sk (th (sq (bk (sq (rg (mv (iF J J T.dJ O gB (lFA J T.dG (Nat.le_of_ble_eq_true J) (al (key:=8) T.z94 (eC (eC eZ)) fun b8=>(ag (sPA (cs':= [int ((ix (ix m.sT k) k1).1),int ((ix (ix m.sT k) k1).2)]) J J J T.dG J J (nl (th (sq (dr (nh:=36) [0,1,3,7,15,31,15,79,207,511,1023,2047,4095,8191,16383,32767,65535,131071,262143,131071,1048575,2097151,4194303,8388607,16777215,33554431,67108863,67108863,201326591,536870911,1073741823,67108863,4294967295,8589934591,17179869183,34359738367] T.mixed kR ?_)))))))))))))))
     refine st_ J (fun _ _ _ gq kq=>fP (gq.1.trans J) T.fE kq) ?_
     refine st_ J (fun _ _ _ gq kq=>lP (gq.1.trans J) J J T.aH kq) ?_
     refine st_ J (fun _ _ _ gq kq=>bi (gq.1.trans J) J bA kq) ?_
     refine st_ J (fun _ _ _ gq kq=>mv' (gq.1.trans J) kq) ?_
     refine sg_ (φ:=ptr 8 b8 0) J J J J (List.mem_of_elem_eq_true J) (fun hgd=> ?_) ?_
     ·have hgd':=hgd
      try simp at hgd'
      exact fun _ _ _ gq kq=>fP (gq.1.trans J) T.fE kq
     refine sg_ (φ:=int ((ix (ix m.sT k) k1).1)) J J J J (List.mem_of_elem_eq_true J) (fun hgd=> ?_) ?_
     ·have hgd':=hgd
      try simp at hgd'
      exact fun _ _ _ gq kq=>lP (gq.1.trans (cW hgd)) J J T.aH kq
     refine sg_ (φ:=ptr 1 b1 0) J J J J (List.mem_of_elem_eq_true J) (fun hgd=> ?_) ?_
     ·have hgd':=hgd
      try simp at hgd'
      exact fun _ _ _ gq kq=>fP (gq.1.trans J) T.fR kq
     refine sg_ (φ:=sl 1 rE_ m.aC) J J J J (List.mem_of_elem_eq_true J) (fun hgd=> ?_) ?_
     ·have hgd':=hgd
      try simp at hgd'
      exact fun _ _ _ gq kq=>lP (gq.1.trans (cW hgd)) J J T.bZ kq
     refine sg_ (φ:=int (m.aC.length:Int)) J J J J (List.mem_of_elem_eq_true J) (fun hgd=> ?_) ?_
     ·have hgd':=hgd
      try simp at hgd'
      exact fun _ _ _ gq kq=>lnF (gq.1.trans (cW hgd)) T.eH kq
     refine sg_ (φ:=bl (decide ((m.aC.length:Int)≤((ix (ix m.sT k) k1).1)))) J J J J (List.mem_of_elem_eq_true J) (fun hgd=> ?_) ?_
     ·have hgd':=hgd
      try simp at hgd'
      exact fun _ _ _ gq kq=>bi (gq.1.trans (cW hgd)) (gq.2.1.trans (cW hgd)) jW kq
     refine st_ J (fun _ _ _ gq kq=>pk (gq.1.trans J) (Bz (x:= .tmp 47) (gq.1.trans J) (gq.2.1.trans J) J) kq) ?_
     refine st_ J (fun _ _ _ gq kq=>mv' (gq.1.trans J) kq) ?_
     refine sg_ (φ:=ptr 8 b8 1) J J J J (List.mem_of_elem_eq_true J) (fun hgd=> ?_) ?_
     ·have hgd':=hgd
      try simp at hgd'
      exact fun _ _ _ gq kq=>fP (gq.1.trans J) T.fG kq
     refine sg_ (φ:=int ((ix (ix m.sT k) k1).2)) J J J J (List.mem_of_elem_eq_true J) (fun hgd=> ?_) ?_
     ·have hgd':=hgd
      try simp at hgd'
      exact fun _ _ _ gq kq=>lP (gq.1.trans (cW hgd)) J J T.aH kq
     refine sg_ (φ:=bl (decide (((ix (ix m.sT k) k1).2)<0))) J J J J (List.mem_of_elem_eq_true J) (fun hgd=> ?_) ?_
     ·have hgd':=hgd
      try simp at hgd'
      exact fun _ _ _ gq kq=>bi (gq.1.trans (cW hgd)) J bA kq
     refine st_ J (fun _ _ _ gq kq=>pk (gq.1.trans J) (Bz (x:= .tmp 55) (gq.1.trans J) (gq.2.1.trans J) J) kq) ?_
     refine st_ J (fun _ _ _ gq kq=>mv' (gq.1.trans J) kq) ?_
     refine sg_ (φ:=ptr 8 b8 1) J J J J (List.mem_of_elem_eq_true J) (fun hgd=> ?_) ?_
     ·have hgd':=hgd
      try simp at hgd'
      exact fun _ _ _ gq kq=>fP (gq.1.trans J) T.fG kq
     refine sg_ (φ:=int ((ix (ix m.sT k) k1).2)) J J J J (List.mem_of_elem_eq_true J) (fun hgd=> ?_) ?_
     ·have hgd':=hgd
      try simp at hgd'
      exact fun _ _ _ gq kq=>lP (gq.1.trans (cW hgd)) J J T.aH kq
     refine sg_ (φ:=int (m.sT.length:Int)) J J J J (List.mem_of_elem_eq_true J) (fun hgd=> ?_) ?_
     ·have hgd':=hgd
      try simp at hgd'
      exact fun _ _ _ gq kq=>mv' (gq.1.trans J) kq
     refine sg_ (φ:=bl (decide ((m.sT.length:Int)≤((ix (ix m.sT k) k1).2)))) J J J J (List.mem_of_elem_eq_true J) (fun hgd=> ?_) ?_
     ·have hgd':=hgd
      try simp at hgd'
      exact fun _ _ _ gq kq=>bi (gq.1.trans (cW hgd)) (gq.2.1.trans (cW hgd)) jW kq
     refine st_ J (fun _ _ _ gq kq=>pk (gq.1.trans J) (Bz (x:= .tmp 60) (gq.1.trans J) (gq.2.1.trans J) J) kq) ?_
     refine st_ J (fun _ _ _ gq kq=>mv' (gq.1.trans J) kq) ?_
     refine sg_ (φ:=int (k1:Int)) J J J J (List.mem_of_elem_eq_true J) (fun hgd=> ?_) ?_
     ·have hgd':=hgd
      try simp at hgd'
      exact fun _ _ _ gq kq=>mv' (gq.1.trans J) kq
     refine sg_ (φ:=bl (decide (0<(k1:Int)))) J J J J (List.mem_of_elem_eq_true J) (fun hgd=> ?_) ?_
     ·have hgd':=hgd
      try simp at hgd'
      exact fun _ _ _ gq kq=>bi (gq.1.trans (cW hgd)) J jV kq
     refine sg_ (φ:=bl (decide (0<(k1:Int)))) J J J J (List.mem_of_elem_eq_true J) (fun hgd=> ?_) ?_
     ·have hgd':=hgd
      try simp at hgd'
      exact fun _ _ _ gq kq=>mv' (gq.1.trans (cW hgd)) kq
     refine xS (φ:=sl 2 pE (ix m.sT k)) rfl rfl rfl rfl (List.mem_of_elem_eq_true rfl) (fun hgd hgd2=> ?_) ?_
     ·have hgd':=hgd
      try simp at hgd'
      have hgd2':=hgd2
      try simp at hgd2'
      exact fun _ _ _ gq kq=>mv' (gq.1.trans J) kq
     refine xS (φ:=int (k1:Int)) rfl rfl rfl rfl (List.mem_of_elem_eq_true rfl) (fun hgd hgd2=> ?_) ?_
     ·have hgd':=hgd
      try simp at hgd'
      have hgd2':=hgd2
      try simp at hgd2'
      exact fun _ _ _ gq kq=>mv' (gq.1.trans J) kq
     refine xS (φ:=int ((k1:Int)- 1)) rfl rfl rfl rfl (List.mem_of_elem_eq_true rfl) (fun hgd hgd2=> ?_) ?_
     ·have hgd':=hgd
      try simp at hgd'
      have hgd2':=hgd2
      try simp at hgd2'
      exact fun _ _ _ gq kq=>bi (gq.1.trans (rY hgd hgd2)) J (kL i6) kq
     refine xS (φ:=fp [int ((ix (ix m.sT k) ((k1:Int)- 1).toNat).1),int ((ix (ix m.sT k) ((k1:Int)- 1).toNat).2)]) rfl rfl rfl rfl (List.mem_of_elem_eq_true rfl) (fun hgd hgd2=> ?_) ?_
     ·have hgd':=hgd
      try simp at hgd'
      have hgd2':=hgd2
      try simp at hgd2'
      exact fun _ _ _ gq kq=>iF (gq.1.trans (rY hgd hgd2)) (gq.2.1.trans (rY hgd hgd2)) T.dJ O gB kq
     refine xS (φ:=agg [int ((ix (ix m.sT k) ((k1:Int)- 1).toNat).1),int ((ix (ix m.sT k) ((k1:Int)- 1).toNat).2)]) rfl rfl rfl rfl (List.mem_of_elem_eq_true rfl) (fun hgd hgd2=> ?_) ?_
     ·have hgd':=hgd
      try simp at hgd'
      have hgd2':=hgd2
      try simp at hgd2'
      exact fun _ _ _ gq kq=>lFA (gq.1.trans (rY hgd hgd2)) T.dG (Nat.le_of_ble_eq_true J) kq
     refine xS (φ:=agg [int ((ix (ix m.sT k) k1).1),int ((ix (ix m.sT k) k1).2)]) rfl rfl rfl rfl (List.mem_of_elem_eq_true rfl) (fun hgd hgd2=> ?_) ?_
     ·have hgd':=hgd
      try simp at hgd'
      have hgd2':=hgd2
      try simp at hgd2'
      exact fun _ _ _ gq kq=>lPA (gq.1.trans J) J T.dG J kq
     refine xS (φ:=int (pM ((ix (ix m.sT k) ((k1:Int)- 1).toNat).1,(ix (ix m.sT k) ((k1:Int)- 1).toNat).2) ((ix (ix m.sT k) k1).1,(ix (ix m.sT k) k1).2))) rfl rfl rfl rfl (List.mem_of_elem_eq_true rfl) (fun hgd hgd2=> ?_) ?_
     ·have hgd':=hgd
      try simp at hgd'
      have hgd2':=hgd2
      try simp at hgd2'
      have hp1:=gY.1 (hI1.1 ((k1:Int)- 1).toNat O)
      have hb1:bdP ((ix (ix m.sT k) ((k1:Int)- 1).toNat).1,(ix (ix m.sT k) ((k1:Int)- 1).toNat).2):=by unfold bdP;dsimp only;omega
      have hb2:bdP ((ix (ix m.sT k) k1).1,(ix (ix m.sT k) k1).2):=by unfold bdP;dsimp only;omega
      exact fun _ _ _ gq kq=>bC (φs:= [agg [int ((ix (ix m.sT k) ((k1:Int)- 1).toNat).1),int ((ix (ix m.sT k) ((k1:Int)- 1).toNat).2)],agg [int ((ix (ix m.sT k) k1).1),int ((ix (ix m.sT k) k1).2)]]) (φ:=int (pM ((ix (ix m.sT k) ((k1:Int)- 1).toNat).1,(ix (ix m.sT k) ((k1:Int)- 1).toNat).2) ((ix (ix m.sT k) k1).1,(ix (ix m.sT k) k1).2))) ⟨(gq.1.trans (rY hgd hgd2)),(gq.2.1.trans (rY hgd hgd2)),tV⟩ (sysw.PG ((ix (ix m.sT k) ((k1:Int)- 1).toNat).1,(ix (ix m.sT k) ((k1:Int)- 1).toNat).2) ((ix (ix m.sT k) k1).1,(ix (ix m.sT k) k1).2) aS aS) T.Va kq
     refine xS (φ:=bl (decide (0≤(pM ((ix (ix m.sT k) ((k1:Int)- 1).toNat).1,(ix (ix m.sT k) ((k1:Int)- 1).toNat).2) ((ix (ix m.sT k) k1).1,(ix (ix m.sT k) k1).2))))) rfl rfl rfl rfl (List.mem_of_elem_eq_true rfl) (fun hgd hgd2=> ?_) ?_
     ·have hgd':=hgd
      try simp at hgd'
      have hgd2':=hgd2
      try simp at hgd2'
      exact fun _ _ _ gq kq=>bi (gq.1.trans (rY hgd hgd2)) J jW kq
     refine sg_ (φ:=bl ((decide (0<(k1:Int)))&&(decide (0≤(pM ((ix (ix m.sT k) ((k1:Int)- 1).toNat).1,(ix (ix m.sT k) ((k1:Int)- 1).toNat).2) ((ix (ix m.sT k) k1).1,(ix (ix m.sT k) k1).2)))))) J J J J (List.mem_of_elem_eq_true J) (fun hgd=> ?_) ?_
     ·have hgd':=hgd
      try simp at hgd'
      exact fun _ _ _ gq kq=>pk (gq.1.trans (cW hgd)) (FO (x:= .tmp 69) (gq.1.trans (cW hgd)) (gq.2.1.trans (Sl hgd)) J) kq
     refine st_ J (fun _ _ _ gq kq=>pk (gq.1.trans J) (Bz (x:= .tmp 66) (gq.1.trans J) (gq.2.1.trans J) J) kq) ?_
     refine pn (nl (th ?_))
     refine cd J (fun hc4=> ?_) (fun hc4=> ?_)
     ·skip
      simp only [Bool.or_eq_true,Bool.and_eq_true,decide_eq_true_eq] at hc4
      refine sq (rg (ag (nl (th (rt (rb (rt_ (rt_ (rb (rb (rt_ (rt_ (rb (rt_ ?_))))))))))))))
      have hr0:false=(bR m):=by
       unfold bR
       rw[nH (xs:=m.sT) (k:=k) O ?_];simp
       have hno:∀{p:Prop},(lW m.aC.length m.sT.length (ix (ix m.sT k) k1)=true→¬p)→p→fD m.aC.length m.sT.length (ix m.sT k)=false:=fun hh hp=>MZ hc3 (by cases g:lW m.aC.length m.sT.length (ix (ix m.sT k) k1) with|false=>rfl|true=>exact absurd hp (hh g))
       rcases hc4 with(((h|h)|h)|h)|h
       ·exact hno (fun g=>by have:=gY.1 g;omega) h
       ·exact hno (fun g=>by have:=gY.1 g;omega) h
       ·exact hno (fun g=>by have:=gY.1 g;omega) h
       ·exact hno (fun g=>by have:=gY.1 g;omega) h
       ·have h5:=SY h.2
        rw[show((k1:Int)- 1).toNat=k1- 1 by omega] at h5
        refine Na hc3 O ?_
        cases g:ltP (ix (ix m.sT k) (k1- 1)) (ix (ix m.sT k) k1) with
        |false=>rfl
        |true=>exact absurd (pN.1 g) h5
      exact rE () [.tmp 2] J [bl false] ⟨.tmp J,tV⟩ (cA1 (fun x0=>rV [bl x0]) hr0) trivial eX
     ·skip
      simp only [Bool.or_eq_false_iff,Bool.and_eq_false_iff,decide_eq_false_iff_not] at hc4
      obtain⟨⟨⟨⟨h41,h42⟩,h43⟩,h44⟩,h45⟩:=hc4
      refine sk (eb (th (rg (bi J J (aN i6) (mv (nl ?_))))))
      have hN0:(k1+1)≤(ix m.sT k).length:=by
       first|omega|simp_all
      have hN1:(∀j,j<(k1+1)→lW m.aC.length m.sT.length (ix (ix m.sT k) j)=true)∧∀j,j+1<(k1+1)→ltP (ix (ix m.sT k) j) (ix (ix m.sT k) (j+1))=true:=by
       refine⟨fun j hj=> ?_,fun j hj=> ?_⟩
       ·by_cases e:j=k1
        ·subst e;exact gY.2 ⟨O,O,O,O⟩
        ·exact hI1.1 j O
       ·by_cases e:j+1=k1
        ·subst e
         rcases h45 with h|h
         ·exact absurd O h
         ·rw[show(((j+1:Nat):Int)- 1).toNat=j by omega] at h
          exact pN.2 (SX h)
        ·exact hI1.2 j O
      exact ln (k1+1) ⟨hN0,hN1⟩ dO ⟨id,id,id,id,id,id,id,id,id,id,tV⟩ ⟨rI,tV⟩
    ·try simp at hc3
     refine ex (xt_ (xt_ (xb (eb (th (rg (bi J J (aN i6) (mv (nl ?_)))))))))
     have hN0:(k+1)≤m.sT.length:=by
      first|omega|simp_all
     have hN1:(n+((ix m.sT k).length:Int))=(bV (m.sT.take (k+1)):Int)∧(m.sT.take (k+1)).all (fD m.aC.length m.sT.length)=true∧(n+((ix m.sT k).length:Int))≤400000:=by
      refine⟨?_,?_,O⟩
      ·rw[bK O,mS];omega
      ·rw[mV O,hal,wQ (fun j hj=>hI1.1 j O) (fun j hj=>hI1.2 j O)];rfl
     exact ln (⟨k+1,n+((ix m.sT k).length:Int)⟩:Nat × Int) ⟨hN0,hN1⟩ dO ⟨id,id,id,id,id,id,tV⟩ ⟨rI,tV⟩
  ·try simp at hc1
   refine ex (xt_ (xt_ (xb (th (sq (rg (ag (nl (th (rt ?_))))))))))
   have hr0:true=(bR m):=by
    have hkk:k=m.sT.length:=by omega
    rw[hkk,List.take_length] at hal hn
    unfold bR
    rw[hal,hc0.1.1]
    simp;omega
   exact rE () [.tmp 2] J [bl true] ⟨.tmp J,tV⟩ (cA1 (fun x0=>rV [bl x0]) hr0) trivial eX
theorem FP (m:aA) (most:Int) (hm:most≤1000000):
 Fn0 Tryz.prog 45 [sys m,int most] (bl (yJ m most)):=by
 refine fnI Tryz.func45 rfl rfl (fun w0 F0=> ?_)
 refine fcC (cG 0 J) (fun hS0=> ?_)
 obtain⟨hma0,hms0,hme0⟩:=cZ hS0
 refine sq (rg (bx (key:=2) (cs:= [sl 1 rE_ m.aC,sl 1 gE m.sT]) J fun b2=>(ag (nl (th (sq (rg (fP J T.fR (lP J J J T.bZ (fc (bB 8 J) fun hm8=>(lnF J T.eH (fP J T.bX (lP J J J T.dB (fc (bB 11 J) fun hm11=>(lnF J T.fJ (bi J J (aN i6) (ag (nl (th (sq (sq (rg (ag (nl (th (bk ?_))))))))))))))))))))))))))
 have hI0_0:((m.aC.length+m.sT.length:Nat):Int)=((m.aC.length+m.sT.length+bV (m.sT.take 0):Nat):Int)∧0≤m.sT.length:=by
  exact⟨by simp[bV],Nat.zero_le _⟩
 refine lp (κ:=Nat × Int) (fun p=> [(1,int most),(2,ptr 2 b2 0),(4,bl false),(5,int p.2),(6,int (p.1:Int))]) (fun p=> [(2,cell b2 [sl 1 rE_ m.aC,sl 1 gE m.sT])]) (fun p=>p.2=((m.aC.length+m.sT.length+bV (m.sT.take p.1):Nat):Int)∧p.1≤m.sT.length) (fun p=>m.sT.length- p.1) ⟨0,((m.aC.length+m.sT.length:Nat):Int)⟩ hI0_0 ⟨id,id,id,id,id,tV⟩ ⟨rI,tV⟩ ?_
 intro⟨i,n⟩ hG0
 obtain⟨hn,hil⟩:n=((m.aC.length+m.sT.length+bV (m.sT.take i):Nat):Int)∧i≤m.sT.length:=hG0
 show Ct _ _ _ _ [(1,int most),(2,ptr 2 b2 0),(4,bl false),(5,int n),(6,int (i:Int))] [(2,cell b2 [sl 1 rE_ m.aC,sl 1 gE m.sT])] _
 refine sq (sq (rg (mv (fP J T.bX (lP J J J T.dB (lnF J T.fJ (bi J J bA (mv ?_))))))))
 apply gM (t:=19) (pd:=23) rfl
 rotate_left
 ·intro hg0 fin
  have hg0':=hg0
  try simp at hg0'
  exact gy J J J hg0 (mv (gy J J J hg0 (mv (gy J J J hg0 (bi J J tJ (pkT J hg0 J (drp (X:= [(22,_),(21,_),(20,_)]) ⟨J,J,J,tV⟩ fin)))))))
 ·intro hg0 fin
  exact gn J J J hg0 J J (gn J J J hg0 J J (gn J J J hg0 J J (pkF J hg0 J (drp (X:= [(22,_),(21,_),(20,_)]) ⟨J,J,J,tV⟩ fin))))
 refine nl (th ?_)
 refine cd J (fun hc0=> ?_) (fun hc0=> ?_)
 ·try simp at hc0
  refine sk (th (sq (bk (rg (mv (fP J T.bX (lP J J J T.dB (mv (iF J J T.fJ O gB (lF J J T.fT (fc (bB 31 J) fun hm31=>(lnF J T.dJ (bi J J (aN i6) (ag (nl (eb (th (rg (mv (bi J J (aN i6) (ag (nl ?_))))))))))))))))))))))
  have hN0:(n+((ix m.sT i).length:Int))=((m.aC.length+m.sT.length+bV (m.sT.take (i+1)):Nat):Int)∧(i+1)≤m.sT.length:=by
   refine⟨?_,O⟩
   rw[bK O,mS];omega
  exact ln (⟨i+1,n+((ix m.sT i).length:Int)⟩:Nat × Int) hN0 dO ⟨id,id,id,id,id,tV⟩ ⟨rI,tV⟩
 ·try simp at hc0
  refine ex (xt_ (xt_ (xb (th (sq (rg (mv (mv (bi J J tJ (ag (nl (th (rt ?_)))))))))))))
  have hr0:(decide (n≤most))=(yJ m most):=by
   unfold yJ rL
   have h1:=uN m.sT i
   by_cases h2:i<m.sT.length
   ·rw[decide_eq_false O,decide_eq_false O]
   ·rw[hn,show i=m.sT.length by omega,List.take_length]
  exact rE () [.tmp 4] J [bl (decide (n≤most))] ⟨.tmp J,tV⟩ (cA1 (fun x0=>rV [bl x0]) hr0) trivial eX
theorem vF (m:aA) (hs:rL m≤100000000):
 AL.Fn Tryz.prog 17 [sys m] [] (ι:=Unit) (fun N _=>UY N m) (fun _=> []):=by
 refine fnI Tryz.func17 rfl rfl (fun w0 F0=> ?_)
 have hsz:=hs;unfold rL at hsz
 refine fcC (cG 0 J) (fun hS0=> ?_)
 obtain⟨hma0,hms0,hme0⟩:=cZ hS0
 refine sq (rg (bx (key:=1) (cs:= [sl 1 rE_ m.aC,sl 1 gE m.sT]) J fun b1=>(al (key:=2) T.z25 (eC (eC eZ)) fun b2=>(nl (th (sq (rg (fP J T.fR (lP J J J T.bZ (uZ (enc:=rE_) (ys:=m.aC) J J T.CN mL flat (bd (css:= [(0,_)]) T.kQ (eC (eC eZ)) ⟨J,J,p1 (φ:=fre w0.heap.size (sl 1 rE_ m.aC)) J,tV⟩ (al (key:=3) T.z25 (eC (eC eZ)) fun b3=>(sPA (cs':= [fre w0.heap.size (sl 1 rE_ m.aC),eqv (.slice none 0 0)]) J J J T.aY J J (nl (th (sq (sq (rg (fP J T.bX (lP J J J T.dB (fc (bB 11 J) fun hm11=>(lnF J T.fJ (mv (nl (th (bk ?_))))))))))))))))))))))))))
 refine nwC 30 87 1 (lU w0.heap.size) (jY 3 1 (osl 30 (.slice none 0 0)) rfl rfl cU ?_)
 have hI0_0:0≤m.sT.length:=by
  first|omega|simp
 have hI0_1:([]:List (List (Int × Int)))=m.sT.take 0:=by
  rfl
 refine lp (κ:=Nat × Value × (List (List (Int × Int)))) (fun p=> [(2,ptr 2 b2 0),(3,ptr 3 b3 0),(11,sl 1 gE m.sT),(12,int (m.sT.length:Int)),(13,int (p.1:Int))]) (fun p=> [(1,cell b1 [sl 1 rE_ m.aC,sl 1 gE m.sT]),(2,cell b2 [eqv (.slice none 0 0),eqv (.slice none 0 0)]),(3,cell b3 [fre w0.heap.size (sl 1 rE_ m.aC),osl 30 p.2.1]),(30,own p.2.1 87 1 (lU w0.heap.size) p.2.2)]) (fun p=>(p.1≤m.sT.length)∧(p.2.2=m.sT.take p.1)) (fun p=>m.sT.length- p.1) ⟨0,(.slice none 0 0),([]:List (List (Int × Int)))⟩ ⟨hI0_0,hI0_1⟩ ⟨id,id,id,id,id,tV⟩ ⟨rI,rI,rI,rI,tV⟩ ?_
 intro⟨k,v,acc⟩ hG0
 obtain⟨hk0,hI0⟩:(k≤m.sT.length)∧(acc=m.sT.take k):=hG0
 show Ct _ _ _ _ [(2,ptr 2 b2 0),(3,ptr 3 b3 0),(11,sl 1 gE m.sT),(12,int (m.sT.length:Int)),(13,int (k:Int))] [(1,cell b1 [sl 1 rE_ m.aC,sl 1 gE m.sT]),(2,cell b2 [eqv (.slice none 0 0),eqv (.slice none 0 0)]),(3,cell b3 [fre w0.heap.size (sl 1 rE_ m.aC),osl 30 v]),(30,own v 87 1 (lU w0.heap.size) acc)] _
 have hlen:acc.length≤k:=by rw[hI0];simp;omega
 refine sq (rg (bi J J bA (nl (th (sq ?_)))))
 refine cd J (fun hc0=> ?_) (fun hc0=> ?_)
 ·try simp at hc0
  have hb2:=En hc0
  refine sk (th (sq (bk (sq (rg (iF J J T.fJ O gB (lF J J T.fT (ag (nl (th (dr (nh:=5) [0,1,0,4,12,31,63,127] T.mixed kR ?_)))))))))))
  refine st_ J (fun _ _ _ gq kq=>fP (gq.1.trans J) T.bX kq) ?_
  refine st_ J (fun _ _ _ gq kq=>lP (gq.1.trans J) J J T.dB kq) ?_
  refine st_ J (fun _ _ _ gq kq=>mv' (gq.1.trans J) kq) ?_
  refine st_ J (fun _ _ _ gq kq=>uZ (enc:=pE) (ys:=ix m.sT k) J (gq.1.trans J) T.nK mL flat kq) ?_
  refine st_ J (fun _ _ _ gq kq=>bsE (enc:=lU w0.heap.size) (xs:= [(ix m.sT k)]) (css:= [[fre w0.heap.size (sl 2 pE (ix m.sT k))]]) T.pO ⟨J,J,p1 (φ:=fre w0.heap.size (sl 2 pE (ix m.sT k))) (by exact(gq.1.trans J)),tV⟩ J J J J kq) ?_
  refine pn (ap (key:=30) (zs:= [(ix m.sT k)]) bU J J J T.pO (by unfold aR at*;simp;omega) (by unfold aR at*;simp;omega) fun v22=>(fP J T.bX (bQ J J J J T.dB J (nl (eb (th (rg (bi J J (aN i6) (mv (nl ?_))))))))))
  have hN0:(k+1)≤m.sT.length:=by
   first|omega|simp_all
  have hN1:(acc++ [(ix m.sT k)])=m.sT.take (k+1):=by
   rw[hI0,bK hc0]
  exact ln (⟨k+1,v22,acc++ [(ix m.sT k)]⟩:Nat × Value × (List (List (Int × Int)))) ⟨hN0,hN1⟩ dO ⟨id,id,id,id,id,tV⟩ ⟨rI,rI,rI,rI,tV⟩
 ·try simp at hc0
  refine ex (xt_ (xt_ (xb (th (sq (rg (OP gE 3 30 1 noM (fun _=>J) J J J (by decide) (lPA J J T.aY J (sPA (cs':= [fre w0.heap.size (sl 1 rE_ m.aC),fre w0.heap.size (sl 1 gE acc)]) J J J T.aY J J (nl (th (rt ?_))))))))))))
  have hr0:acc=m.sT:=by
   rw[hI0,show k=m.sT.length by omega,List.take_length]
  exact rE () [.cell 2 25] J [agg [fre w0.heap.size (sl 1 rE_ m.aC),fre w0.heap.size (sl 1 gE acc)]] ⟨.agg J J T.aY J J,tV⟩ (cA1 (fun x0=>rV [agg [fre w0.heap.size (sl 1 rE_ m.aC),fre w0.heap.size (sl 1 gE x0)]]) hr0) trivial eX
end sysw
end
section
open ref01 ref03 ref04 ref06 prog prog2 prog3 prog6 Part Rungs LeftM TrimM RoundM BisM BisM5
def cY (l:List ByteArray):SS:=⟨l,[⟨(List.range (2^l.length)).map fun(x:Nat)=>(x:Int),List.replicate l.length 0⟩]⟩
namespace divr
end divr
end
section
open ref01 ref03 ref04 ref06 prog prog2 prog3 prog6 prog13 Part Rungs LeftM TrimM RoundM BisM BisM5 WalkM StepM WitM JudgM refw judg wit sysw divr
def bS (u o:Int):Int:=((u.toNat&&&o.toNat:Nat):Int)
def oU (x y:SA) (u:Int):Bool:=y.aP.all fun o=>decide (bS u o∈x.aP)
namespace divs
end divs
end
section
namespace LevM
open ref01 ref03 ref04 ref06 Part Rungs LeftM TrimM BisM BisM5 WitM
inductive Rch (B:PP→Prop) (S:PP→PP→Prop):PP→Prop
 |zero:Rch B S (0,0)
 |step {p q:PP}:Rch B S p→¬B p→S p q→Rch B S q
def Fin (B:PP→Prop) (S:PP→PP→Prop) (vis:List PP) (p:PP):Prop:=¬B p∧∀q,S p q→q∈vis
structure LI (B:PP→Prop) (S:PP→PP→Prop) (vis op:List PP):Prop where
 nd:vis.Nodup
 z:((0,0):PP)∈vis
 rch:∀p∈vis,Rch B S p
 opn:∀p∈op,p∈vis
 dn:∀p∈vis,p∈op∨Fin B S vis p
variable {B:PP→Prop} {S:PP→PP→Prop} {vis op:List PP}
def AH (T:SS):Prop:=∀x,x<T.sT.length→∀a,a<T.aC.length→(0≤ix (nxt T x) a↔has (aT (acc T x)) (a:Int)=true)
end LevM
end
section
open ref01 ref03 ref04 ref06 prog prog2 prog3 prog6 prog13 Part Rungs LeftM TrimM RoundM MergeM BisM BisM4 BisM5 WalkM StepM WitM JudgM refw judg wit sysw divr divs LevM
theorem kC {s:SS} (hs:oK s):oK (tR s).1:=by
 cases h:ix (hOl s) 0 with
 |true=>rw[dQ h];exact wM hs.acts
 |false=>rw[dE h];exact Rk hs
theorem kK (s:SS):(tR s).1.aC=s.aC:=by
 cases h:ix (hOl s) 0 with
 |true=>rw[dQ h];rfl
 |false=>rw[dE h]
theorem yL {s:SS} (hs:oK s):AH (tR s).1:=by
 cases h:ix (hOl s) 0 with
 |true=>
  rw[dQ h]
  intro x hx a ha
  have hx:x=0:=by have hx:x<1:=hx;omega
  subst hx
  have ha:a<s.aC.length:=ha
  have e:ix (nxt (nothing s.aC) 0) a= -1:=by
   show ix (List.replicate s.aC.length (-1)) a= -1
   rw[aK (by simpa using ha)];simp
  rw[e]
  constructor
  ·intro h;omega
  ·intro h
   have h:has (aT []) (a:Int)=true:=h
   rw[AF] at h;cases h
 |false=>
  rw[dE h]
  intro x hx a ha
  have hx:x<(aF s).length:=by simpa using hx
  have ha:a<s.aC.length:=ha
  have e1:ix (nxt (tS s) x) a=_:=EY hx ha
  have e2:acc (tS s) x=_:=qK hx
  show 0≤ix (nxt (tS s) x) a↔has (aT (acc (tS s) x)) (a:Int)=true
  rw[e1,e2]
  by_cases g:has (aT (keep s (ix (aF s) x).toNat)) (a:Int)=true
  ·rw[if_pos g];exact⟨fun _=>g,fun _=>(gG _ _).1⟩
  ·rw[if_neg g];exact⟨fun h=>absurd h (by decide),fun h=>absurd h g⟩
namespace divd
end divd
end
section
open ref01 ref03 ref04 ref06 prog6 prog15 starts Part Rungs LeftM TrimM RoundM MergeM BisM BisM5 BisM6 WalkM StepM WitM JudgM
namespace JudgM2
theorem WB {s:SS} (hs:oK s) (h0:ix (hOl s) 0=false) {x:Nat} (hx:x<(tS s).sT.length):0<(acc (tS s) x).length:=by
 rw[kX] at hx
 rw[qK hx]
 exact List.length_pos_iff.2 (zN (by have:=hO hs hx;omega) (yE hs h0 hx))
structure VR where
 holds:Bool
 ladder:List Int
 pairs:List PP
 wit:aA
structure XI (s t:SS) (v:VR):Prop where
 yes:v.holds=true→sQ s t∧v.ladder=eU s∧v.wit=⟨[],[]⟩∧(ix (hOl s) 0=true→v.pairs= [])∧(ix (hOl s) 0=false→∃q,KT (tS s) t q∧(∀k,k<q.length→Pm (tS s) t q k)∧v.pairs=q.map fun m=>(ix (aF s) m.s.toNat,m.t))
 no:v.holds=false→¬sQ s t∧v.ladder= []∧v.pairs= []∧ix (hOl s) 0=false∧∃q i u,KT (tS s) t q∧i<q.length∧u∈acc (tS s) (ix q i).s.toNat∧u∉acc t (ix q i).t.toNat∧Cc (tS s) (EZ (tS s) (mR q i) u) v.wit
end JudgM2
end
section
open ref01 ref03 ref04 ref06 prog prog2 prog3 prog4 prog5 prog6 prog13 prog15 starts search Part Rungs LeftM TrimM RoundM MergeM BisM BisM5 WalkM StepM WitM JudgM JudgM2 refw judg wit
theorem oK.small {s:SS} (h:oK s):eB s:=fun k hk i hi=>by
 have:=(h.st k hk).ac i hi
 omega
theorem SZ {s t:SS} (h:iP s t=0):cK s=true∧cK t=true∧s.aC=t.aC:=by
 unfold iP at h
 split at h
 ·next g=>
  split at h
  ·next g2=>exact⟨g.1,g.2,g2⟩
  ·exact absurd h (by decide)
 ·exact absurd h (by decide)
namespace refj
end refj
end
section
open ref01 ref03 ref04 ref06 prog prog2 prog3 prog6 prog13 Part Rungs LeftM TrimM RoundM MergeM BisM BisM4 BisM5 WalkM StepM WitM JudgM refw judg wit refj sysw divr divs divd LevM
namespace dive
end dive
end
section
namespace LevM2
open ref01 ref03 ref04 ref06 Part Rungs LeftM TrimM BisM BisM5 BisM6 WitM JudgM LevM
end LevM2
end
section
open ref01 ref03 ref04 ref06 prog prog2 prog3 prog6 prog13 Part Rungs LeftM TrimM RoundM MergeM BisM BisM4 BisM5 WalkM StepM WitM JudgM refw judg wit refj sysw divr divs divd dive LevM LevM2
theorem Xp {m:aA} (hm:bL m) {x:Nat} (hx:x<m.sT.length):∀e∈ix m.sT x,0≤e.1∧e.1<8:=fun e he=>by
 have:=hm.ed x hx e he
 have:=hm.n8
 omega
namespace divg
end divg
end
section
namespace WitSat
open ref01 ref03 ref04 ref06 Part Rungs LeftM TrimM BisM BisM5 BisM6 WalkM StepM WitM JudgM
variable {T:SS} {want:List PP} {ss:List (List Int)} {q:List PP} {mm:List (PP × Int)} {m:aA}
end WitSat
end
section
namespace WitVal
open ref01 ref03 ref04 ref06 Part Rungs LeftM TrimM BisM BisM5 BisM6 WalkM StepM WitM JudgM WitSat sysw
variable {T:SS} {want:List PP} {ss:List (List Int)} {q:List PP} {mm:List (PP × Int)} {m:aA}
theorem Gz {l:List (List PP)} {K:Nat}:(∀x∈l,x.length≤K)→bV l≤l.length*K:=by
 induction l with
 |nil=>intro _;simp[bV]
 |cons a l ih=>
  intro h
  have:=ih fun x hx=>h x (List.mem_cons_of_mem _ hx)
  have h0:=h a List.mem_cons_self
  rw[List.length_cons,Nat.succ_mul]
  unfold bV at this ⊢
  rw[List.map_cons,List.sum_cons]
  omega
end WitVal
end
section
namespace BisS
open ref01 ref03 ref04 ref06 Part Rungs LeftM TrimM MergeM RoundM BisM BisM4 BisM5 BisM6
structure BB (S D:SS) (R:Nat→Nat→Prop):Prop where
 bis:Bis S D R
 bd:∀{x y},R x y→x<S.sT.length∧y<D.sT.length
structure uO {α:Type} [DecidableEq α] [Inhabited α] (A:α→List Int) (N:α→Nat→α) (n:Nat) (z:α) (l:List α) (D:SS):Prop where
 len:D.sT.length=l.length
 nd:l.Nodup
 ne:0<l.length
 hd:ix l 0=z
 acc:∀i,i<l.length→acc D i=A (ix l i)
 nl:∀i,i<l.length→(nxt D i).length=n
 nx:∀i,i<l.length→∀a,a<n→ix (nxt D i) a=if has (aT (A (ix l i))) (a:Int)=true then(l.idxOf (N (ix l i) a):Int) else-1
 cl:∀i,i<l.length→∀a,a<n→has (aT (A (ix l i))) (a:Int)=true→N (ix l i) a∈l
end BisS
end
section
open ref01 ref03 ref04 ref06 prog prog2 prog3 prog6 prog13 Part Rungs LeftM TrimM RoundM MergeM BisM BisM4 BisM5 WalkM StepM WitM JudgM JudgM2 refw judg wit refj sysw divr divs divd dive divg LevM LevM2
structure Vb (s:SS) (z:aA × Int):Prop where
 bad:cK s=false→z=(⟨[],[]⟩,30)
 hol:cK s=true→ix (hOl s) 0=true→z=(⟨[],[]⟩,3)
 fit:cK s=true→ix (hOl s) 0=false→z.2=0∧Cc (tS s) [] z.1
namespace divw
end divw
end
section
open ref01 ref03 ref04 ref06 prog prog2 prog3 prog6 prog13 Part Rungs LeftM TrimM RoundM MergeM BisM BisM4 BisM5 WalkM StepM WitM JudgM JudgM2 refw judg wit refj sysw divr divs divd dive divg divw LevM LevM2
namespace divv
theorem wR (l:List ByteArray) (hl:l.length≤8):
 Fn0 Tryz.prog 91 [strs l] (spec (cY l)):=by
 refine fnI Tryz.func91 rfl rfl (fun w0 F0=> ?_)
 have h2n:2^l.length≤2^8:=Nat.pow_le_pow_right O hl
 refine fcC (bB 0 J) (fun hm0=> ?_)
 refine sq (rg (al (key:=2) T.z28 (eC (eC eZ)) fun b2=>(nl (th (sq (rg (mv (lnF J T.eH (mk (key:=7) (m:=l.length) (enc:=nE) (y:=(0:Int)) J J T.cH (eC eZ) (by unfold aR at*;omega) (by unfold aR at*;omega) fun v7=>(fz 7 7 J J (bd (css:= [(1,_)]) T.sB (eC (eC eZ)) ⟨J,J,p1 (φ:=sl 1 nE (List.replicate l.length (0:Int))) J,tV⟩ (al (key:=3) T.z79 (eC (eC eZ)) fun b3=>(sPA (cs':= [eqv (.slice none 0 0),sl 1 nE (List.replicate l.length (0:Int))]) J J J T.cX J J (nl (th (sq (sq (rg (mv (lnF J T.eH (bi J J (uV O O) (mv (nl (th (bk ?_)))))))))))))))))))))))))
 refine nwC 30 3 1 nE (jY 3 0 (osl 30 (.slice none 0 0)) rfl rfl cU ?_)
 have hI0_0:0≤2^l.length:=by
  first|omega|simp
 have hI0_1:([]:List Int)=(List.range 0).map fun(x:Nat)=>(x:Int):=by
  rfl
 refine lp (κ:=Nat × Value × (List Int)) (fun p=> [(0,sl 1 rE_ l),(2,ptr 2 b2 0),(3,ptr 3 b3 0),(11,int ((2^l.length:Nat):Int)),(12,int (p.1:Int))]) (fun p=> [(2,cell b2 [eqv (.slice none 0 0),eqv (.slice none 0 0)]),(3,cell b3 [osl 30 p.2.1,sl 1 nE (List.replicate l.length 0)]),(30,own p.2.1 3 1 nE p.2.2)]) (fun p=>(p.1≤2^l.length)∧(p.2.2=(List.range p.1).map fun(x:Nat)=>(x:Int))) (fun p=>2^l.length- p.1) ⟨0,(.slice none 0 0),([]:List Int)⟩ ⟨hI0_0,hI0_1⟩ ⟨id,id,id,id,id,tV⟩ ⟨rI,rI,rI,tV⟩ ?_
 intro⟨k,v,acc⟩ hG0
 obtain⟨hk0,hI0⟩:(k≤2^l.length)∧(acc=(List.range k).map fun(x:Nat)=>(x:Int)):=hG0
 show Ct _ _ _ _ [(0,sl 1 rE_ l),(2,ptr 2 b2 0),(3,ptr 3 b3 0),(11,int ((2^l.length:Nat):Int)),(12,int (k:Int))] [(2,cell b2 [eqv (.slice none 0 0),eqv (.slice none 0 0)]),(3,cell b3 [osl 30 v,sl 1 nE (List.replicate l.length 0)]),(30,own v 3 1 nE acc)] _
 have hlen:acc.length=k:=by rw[hI0];simp
 refine sq (rg (bi J J bA (nl (th (sq ?_)))))
 refine cd J (fun hc0=> ?_) (fun hc0=> ?_)
 ·try simp at hc0
  have hkk:k<2^l.length:=by exact_mod_cast hc0
  refine sk (th (sq (bk (sq (rg (mv (ag (nl (th (rg (fP J T.cE (lP J J J T.aQ (mv (bsE (enc:=nE) (xs:= [(k:Int)]) (css:= [[int (k:Int)]]) T.cH ⟨J,J,p1 (φ:=int (k:Int)) J,tV⟩ J J J J (ap (key:=30) (zs:= [(k:Int)]) bU J J J T.cH (by unfold aR at*;simp;omega) (by unfold aR at*;simp;omega) fun v19=>(fP J T.cE (bQ J J J J T.aQ J (nl (eb (th (rg (bi J J (aN i6) (mv (nl ?_))))))))))))))))))))))))
  have hN0:(k+1)≤2^l.length:=by
   first|omega|simp_all
  have hN1:(acc++ [(k:Int)])=(List.range (k+1)).map fun(x:Nat)=>(x:Int):=by
   rw[hI0,List.range_succ,List.map_append];rfl
  exact ln (⟨k+1,v19,acc++ [(k:Int)]⟩:Nat × Value × (List Int)) ⟨hN0,hN1⟩ dO ⟨id,id,id,id,id,tV⟩ ⟨rI,rI,rI,tV⟩
 ·try simp at hc0
  have hkk:2^l.length≤k:=by first|exact_mod_cast hc0|exact Nat.le_of_not_lt (by exact_mod_cast hc0)
  refine ex (xt_ (xt_ (xb (th (sq (OJ 3 30 0 J J J J (dr (nh:=5) [0,1,0,4,15,31] T.mixed kR ?_)))))))
  refine st_ J (fun _ _ _ gq kq=>mv' (gq.1.trans J) kq) ?_
  refine st_ J (fun _ _ _ gq kq=>eW (φs:= [sl 1 rE_ l]) (φ:=sl 1 rE_ l) ⟨(gq.1.trans J),tV⟩ (prog.dW _ O) T.mZ (fun N hN=>fun h=>eS h) kq) ?_
  refine st_ J (fun _ _ _ gq kq=>lPA (gq.1.trans J) J T.cX J kq) ?_
  refine st_ J (fun _ _ _ gq kq=>bsE (enc:=sE) (xs:= [(⟨acc,List.replicate l.length 0⟩)]) (css:= [[sl 1 nE acc,sl 1 nE (List.replicate l.length 0)]]) T.kN ⟨J,J,pA (cs:= [sl 1 nE acc,sl 1 nE (List.replicate l.length 0)]) (by exact(gq.1.trans J)),tV⟩ J J J J kq) ?_
  refine st_ J (fun _ _ _ gq kq=>bd (css:= [(0,_),(1,_)]) T.kA (eC (eC eZ)) ⟨J,J,p1 (φ:=sl 1 rE_ l) (by exact(gq.1.trans J)),⟨J,J,p1 (φ:=sl 2 sE [(⟨acc,List.replicate l.length 0⟩)]) (by exact(gq.2.1.trans J)),tV⟩⟩ kq) ?_
  refine pn (sPA (cs':= [sl 1 rE_ l,sl 2 sE [(⟨acc,List.replicate l.length 0⟩)]]) J J J T.aI J J (nl (th (rt ?_))))
  have hr0:l=(cY l).aC:=by
   rfl
  have hr1: [(⟨acc,List.replicate l.length 0⟩)]=(cY l).sT:=by
   unfold cY;rw[hI0,show k=2^l.length by omega]
  exact rE () [.cell 2 28] J [agg [sl 1 rE_ l,sl 2 sE [(⟨acc,List.replicate l.length 0⟩)]]] ⟨.agg J J T.aI J J,tV⟩ (cA2 (fun x0 x1=>rV [agg [sl 1 rE_ x0,sl 2 sE x1]]) hr0 hr1) trivial eX
end divv
end
section
open ref01 ref03 ref04 ref06 prog prog2 prog3 prog6 prog13 Part Rungs LeftM TrimM RoundM MergeM BisM BisM4 BisM5 WalkM StepM WitM JudgM JudgM2 refw judg wit refj sysw divr divs divd dive divg divw divv LevM LevM2
def chs (x y:SA):Nat→Int→List Int
 |0,u=>if oU x y u=true then [u] else []
 |k+1,u=>chs x y k u++chs x y k (((u.toNat|||2^k:Nat):Int))
theorem GA (x y:SA) (u:Int):(!y.aP.any fun o=>decide (bS u o∉x.aP))=oU x y u:=by
 unfold oU
 rw[List.all_eq_not_any_not]
 congr 2
 funext o
 simp
namespace T
theorem Vd:Ent Tryz.prog 156:=aZ kR
theorem Lc:Ent Tryz.prog 97:=aZ kR
theorem Ve:Ent Tryz.prog 191:=aZ kR
end T
namespace divf
theorem Ta (x:SA) (u o:Int) (hr:rising x.aP=true) (ho:0≤o∧o<256) (hu:0≤u∧u<256):
 Fn0 Tryz.prog 156 [int o,fp [ints x.aP,ints x.next],fp [int u]] (bl (decide (bS u o∉x.aP))):=by
 refine fnI Tryz.func156 rfl rfl (fun w0 F0=> ?_)
 refine sq (rg (ag (nl (th (sq (rg (lFA J T.cX (Nat.le_of_ble_eq_true J) (lF J J T.aH (mv (bi J J (xO O O O O) (bC (φs:= [agg [sl 1 nE x.aP,sl 1 nE x.next],int ((u.toNat&&&o.toNat:Nat):Int)]) (φ:=bl (decide (((u.toNat&&&o.toNat:Nat):Int)∈x.aP))) ⟨J,J,tV⟩ (search.wJ x aS ((u.toNat&&&o.toNat:Nat):Int)) T.Lc (no J (ag (nl (th (rt ?_))))))))))))))))
 have hr0:(!(decide (((u.toNat&&&o.toNat:Nat):Int)∈x.aP)))=(decide (bS u o∉x.aP)):=by
  unfold bS;simp
 exact rE () [.tmp 4] J [bl (!(decide (((u.toNat&&&o.toNat:Nat):Int)∈x.aP)))] ⟨.tmp J,tV⟩ (cA1 (fun x0=>rV [bl x0]) hr0) trivial eX
theorem AJ (l:List Int) (dom:Int→Prop) (pq:Int→Bool) (hd:∀k,k<l.length→dom (ix l k)):
 Fn0 Tryz.prog 155 [ints l,pf Tryz.prog dom nE (fun x=>bl (pq x))] (bl (l.any pq)):=by
 refine fnI Tryz.func155 rfl rfl (fun w0 F0=> ?_)
 refine fcC (bB 0 J) (fun hm0=> ?_)
 refine sq (rg (ag (nl (th (sq (rg (mv (mv (bC (φs:= [sl 1 nE l,pf Tryz.prog dom nE (fun x=>bl (pq x))]) (φ:=int (pK pq l)) ⟨J,J,tV⟩ (judg.EQ l dom pq hd) T.Ve (bi J J jW (ag (nl (th (rt ?_))))))))))))))
 have hr0:(decide (0≤(pK pq l)))=(l.any pq):=by
  rw[SF]
 exact rE () [.tmp 4] J [bl (decide (0≤(pK pq l)))] ⟨.tmp J,tV⟩ (cA1 (fun x0=>rV [bl x0]) hr0) trivial eX
theorem PK (x:SA) (l:List Int) (hl:∀k,k<l.length→0≤ix l k∧ix l k<256) (u:Int) (hr:rising x.aP=true) (hu:0≤u∧u<256):Fn0 Tryz.prog 155 [ints l,clo 156 [fp [ints x.aP,ints x.next],fp [int u]]] (bl (l.any (fun o=>decide (bS u o∉x.aP)))):=by
 refine Jj (fun {w F vs} h=> ?_) (AJ l (fun o=>0≤o∧o<256) (fun o=>decide (bS u o∉x.aP)) hl)
 match vs,h with
 | [_,_],⟨h1,h2,_⟩=>exact⟨h1,LX T.Vd (fun o ho=>Ta x u o hr ho hu) h2,tV⟩
end divf
end
section
namespace ChsM
open ref01 ref03 divs divf
theorem Da (x y:SA):∀(n q:Nat),chs x y n ((2^n*q:Nat):Int)=((List.range (2^n)).map fun(i:Nat)=>((2^n*q+i:Nat):Int)).filter (oU x y)
 |0,q=>by
  show(if oU x y ((2^0*q:Nat):Int)=true then [((2^0*q:Nat):Int)] else [])=_
  simp only [Nat.pow_zero,List.range_one,List.map_cons,List.map_nil,Nat.add_zero,List.filter_cons,List.filter_nil]
 |n+1,q=>by
  have e1:2^ (n+1)*q=2^n*(2*q):=by rw[Nat.pow_succ,Nat.mul_assoc]
  have e2:((((2^ (n+1)*q:Nat):Int).toNat|||2^n:Nat):Int)=((2^n*(2*q+1):Nat):Int):=by
   rw[Int.toNat_natCast,←Nat.two_pow_add_eq_or_of_lt (Nat.pow_lt_pow_right O O) q,e1,Nat.mul_add,Nat.mul_one]
  show chs x y n _++chs x y n _=_
  rw[e2,Da x y n (2*q+1),e1,Da x y n (2*q),←List.filter_append]
  congr 1
  have e3:List.range (2^ (n+1))=List.range (2^n)++(List.range (2^n)).map (2^n+ ·):=by
   rw[Nat.pow_succ,Nat.mul_two,List.range_add]
  rw[e3,List.map_append,List.map_map]
  congr 1
  refine List.map_congr_left fun i _=> ?_
  show((2^n*(2*q+1)+i:Nat):Int)=((2^n*(2*q)+(2^n+i):Nat):Int)
  rw[Nat.mul_add (2^n) (2*q) 1,Nat.mul_one,Nat.add_assoc]
theorem PL (x y:SA) (n:Nat):chs x y n 0=((List.range (2^n)).map fun(i:Nat)=>(i:Int)).filter (oU x y):=by
 have:=Da x y n 0
 simp only [Nat.mul_zero,Nat.zero_add] at this
 exact this
end ChsM
end
section
open ref01 ref03 ref04 ref06 Part Rungs LeftM TrimM
namespace ValidM
theorem wS {s:SS} (h:cK s=true):s.sT.length≤500:=by
 unfold cK at h
 simp only [Bool.and_eq_true,decide_eq_true_eq] at h
 exact h.1.2
end ValidM
end
section
namespace TrimI
open ref01 ref03 ref04 ref06 Part Rungs LeftM TrimM RoundM MergeM BisM BisM2 BisM3 BisM4 BisM5 BisM6 divr divd
theorem AK:∀m,visit [] (rg m)=rg m
 |0=>rfl
 |m+1=>by rw[SD,tY,AK m,wL O (fun h=>by have:=(UN.1 h).2;omega)]
theorem JE {s:SS} {m:Nat} (hm:m≤(aF s).length):((aF s).take m).map (dZ (aF s))=rg m:=by
 apply List.ext_getElem
 ·simp[BisM3.rg];omega
 ·intro i h1 h2
  simp only [List.length_map,List.length_take] at h1
  rw[List.getElem_map,List.getElem_take]
  have hi:i<(aF s).length:=by omega
  have:=Jl (pY (aV s)) hi
  rw[aK hi] at this
  rw[←aK h2,EX O]
  exact this
theorem Tb {s:SS} (hs:oK s) {i:Nat} (hi:i<(aF s).length):((ix (aV s).sT (ix (aF s) i).toNat).next.map fun k=>if 0≤k then dZ (aF s) k else k)=(ix (tS s).sT i).next:=by
 have hbd:=hO hs hi
 have hx:(ix (aF s) i).toNat<s.sT.length:=by omega
 have hl:=(hs.st _ hx).len
 rw[nA hi,fX hx]
 show(cut (ix s.sT _) (aT (keep s _))).map _=jE s _
 unfold cut jE
 rw[List.map_map,hl]
 refine List.map_congr_left (fun a ha=> ?_)
 show(if 0≤(if _ then _ else _:Int) then dZ _ (if _ then _ else _) else(if _ then _ else _))=(if _ then _ else _)
 by_cases hh:has (aT (keep s (ix (aF s) i).toNat)) (a:Int)=true
 ·rw[if_pos hh]
  have hg:=kB hs hx hh
  rw[if_pos hg.2.1,if_pos hh]
 ·rw[if_neg hh,if_neg hh];rfl
theorem Vf {s:SS} (hs:oK s) {i:Nat} (hi:i<(aF s).length):rg (qn s (i+1))=visit (rg (qn s i)) (ix (tS s).sT i).next:=by
 have hol:=oQ hs
 have hgt:=Rn hs hi
 have hix:ix (bq (aV s) i) i=ix (aF s) i:=(lS (nI hs (i:=i) O) hgt).symm
 have hstep:bq (aV s) (i+1)=visit (bq (aV s) i) (ix (aV s).sT (ix (aF s) i).toNat).next:=by
  show(if i<(bq (aV s) i).length then _ else _)=_
  rw[if_pos hgt,hix]
 rw[←AK (qn s (i+1)),←AK (qn s i),←JE (Rm hs (i:=i+1) O),←JE (Rm hs (i:=i) O),←Js hs (i:=i+1) O,←Js hs (i:=i) O,hstep,
  Ah (g:=dZ (aF s)) (fun k=>(gG _ k).1),Tb hs hi]
theorem Vg {s:SS} (hs:oK s):∀i,i≤(aF s).length→bq (tS s) i=rg (qn s i)
 |0,_=>rfl
 |i+1,hi=>by
  have ih:=Vg hs i O
  have hgt:=Rn hs (i:=i) O
  show(if i<(bq (tS s) i).length then _ else _)=_
  rw[ih,yG,if_pos hgt,EX hgt,Int.toNat_natCast,Vf hs O]
theorem JF {s:SS} (hs:oK s):order (tS s)=rg (aF s).length:=by
 have hol:=oQ hs
 have e:bq (aV s) (aF s).length=aF s:=by
  refine yC hs ?_ hol
  exact(nI hs hol).length_le
 unfold order
 rw[kX,Vg hs _ (Nat.le_refl _)]
 show rg (bq (aV s) (aF s).length).length=_
 rw[e]
theorem WC {s:SS} (hs:oK s) (h0:ix (hOl s) 0=false):tS (tS s)=tS s:=by
 have ho:aF (tS s)=rg (aF s).length:=by
  show order (aV (tS s))=_
  rw[Gm hs h0,JF hs]
 have hT:=Rk hs
 show(⟨s.aC,(aF (tS s)).map (fQ (tS s))⟩:SS)=⟨s.aC,(aF s).map (fQ s)⟩
 congr 1
 rw[ho]
 apply List.ext_getElem
 ·simp[BisM3.rg]
 ·intro i h1 h2
  simp only [List.length_map,yG] at h1
  have hi:i<(aF s).length:=h1
  have e1:(rg (aF s).length)[i]'(by rw[yG];exact h1)=(i:Int):=by rw[←aK (by rw[yG];exact h1)];exact EX h1
  rw[List.getElem_map,e1]
  have e2:(List.map (fQ s) (aF s))[i]=ix (tS s).sT i:=(aK (by rw[kX];exact hi)).symm
  rw[e2]
  have hk:=Jr hs h0 hi
  unfold fQ jE
  rw[Int.toNat_natCast,hk,ho]
  have e3:ix (tS s).sT i=⟨keep s (ix (aF s) i).toNat,jE s (ix (aF s) i)⟩:=nA hi
  rw[e3]
  congr 1
  unfold jE
  refine List.map_congr_left fun a ha=> ?_
  have ha:a<s.aC.length:=List.mem_range.1 ha
  by_cases hh:has (aT (keep s (ix (aF s) i).toNat)) (a:Int)=true
  ·rw[if_pos hh,if_pos hh,cM ha,if_pos hh]
   obtain⟨p1,_⟩:=kZ (oR hs hi hh)
   have p0:=(gG (aF s) (ix (ix s.sT (ix (aF s) i).toNat).next a)).1
   have hnd:(rg (aF s).length).Nodup:=by
    have:=pY (tS s)
    rwa [JF hs] at this
   have hq:=Jl hnd (i:=(dZ (aF s) (ix (ix s.sT (ix (aF s) i).toNat).next a)).toNat) (by rw[yG];omega)
   rw[EX O,Int.toNat_of_nonneg p0] at hq
   exact hq
  ·rw[if_neg hh,if_neg hh]
theorem Nb {s:SS} (hs:oK s):(tR (tR s).1).1=(tR s).1:=by
 cases h:ix (hOl s) 0 with
 |true=>rw[dQ h];show(tR (nothing s.aC)).1=_;rw[dQ (vH _)];rfl
 |false=>
  rw[dE h]
  show(tR (tS s)).1=tS s
  rw[dE (yF hs h 0)]
  exact WC hs h
theorem sW {s:SS} (hs:oK s):Sim2 (aV (tR s).1) (aV s) 0 0:=by
 cases h:ix (hOl s) 0 with
 |true=>
  rw[dQ h]
  have f:=hs.few0
  have g:=(wM hs.acts).few0
  exact Jt (wM hs.acts) hs rfl O O (vH _) h
 |false=>
  rw[dE h]
  have hop:=jU s
  have:=UM hs h (i:=0) O
  show Sim2 (aV (tS s)) (aV s) 0 0
  rw[Gm hs h]
  rw[sL] at this
  exact this
theorem GD {s:SS} (hs:oK s):sQ s s:=((zP hs hs rfl).2 (Pk _ _)).1
theorem PM {s d:SS} (hs:oK s) (hd:oK d) (ha:s.aC=d.aC) (h:sQ s d∧sQ d s):sQ (tR s).1 d∧sQ d (tR s).1:=
 (zP (kC hs) hd ((kK s).trans ha)).2 ((sW hs).trans ((zP hs hd ha).1 h))
theorem wT {s:SS} (hs:oK s):(tR s).1.sT.length≤s.sT.length:=by
 cases h:ix (hOl s) 0 with
 |true=>rw[dQ h];have:=hs.few0;show 1≤_;omega
 |false=>rw[dE h];show((aF s).map _).length≤_;rw[List.length_map];exact oQ hs
end TrimI
end
section
namespace QuoM
open ref01 ref03 ref04 ref06 Part Rungs LeftM TrimM RoundM MergeM BisM BisM4 BisM5 WitM JudgM LevM divr divs divd divf ChsM BisS TrimI
section
variable {α:Type} [DecidableEq α] [Inhabited α]
def dL (l:List α) (p:α):List α:=if p∈l then l else l++ [p]
def iE (A:α→List Int) (N:α→Nat→α) (p:α) (ks:List Int) (l:List α):List α:=ks.foldl (fun l a=>dL l (N p a.toNat)) l
def bY (A:α→List Int) (p:α):List Int:=aL 63 (aT (A p))
def oT (A:α→List Int) (N:α→Nat→α) (l:List α) (p:α):List α:=iE A N p (bY A p) l
def iB (A:α→List Int) (N:α→Nat→α):Nat→Nat→List α→List α
 |0,_,l=>l
 |f+1,i,l=>if i<l.length then iB A N f (i+1) (oT A N l (ix l i)) else l
theorem uP (l:List α) (p:α):l<+:dL l p:=by
 unfold dL
 split
 ·exact List.prefix_rfl
 ·exact List.prefix_append _ _
theorem AO (l:List α) (p:α):p∈dL l p:=by
 unfold dL
 split
 ·assumption
 ·simp
theorem fK (A:α→List Int) (N:α→Nat→α) (p:α):∀(ks:List Int) (l:List α),l<+:iE A N p ks l
 | [],l=>List.prefix_rfl
 |a::ks,l=>(uP l _).trans (fK A N p ks _)
theorem Eo (A:α→List Int) (N:α→Nat→α) (p:α) (ks:List Int) (a:Int) (l:List α):iE A N p (ks++ [a]) l=dL (iE A N p ks l) (N p a.toNat):=by
 unfold iE;rw[List.foldl_append];rfl
theorem GF (A:α→List Int) (N:α→Nat→α) (p:α):∀(ks:List Int) (l:List α) (a:Int),a∈ks→N p a.toNat∈iE A N p ks l
 | [],l,a,h=>nomatch h
 |b::ks,l,a,h=>by
  rcases List.mem_cons.1 h with rfl|h
  ·exact(fK A N p ks _).subset (AO l _)
  ·exact GF A N p ks _ a h
theorem wU (A:α→List Int) (N:α→Nat→α):∀(f i:Nat) (l:List α),l<+:iB A N f i l
 |0,i,l=>List.prefix_rfl
 |f+1,i,l=>by
  unfold iB
  split
  ·exact(fK A N _ _ l).trans (wU A N f (i+1) _)
  ·exact List.prefix_rfl
structure pP (A:α→List Int) (N:α→Nat→α) (ok:α→Prop) (z:α) (i:Nat) (l:List α):Prop where
 nd:l.Nodup
 ne:0<l.length
 hd:ix l 0=z
 ok:∀p∈l,ok p
 dn:∀j,j<i→j<l.length→∀a∈bY A (ix l j),N (ix l j) a.toNat∈l
theorem qO {l m:List α} (h:l<+:m) {j:Nat} (hj:j<l.length):ix m j=ix l j:=by
 obtain⟨t,rfl⟩:=h
 unfold ix
 rw[List.getD_eq_getElem?_getD,List.getD_eq_getElem?_getD,List.getElem?_append_left hj]
theorem zV {l:List α} {p:α} (h:l.Nodup):(dL l p).Nodup:=by
 unfold dL
 split
 ·exact h
 ·next g=>
  rw[List.nodup_append]
  refine⟨h,by simp,fun a ha b hb e=> ?_⟩
  rw[List.mem_singleton.1 hb] at e
  subst e;exact g ha
theorem JG {l:List α} {p q:α} (h:q∈dL l p):q∈l∨q=p:=by
 unfold dL at h
 split at h
 ·exact .inl h
 ·rcases List.mem_append.1 h with h|h
  ·exact .inl h
  ·exact .inr (List.mem_singleton.1 h)
theorem JH (A:α→List Int) (N:α→Nat→α) (p:α):∀(ks:List Int) (l:List α),l.Nodup→(iE A N p ks l).Nodup
 | [],l,h=>h
 |a::ks,l,h=>JH A N p ks _ (zV h)
theorem JI (A:α→List Int) (N:α→Nat→α) (p:α):∀(ks:List Int) (l:List α) (q:α),q∈iE A N p ks l→q∈l∨∃a∈ks,q=N p a.toNat
 | [],l,q,h=> .inl h
 |a::ks,l,q,h=>by
  rcases JI A N p ks _ q h with h|⟨b,hb,e⟩
  ·rcases JG h with h|h
   ·exact .inl h
   ·exact .inr ⟨a,List.mem_cons_self,h⟩
  ·exact .inr ⟨b,List.mem_cons_of_mem _ hb,e⟩
variable {A:α→List Int} {N:α→Nat→α} {ok:α→Prop} {z:α}
theorem Nc (hok:∀p,ok p→∀a∈bY A p,ok (N p a.toNat)) {i:Nat} {l:List α} (h:pP A N ok z i l) (hi:i<l.length):pP A N ok z (i+1) (oT A N l (ix l i)):=by
 have hp:=fK A N (ix l i) (bY A (ix l i)) l
 refine⟨JH A N _ _ l h.nd,Nat.lt_of_lt_of_le h.ne hp.length_le,(qO hp h.ne).trans h.hd,fun p hq=> ?_,fun j hj hl a ha=> ?_⟩
 ·rcases JI A N _ _ l p hq with g|⟨a,ha,rfl⟩
  ·exact h.ok p g
  ·exact hok _ (h.ok _ (aX hi)) a ha
 ·have hjl:j<l.length:=by omega
  have e:ix (oT A N l (ix l i)) j=ix l j:=qO hp hjl
  rw[e] at ha ⊢
  by_cases g:j<i
  ·exact hp.subset (h.dn j g hjl a ha)
  ·have:j=i:=by omega
   subst this
   exact GF A N _ _ l a ha
theorem GG (hok:∀p,ok p→∀a∈bY A p,ok (N p a.toNat)):∀(f i:Nat) (l:List α),i≤l.length→pP A N ok z i l→∃j,j≤(iB A N f i l).length∧pP A N ok z j (iB A N f i l)∧(j=(iB A N f i l).length∨j=i+f)
 |0,i,l,hi,h=>⟨i,hi,h,.inr O⟩
 |f+1,i,l,hi,h=>by
  unfold iB
  split
  ·next g=>
   have hp:=fK A N (ix l i) (bY A (ix l i)) l
   obtain⟨j,h1,h2,h3⟩:=GG hok f (i+1) _ (by have:=hp.length_le;show _≤(oT A N l (ix l i)).length;unfold oT;omega) (Nc hok h g)
   exact⟨j,h1,h2,O⟩
  ·next g=>exact⟨i,hi,h,.inl O⟩
theorem GH (hok:∀p,ok p→∀a∈bY A p,ok (N p a.toNat)) {B:Nat} (hB:∀l:List α,l.Nodup→(∀p∈l,ok p)→l.length≤B) {l:List α} (h:pP A N ok z 0 l) {f:Nat} (hf:B≤f):pP A N ok z (iB A N f 0 l).length (iB A N f 0 l):=by
 obtain⟨j,h1,h2,h3⟩:=GG hok f 0 l O h
 have:=hB _ h2.nd h2.ok
 have e:j=(iB A N f 0 l).length:=by omega
 rwa [e] at h2
def ofL (A:α→List Int) (N:α→Nat→α) (n:Nat) (L:List α) (p:α):SA:=⟨A p,(List.range n).map fun(a:Nat)=>if has (aT (A p)) (a:Int)=true then(L.idxOf (N p a):Int) else-1⟩
theorem JJ (hn:∀p,ok p→∀a:Nat,has (aT (A p)) (a:Int)=true→a<63) {n:Nat} {L:List α} (h:pP A N ok z L.length L) (acts:List ByteArray):uO A N n z L ⟨acts,L.map (ofL A N n L)⟩:=by
 have hat:∀i,i<L.length→ix (L.map (ofL A N n L)) i=ofL A N n L (ix L i):=fun i hi=>TurnM.SE hi
 refine⟨by simp,h.nd,h.ne,h.hd,fun i hi=> ?_,fun i hi=> ?_,fun i hi a ha=> ?_,fun i hi a ha hh=> ?_⟩
 ·show(ix (L.map (ofL A N n L)) i).aP=_
  rw[hat i hi];rfl
 ·show(ix (L.map (ofL A N n L)) i).next.length=_
  rw[hat i hi];simp[ofL]
 ·show ix (ix (L.map (ofL A N n L)) i).next a=_
  rw[hat i hi]
  exact cM ha
 ·have:=h.dn i hi hi (a:Int) (eF.2 ⟨a,rfl,hn _ (h.ok _ (aX hi)) a hh,hh⟩)
  rwa [Int.toNat_natCast] at this
theorem JK {n:Nat} {L:List α} {D:SS} (hD:uO A N n z L D) (hact:dH D.aC=true) (hn:D.aC.length=n) (hl:L.length≤10000) (hb:∀p∈L,∀u∈A p,0≤u∧u<256) (hg:∀p∈L,∀a:Nat,has (aT (A p)) (a:Int)=true→a<n) (hr:∀p∈L,rising (A p)=true):oK D:=by
 have n8:=iI hact
 refine⟨hact,n8,by rw[hD.len];exact hD.ne,by rw[hD.len];exact hl,fun k hk=> ?_⟩
 rw[hD.len] at hk
 have hm:ix L k∈L:=aX hk
 have ea:(ix D.sT k).aP=A (ix L k):=hD.acc k hk
 have en:(ix D.sT k).next.length=n:=hD.nl k hk
 have ex:∀a,a<n→ix (ix D.sT k).next a=if has (aT (A (ix L k))) (a:Int)=true then(L.idxOf (N (ix L k) a):Int) else-1:=hD.nx k hk
 refine⟨by rw[en,hn],fun a ha=> ?_,fun i hi=> ?_,fun i hi a ha=> ?_,by rw[ea];exact hr _ hm⟩
 ·rw[ex a O]
  by_cases hh:has (aT (A (ix L k))) (a:Int)=true
  ·rw[if_pos hh]
   have:=List.idxOf_lt_length_of_mem (hD.cl k hk a O hh)
   rw[hD.len];omega
  ·rw[if_neg hh];omega
 ·rw[ea] at hi ⊢
  exact hb _ hm _ (aX hi)
 ·rw[ea] at hi ha
  have hh:has (aT (A (ix L k))) (a:Int)=true:=(cS _ _).2 ⟨_,aX hi,ha⟩
  have:=hg _ hm a hh
  rw[ex a this,if_pos hh]
  omega
end
abbrev pix (l:List PP) (p:PP):Nat:= @List.idxOf PP instBEqOfDecidableEq p l
theorem yM {α:Type} [DecidableEq α] {l:List α} {p:α} (h:p∈l):l.idxOf p<l.length:=List.idxOf_lt_length_of_mem h
theorem vJ {α:Type} [DecidableEq α] [Inhabited α] {l:List α} {p:α} (h:p∈l):ix l (l.idxOf p)=p:=by rw[aK (yM h)];exact List.getElem_idxOf _
theorem JL {α:Type} [DecidableEq α] {l r:List α} {p:α} (h:p∈l):(l++r).idxOf p=l.idxOf p:=by rw[List.idxOf_append,if_pos h]
theorem JM {α:Type} [DecidableEq α] {l:List α} {p:α} (h:p∉l):(l++ [p]).idxOf p=l.length:=by rw[List.idxOf_append,if_neg h];simp
theorem Nf {α:Type} [DecidableEq α] [Inhabited α] {l:List α} {p:α} {k:Nat} (hk:k<l.length) (h:ix l k=p):l.idxOf p≤k:=by
 rcases Nat.lt_or_ge k (l.idxOf p) with g|g
 ·have hf:=List.not_of_lt_findIdx (p:=(· ==p)) (xs:=l) (i:=k) (by unfold List.idxOf at g;exact g)
  rw[aK hk] at h
  simp[h] at hf
 ·exact g
def bes:PP:=(-1,-1)
def bG (n:Nat):List Int:=(List.range (2^n)).map fun(x:Nat)=>(x:Int)
def qA (t s:SS) (p:PP):List Int:=if p=bes then bG t.aC.length else(bG t.aC.length).filter (oU (ix t.sT p.1.toNat) (ix s.sT p.2.toNat))
def qN (t s:SS) (p:PP) (a:Nat):PP:=if p≠bes∧0≤ix (nxt s p.2.toNat) a then(ix (nxt t p.1.toNat) a,ix (nxt s p.2.toNat) a) else bes
def qOk (t s:SS) (p:PP):Prop:=p=bes∨(0≤p.1∧p.1<(t.sT.length:Int)∧0≤p.2∧p.2<(s.sT.length:Int))
theorem nL {n:Nat} {u:Int}:u∈bG n↔0≤u∧u<((2^n:Nat):Int):=by
 unfold bG
 rw[List.mem_map]
 constructor
 ·rintro⟨k,hk,rfl⟩
  have:=List.mem_range.1 hk
  omega
 ·rintro⟨h0,h1⟩
  exact⟨u.toNat,List.mem_range.2 O,O⟩
theorem Ng {t s:SS} {p:PP} {u:Int} (h:u∈qA t s p):u∈bG t.aC.length:=by
 unfold qA at h
 split at h
 ·exact h
 ·exact(List.mem_filter.1 h).1
theorem Vh {t s:SS} {p:PP} (hp:p≠bes) {u:Int} (h:u∈qA t s p):oU (ix t.sT p.1.toNat) (ix s.sT p.2.toNat) u=true:=by
 unfold qA at h
 rw[if_neg hp] at h
 exact(List.mem_filter.1 h).2
theorem uB (n:Nat):(bG n).Pairwise (· < ·):=by
 unfold bG
 rw[List.pairwise_map]
 exact List.pairwise_lt_range.imp fun h=>by omega
theorem Tc (t s:SS) (p:PP):rising (qA t s p)=true:=by
 refine qJ ?_
 unfold qA
 split
 ·exact uB _
 ·exact(uB _).filter _
theorem Rq {t s:SS} (hn:t.aC.length≤8) {p:PP} {u:Int} (h:u∈qA t s p):0≤u∧u<256:=by
 have:=nL.1 (Ng h)
 have h2:2^t.aC.length≤2^8:=Nat.pow_le_pow_right O hn
 omega
theorem Db {n:Nat} {u:Int} (h:u∈bG n) {a:Nat} (ha:has u (a:Int)=true):a<n:=by
 have hu:=nL.1 h
 unfold has at ha
 rw[Int.toNat_natCast] at ha
 have h7:2^a≤u.toNat:=Nat.ge_two_pow_of_testBit ha
 exact(Nat.pow_lt_pow_iff_right (a:=2) O).1 O
theorem Cj {t s:SS} {p:PP} {a:Nat} (h:has (aT (qA t s p)) (a:Int)=true):a<t.aC.length:=by
 obtain⟨u,hu,ha⟩:=(cS _ _).1 h
 exact Db (Ng hu) ha
theorem pH {u o:Int} {a:Nat}:has (bS u o) (a:Int)=(has u (a:Int)&&has o (a:Int)):=by
 unfold has bS
 rw[Int.toNat_natCast,Int.toNat_natCast,Nat.testBit_and]
theorem Rs {t s:SS} (ht:oK t) (hs:oK s) (hu:AH s) (ha:s.aC.length=t.aC.length) {p:PP} (hp:qOk t s p) (hb:p≠bes) {a:Nat} (h:has (aT (qA t s p)) (a:Int)=true) (h0:0≤ix (nxt s p.2.toNat) a):
 0≤ix (nxt t p.1.toNat) a∧ix (nxt t p.1.toNat) a<(t.sT.length:Int)∧ix (nxt s p.2.toNat) a<(s.sT.length:Int):=by
 obtain⟨p0,p1,p2,p3⟩:=hp.resolve_left hb
 have han:=Cj h
 have hx:p.1.toNat<t.sT.length:=by omega
 have hy:p.2.toNat<s.sT.length:=by omega
 obtain⟨u,hu1,hu2⟩:=(cS _ _).1 h
 have hf:=Vh hb hu1
 obtain⟨o,ho1,ho2⟩:=(cS _ _).1 ((hu _ hy a O).1 h0)
 unfold oU at hf
 have hin:bS u o∈(ix t.sT p.1.toNat).aP:=by simpa using List.all_eq_true.1 hf o ho1
 have hg:=Gb (ht.st _ hx) hin (a:=a) (by rw[pH,hu2,ho2];rfl)
 exact⟨hg.2,((ht.st _ hx).nx a han).2,((hs.st _ hy).nx a O).2⟩
theorem Rt {t s:SS} (ht:oK t) (hs:oK s) (hu:AH s) (ha:s.aC.length=t.aC.length) {p:PP} (hp:qOk t s p) {a:Nat} (h:has (aT (qA t s p)) (a:Int)=true):qOk t s (qN t s p a):=by
 unfold qN
 split
 ·next g=>
  have:=Rs ht hs hu ha hp g.1 h g.2
  exact .inr ⟨this.1,this.2.1,g.2,this.2.2⟩
 ·exact .inl rfl
theorem Td {t s:SS} (ht:oK t) (hs:oK s) (hu:AH s) (ha:s.aC.length=t.aC.length):∀p,qOk t s p→∀a∈bY (qA t s) p,qOk t s (qN t s p a.toNat):=fun p hp a h=>by
 obtain⟨b,rfl,_,hb⟩:=eF.1 h
 rw[Int.toNat_natCast]
 exact Rt ht hs hu ha hp hb
theorem Ck {α:Type} (f:α→Bool):∀l:List α,l.length=(l.filter f).length+(l.filter fun p=> !f p).length
 | []=>rfl
 |a::l=>by
  have:=Ck f l
  cases h:f a<;>simp[h]<;>omega
def Dc (p:PP):Bool:=decide (p≠bes)
theorem Ru {t s:SS} (l:List PP) (hn:l.Nodup) (h:∀p∈l,qOk t s p):l.length≤t.sT.length*s.sT.length+1:=by
 have h1:=qB t.sT.length s.sT.length (l.filter Dc) (List.filter_sublist.nodup hn) (fun p hp=>by
  obtain⟨g1,g2⟩:=List.mem_filter.1 hp
  exact(h p g1).resolve_left (by simpa [Dc] using g2))
 have h2:(l.filter fun p=> !Dc p).length≤1:=by
  have hnd:(l.filter fun p=> !Dc p).Nodup:=List.filter_sublist.nodup hn
  have:=List.Nodup.length_le_of_subset hnd (l₂:= [bes]) (fun p hp=>by
   have:=(List.mem_filter.1 hp).2
   simpa [Dc] using this)
  simpa using this
 have h3:=Ck Dc l
 omega
def qL (t s:SS):List PP:=iB (qA t s) (qN t s) (t.sT.length*s.sT.length+1) 0 [(0,0)]
theorem Nh {t s:SS} (ht:oK t) (hs:oK s):pP (qA t s) (qN t s) (qOk t s) (0,0) 0 [(0,0)]:=by
 have f1:=ht.few0
 have f2:=hs.few0
 exact⟨by simp,by simp,rfl,fun p hp=>by rw[List.mem_singleton.1 hp];exact .inr ⟨by simp,by show(0:Int)<_;omega,by simp,by show(0:Int)<_;omega⟩,fun j hj=>absurd hj O⟩
theorem Vi {t s:SS} (ht:oK t) (hs:oK s) (hu:AH s) (ha:s.aC.length=t.aC.length):pP (qA t s) (qN t s) (qOk t s) (0,0) (qL t s).length (qL t s):=
 GH (Td ht hs hu ha) (fun l=>Ru l) (Nh ht hs) (Nat.le_refl _)
def eM (t s:SS):SS:=⟨t.aC,(qL t s).map (ofL (qA t s) (qN t s) t.aC.length (qL t s))⟩
theorem GI {t s:SS} (ht:oK t) (hs:oK s) (hu:AH s) (ha:s.aC.length=t.aC.length):uO (qA t s) (qN t s) t.aC.length (0,0) (qL t s) (eM t s):=
 JJ (fun p hp a h=>by have:=Cj h;have:=ht.n8;omega) (Vi ht hs hu ha) _
theorem PO {t s:SS} (ht:oK t) {l:List PP} {D:SS} (h:uO (qA t s) (qN t s) t.aC.length (0,0) l D) (ha:D.aC=t.aC) (hl:l.length≤10000):oK D:=
 JK h (by rw[ha];exact ht.acts) (by rw[ha]) hl (fun p _ u hu=>Rq ht.n8 hu) (fun p _ a h=>Cj h) (fun p _=>Tc t s p)
end QuoM
end
section
namespace FailM
open ref01 ref03 ref04 ref06 prog15 starts Part Rungs LeftM TrimM RoundM BisM BisM5 BisM6 WalkM StepM WitM JudgM LevM divs QuoM
abbrev T3:=Int × Int × Int
structure M5 where
 x:Int
 t:Int
 s:Int
 before:Int
 action:Int
deriving Inhabited,DecidableEq
def tri (m:M5):T3:=(m.x,m.t,m.s)
def Xq (m:M5):Mt:=⟨m.s,m.t,m.before,m.action⟩
def Ld (mm:List (T3 × Bool)) (l:List T3):Prop:=∀p,bJ mm p=if p∈l then some true else none
def Lf (x:aA) (t s:SS) (p:T3):Prop:=∃o∈acc s p.2.2.toNat,bS (cJ x p.1.toNat) o∉acc t p.2.1.toNat
def nx3 (t s:SS) (p:T3) (e:PP):T3:=(e.2,ix (nxt t p.2.1.toNat) e.1.toNat,ix (nxt s p.2.2.toNat) e.1.toNat)
inductive GJ (x:aA) (t s:SS):T3→Prop
 |zero:GJ x t s (0,0,0)
 |step {p:T3} {e:PP}:GJ x t s p→¬Lf x t s p→e∈edg x p.1.toNat→0≤ix (nxt s p.2.2.toNat) e.1.toNat→GJ x t s (nx3 t s p e)
def Rv (x:aA) (t s:SS):Prop:=∀p,GJ x t s p→¬Lf x t s p
variable {x:aA} {t s:SS}
structure QF (x:aA) (t s:SS) (q:List M5):Prop where
 ne:0<q.length
 hd:ix q 0=⟨0,0,0,-1,0⟩
 nd:(q.map tri).Nodup
 rch:∀m∈q,GJ x t s (tri m)
 back:∀k,0<k→k<q.length→∃(b:Nat) (e:PP),(ix q k).before=(b:Int)∧(ix q k).action=e.1∧b<k∧¬Lf x t s (tri (ix q b))∧e∈edg x (ix q b).x.toNat∧0≤ix (nxt s (ix q b).s.toNat) e.1.toNat∧tri (ix q k)=nx3 t s (tri (ix q b)) e
def WE (x:aA) (t s:SS) (q:List M5) (k:Nat):Prop:=
 ¬Lf x t s (tri (ix q k))∧∀e∈edg x (ix q k).x.toNat,0≤ix (nxt s (ix q k).s.toNat) e.1.toNat→nx3 t s (tri (ix q k)) e∈q.map tri
structure XN (x:aA) (t s:SS) (q:List M5) (i k:Nat) (q2:List M5) (mm2:List (T3 × Bool)):Prop where
 qi:QF x t s q2
 sm:Ld mm2 (q2.map tri)
 pre:q<+:q2
 dn:∀j,j<i→WE x t s q2 j
 al:∀e∈(edg x (ix q i).x.toNat).take k,0≤ix (nxt s (ix q i).s.toNat) e.1.toNat→nx3 t s (tri (ix q i)) e∈q2.map tri
variable {q q2:List M5} {i k:Nat} {mm mm2:List (T3 × Bool)}
abbrev Rw (q:List M5) (k:Nat):List Int:=mR (q.map Xq) k
structure XE (x:aA) (t s:SS) (z:List Int × Int × Bool):Prop where
 none:z.2.2=false→z.1= []∧z.2.1=0∧Rv x t s
 some:z.2.2=true→∃q i,QF x t s q∧i<q.length∧z.1=Rw q i∧z.2.1∈acc s (ix q i).s.toNat∧bS (cJ x (ix q i).x.toNat) z.2.1∉acc t (ix q i).t.toNat
end FailM
end
section
namespace DivM
open ref01 ref03 ref04 ref06 Part Rungs LeftM TrimM RoundM MergeM BisM BisM2 BisM4 BisM5 BisM6 WalkM WitM JudgM JudgM2 LevM divr divs divd dive divg divw divv refj sysw ChsM BisS TrimI ValidM WitSat WitVal QuoM
theorem PR (l:List ByteArray):ix (cY l).sT 0=⟨bG l.length,List.replicate l.length 0⟩:=rfl
theorem vK {n a:Nat} (v:Int) (h:a<n):ix (List.replicate n v) a=v:=by rw[aK (by simpa using h)];simp
theorem PS {l:List ByteArray} (h:dH l=true):oK (cY l):=by
 have n8:=iI h
 refine⟨h,n8,by show 1≤1;omega,by show 1≤10000;omega,fun k hk=> ?_⟩
 have hk:k<1:=hk
 obtain rfl:k=0:=by omega
 rw[PR]
 have h2:2^l.length≤2^8:=Nat.pow_le_pow_right O n8
 refine⟨by simp[cY],fun a ha=> ?_,fun i hi=> ?_,fun i hi a ha=> ?_,qJ (uB _)⟩
 ·have ha:a<l.length:=ha
  show-1≤ix (List.replicate l.length 0) a∧ix (List.replicate l.length 0) a<((1:Nat):Int)
  rw[vK 0 ha];omega
 ·have:=nL.1 (aX hi)
  show 0≤ix (bG l.length) i∧ix (bG l.length) i<256
  omega
 ·have:=Db (aX hi) ha
  refine⟨this,?_⟩
  show 0≤ix (List.replicate l.length 0) a
  rw[vK 0 this];omega
noncomputable def bN (t s:SS):SS × Bool:=
 if ix (hOl s) 0=true then(cY t.aC,true)
 else if (qL t (tR s).1).length≤500 then((tR (eM t (tR s).1)).1,true) else(⟨[],[]⟩,false)
noncomputable def Lg (t s:SS):SS × Int:=
 if iP t s=0 then(if (bN t s).2=true then((bN t s).1,0) else(⟨[],[]⟩,2)) else(⟨[],[]⟩,iP t s)
structure XO (t s D:SS):Prop where
 acts:D.aC=t.aC
 hol:ix (hOl s) 0=true→D=cY t.aC
 num:ix (hOl s) 0=false→∃l,uO (qA t (tR s).1) (qN t (tR s).1) t.aC.length (0,0) l D∧l.length≤t.sT.length*s.sT.length+1
structure Same (q D:SS):Prop where
 ok:oK q
 few:q.sT.length≤500
 acts:q.aC=D.aC
 trim:(tR q).1=q
 r1:sQ q D
 r2:sQ D q
theorem Vj {t s:SS} (ht:oK t) (hs:oK s) (ha:t.aC=s.aC) (hq:(bN t s).2=true):oK (bN t s).1:=by
 unfold bN at hq ⊢
 cases e:ix (hOl s) 0 with
 |true=>rw[if_pos rfl];exact PS ht.acts
 |false=>
  rw[e] at hq
  rw[if_neg (by simp)] at hq ⊢
  split at hq
  ·next g=>
   rw[if_pos g]
   exact kC (PO ht (GI ht (kC hs) (yL hs) (by rw[kK,←ha])) rfl O)
  ·cases hq
structure XF (t s:SS) (z:aA × Int):Prop where
 no:(Lg t s).2≠0→z=(⟨[],[]⟩,(Lg t s).2)
 yes:(Lg t s).2=0→Vb (Lg t s).1 z
theorem Lh {q D:SS} (h:Same q D) (hD:oK D):ix (hOl q) 0=ix (hOl D) 0:=by
 have f1:=h.ok.few0
 have f2:=hD.few0
 have hs:=(zP h.ok hD h.acts).1 ⟨h.r1,h.r2⟩
 cases h1:ix (hOl q) 0<;>cases h2:ix (hOl D) 0
 ·rfl
 ·exact absurd hs.symm (zO O O h2 h1)
 ·exact absurd hs (zO O O h1 h2)
 ·rfl
end DivM
end
end Go.Proofs.YtnlfjojfgghchaaGreatDoor
