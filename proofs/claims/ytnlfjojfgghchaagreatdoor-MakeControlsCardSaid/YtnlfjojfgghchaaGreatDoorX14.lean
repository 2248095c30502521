/- The walks of the functions and the plain laws. Own texts of this claim, packed: MkLawP, MkJudgM, Mksysw, Mkdivr, Mkdivs, MkLevM, Mkdivd, MkJudgM2, Mkrefj, Mkdive, MkLevM2, Mkdivg, MkWitSat, MkWitVal, MkBisS, Mkdivw, Mkdivv, Mkdivf, MkChsM, MkValidM, MkTrimI, MkQuoM, MkFailM, MkDivM. -/
import Derived.Test.YtnlfjojfgghchaaGreatDoorX04
import Derived.Test.YtnlfjojfgghchaaGreatDoorX12
import Derived.Test.YtnlfjojfgghchaaGreatDoorX13
import Derived.Test.YtnlfjojfgghchaaGreatDoorRows
import Derived.ProofKit
import Derived.LaidMore
import Derived.Lib.LaidTab
import Derived.Lib.SmallJoins
import Derived.OpenShut
import Derived.Stop.Joined
import Derived.Test.YtnlfjojfgghchaaGreatDoorX10
import Derived.Test.YtnlfjojfgghchaaGreatDoorX06
import Derived.Test.YtnlfjojfgghchaaGreatDoorX08
set_option linter.all false
namespace Go.Proofs.YtnlfjojfgghchaaGreatDoor
open AL Go
set_option maxRecDepth 100000
section
open ref01 ref03 ref04 ref06 prog prog2 prog6 Itoa
open Go.ChangeShapes Go.WideShapes Go.ChangeAt Go.WideElems Go.RowKit
namespace LawOpen
theorem laidOut:laidOutB Tryz.prog=true:=by kernel_rfl
theorem own:ownKnob Tryz.prog.godebug=none:=by kernel_rfl
theorem uG {H:Type} {P:Program} {t:TypeId} {fs:Array Field} {ps:List (DataW H)} (h:P.underlying t=some (.struct fs)):(DataW.agg ps:DataW H).weights P t=DataW.weightsEach P (fs.toList.map (·.type)) ps:=by
 simp[DataW.weights,h]
section
variable {H:Type} {enc:TypeId × Value→H} {W:World}
attribute [local semireducible] agg in
theorem Hm {m:Nat} {cs:List Value} {y:DataW H × List MemPlace} (h:DataW.trod enc Tryz.prog W 0 (fun _=>true) true m 79 cs=some y) (hz:∀k∈y.1.weights Tryz.prog 79,k≤reachBytes) (hl:cs.length=2):
 ∃x:SA,All2 W (lA W) (sE x) cs∧∀t∈x.aP,t<2^63:=by
 obtain⟨y0,y1,n,hx,_,h0,h1⟩:=trod_struct2 Tryz.underlying79 h
 subst hx
 have hz:∀k∈y0.1.weights Tryz.prog 66++(y1.1.weights Tryz.prog 66++ []),k≤reachBytes:=by
  have e:(DataW.agg [y0.1,y1.1]:DataW H).weights Tryz.prog 79=y0.1.weights Tryz.prog 66++(y1.1.weights Tryz.prog 66++ []):=by
   rw[uG Tryz.underlying79]
   simp[DataW.weightsEach]
  rw[←e];exact hz
 have c28:Tryz.prog.cellsOf 66=1:=by kernel_rfl
 have c3:Tryz.prog.cellsOf 3=1:=by kernel_rfl
 have b3:1≤Tryz.prog.bytesOf 3:=by have:Tryz.prog.bytesOf 3=8:=kR;omega
 match cs,hl with
 | [v0,v1],_=>
   have h0:DataW.trod enc Tryz.prog W 0 (fun _=>true) true n 66 (([v0,v1].drop 0).take (Tryz.prog.cellsOf 66))=some y0:=h0
   have h1:DataW.trod enc Tryz.prog W 0 (fun _=>true) true n 66 (([v0,v1].drop 1).take (Tryz.prog.cellsOf 66))=some y1:=h1
   rw[c28] at h0 h1
   obtain⟨ys,g1,g2⟩:=BI Tryz.underlying66 Tryz.underlying3 c3 b3 h0 (fun k hk=>hz k (List.mem_append.2 (.inl hk)))
   obtain⟨zs,g3,_⟩:=BI Tryz.underlying66 Tryz.underlying3 c3 b3 h1 (fun k hk=>hz k (List.mem_append.2 (.inr (List.mem_append.2 (.inl hk)))))
   exact⟨⟨ys,zs⟩,⟨g1,g3,tV⟩,fun t ht=>by have:=g2 t ht;omega⟩
attribute [local semireducible] agg in
theorem JR {r:Reach} {b0:Nat} {v:Value} {d:DataW H} {p:List MemPlace} (hv:Value.okWide Tryz.prog W r b0 28 v) (h:DataW.Trod enc Tryz.prog W 0 (fun _=>true) true 28 v d p) (hz:∀k∈d.weights Tryz.prog 28,k≤reachBytes):
 ∃s:SS,(spec s).p W (lA W) v∧jH s:=by
 obtain⟨v0,v1,y0,y1,n,rfl,rfl,rfl,h0,h1⟩:=Go.Joins.open_agg2 Tryz.underlying28 kR kR hv h
 have hz:∀k∈y0.1.weights Tryz.prog 22++(y1.1.weights Tryz.prog 26++ []),k≤reachBytes:=by
  have e:(DataW.agg [y0.1,y1.1]:DataW H).weights Tryz.prog 28=y0.1.weights Tryz.prog 22++(y1.1.weights Tryz.prog 26++ []):=by
   rw[uG Tryz.underlying28]
   simp[DataW.weightsEach]
  rw[←e];exact hz
 have c9:Tryz.prog.cellsOf 9=1:=by kernel_rfl
 have b9:1≤Tryz.prog.bytesOf 9:=by have:Tryz.prog.bytesOf 9=16:=kR;omega
 have c69:Tryz.prog.cellsOf 79=2:=by kernel_rfl
 have b69:1≤Tryz.prog.bytesOf 79:=by have:Tryz.prog.bytesOf 79=48:=kR;omega
 obtain⟨al,g1⟩:=BJ Tryz.underlying22 Tryz.underlying9 c9 b9 h0 (fun k hk=>hz k (List.mem_append.2 (.inl hk)))
 obtain⟨xs,g2,g3⟩:=sB (n:=2) (E:=sE) Tryz.underlying26 c69 (by decide) b69 h1 (fun k hk=>hz k (List.mem_append.2 (.inr (List.mem_append.2 (.inl hk))))) (fun x=> ∀t∈x.aP,t<2^63) (fun m cs y hy hw hl=>Hm hy hw hl)
 refine⟨⟨al,xs⟩,⟨[v0,v1],rfl,g1,g2,tV⟩,fun k hk i hi=> ?_⟩
 have hk:k<xs.length:=hk
 have hi:i<(ix xs k).aP.length:=hi
 exact g3 (ix xs k) (Rungs.aQ hk) _ (Rungs.iJ hi)
end
abbrev BK:List (String × DataW Unit):= [("math/bits.deBruijn32tab",Rows.laid_math_bits_deBruijn32tab),("math/bits.deBruijn64tab",Rows.laid_math_bits_deBruijn64tab),("internal/strconv.uint64pow10",Rows.laid_internal_strconv_uint64pow10)]
theorem Hn {W:World} (h:laidMetH Tryz.prog BK W) (v:Value):tab.p W (lA W) v:=by
 rw[MakeChecks.laidMetH_plain _ _ _ kR] at h
 obtain⟨ps,⟨g0,t0,cs0,f0,p0,q0,hg0,ht0,hv0,hd0,⟨g1,t1,cs1,f1,p1,q1,hg1,ht1,hv1,hd1,⟨g2,t2,cs2,f2,p2,q2,hg2,ht2,hv2,hd2,_,_⟩,_⟩,_⟩,_,_⟩:=h
 have e0:g2=0:=Option.some.inj (hg2.symm.trans (show Tryz.prog.globalNamed "internal/strconv.uint64pow10" =some 0 by kernel_rfl))
 subst e0
 have e1:t2=267:=Option.some.inj (ht2.symm.trans (show(Tryz.prog.globals[0]?).map (·.type)=some 267 by kernel_rfl))
 subst e1
 have hc:=Lib.cells_of_tab (zs:=Lib.pow10Tab) (k:= .u64) Tryz.underlying267 Tryz.underlying219 kR kR hd2
 refine⟨0,by kernel_rfl,?_,?_⟩
 ·have h2:=hv2
  unfold World.var? at h2
  rw[show Tryz.prog.globalNamed "internal/strconv.uint64pow10" =some 0 by kernel_rfl] at h2
  simp only [Option.bind_some] at h2
  show 0<W.heap.size
  cases hh:W.heap[0]? with
  |none=>rw[hh] at h2;cases h2
  |some o=>exact(Array.getElem?_eq_some_iff.1 hh).1
 ·unfold Lib.TabIs Cy
  rw[hv2,←hc]
end LawOpen
open LawOpen
namespace LawOpen2
theorem Oy (os:Os) (args:Array Value):laidMetH Tryz.prog BK ((World.doorLaid Tryz.prog 400 os).forCall (fun _ _=>0) ⟨#[],args,[]⟩).memory:=
 laidMetH_of_parts3 (fuel:=8) (laidMet_of_run' 8 kR kR) kR kR
end LawOpen2
open LawOpen2 WitM wit
namespace LawOpen3
section
variable {H:Type} {enc:TypeId × Value→H} {W:World}
attribute [local semireducible] eqv in
theorem JS {m:Nat} {cs:List Value} {y:DataW H × List MemPlace} (h:DataW.trod enc Tryz.prog W 0 (fun _=>true) true m 94 cs=some y) (hl:cs.length=2):
 ∃x:Int × Int,All2 W (lA W) (pE x) cs∧True:=by
 obtain⟨y0,y1,n,_,_,h0,h1⟩:=trod_struct2 Tryz.underlying94 h
 match cs,hl with
 | [v0,v1],_=>
   have h0:DataW.trod enc Tryz.prog W 0 (fun _=>true) true n 3 [v0]=some y0:=h0
   have h1:DataW.trod enc Tryz.prog W 0 (fun _=>true) true n 3 [v1]=some y1:=h1
   obtain⟨a,ea,_,_⟩:=DataW.trod_int Tryz.underlying3 h0
   obtain⟨b,eb,_,_⟩:=DataW.trod_int Tryz.underlying3 h1
   simp at ea eb
   subst ea;subst eb
   exact⟨(a,b),⟨(show(int a).p W (lA W) (.int .i64 a) from rfl),(show(int b).p W (lA W) (.int .i64 b) from rfl),tV⟩,tV⟩
theorem Hq {m:Nat} {cs:List Value} {y:DataW H × List MemPlace} (h:DataW.trod enc Tryz.prog W 0 (fun _=>true) true m 87 cs=some y) (hz:∀k∈y.1.weights Tryz.prog 87,k≤reachBytes) (hl:cs.length=1):
 ∃x:List (Int × Int),All2 W (lA W) (gE x) cs∧True:=by
 match cs,hl with
 | [v],_=>
   obtain⟨ys,g,_⟩:=sB (n:=2) (E:=pE) Tryz.underlying87 kR (by decide) (by have:Tryz.prog.bytesOf 94=16:=kR;omega) h hz (fun _=>True) (fun m cs y hy _ hl=>JS hy hl)
   exact⟨ys,⟨g,tV⟩,tV⟩
attribute [local semireducible] agg in
theorem LR {r:Reach} {b0:Nat} {v:Value} {d:DataW H} {p:List MemPlace} (hv:Value.okWide Tryz.prog W r b0 25 v) (h:DataW.Trod enc Tryz.prog W 0 (fun _=>true) true 25 v d p) (hz:∀k∈d.weights Tryz.prog 25,k≤reachBytes):
 ∃m:aA,(sys m).p W (lA W) v:=by
 obtain⟨v0,v1,y0,y1,n,rfl,rfl,rfl,h0,h1⟩:=Go.Joins.open_agg2 Tryz.underlying25 kR kR hv h
 have hz:∀k∈y0.1.weights Tryz.prog 22++(y1.1.weights Tryz.prog 23++ []),k≤reachBytes:=by
  have e:(DataW.agg [y0.1,y1.1]:DataW H).weights Tryz.prog 25=y0.1.weights Tryz.prog 22++(y1.1.weights Tryz.prog 23++ []):=by
   rw[uG Tryz.underlying25]
   simp[DataW.weightsEach]
  rw[←e];exact hz
 have b9:1≤Tryz.prog.bytesOf 9:=by have:Tryz.prog.bytesOf 9=16:=kR;omega
 have b85:1≤Tryz.prog.bytesOf 87:=by have:Tryz.prog.bytesOf 87=24:=kR;omega
 obtain⟨al,g1⟩:=BJ Tryz.underlying22 Tryz.underlying9 kR b9 h0 (fun k hk=>hz k (List.mem_append.2 (.inl hk)))
 obtain⟨xs,g2,_⟩:=sB (n:=1) (E:=gE) Tryz.underlying23 kR (by decide) b85 h1 (fun k hk=>hz k (List.mem_append.2 (.inr (List.mem_append.2 (.inl hk))))) (fun _=>True) (fun m cs y hy hw hl=>Hq hy hw hl)
 exact⟨⟨al,xs⟩,⟨[v0,v1],rfl,g1,g2,tV⟩⟩
end
end LawOpen3
end
section
open ref01 ref03 ref04 ref06 prog15 starts Part Rungs LeftM TrimM RoundM BisM BisM5 BisM6 WalkM StepM WitM
namespace JudgM
def dI (es:List PP):Int:=aZ (es.map fun e=>((2^e.1.toNat:Nat):Int))
abbrev edg (m:aA) (x:Nat):List PP:=ix m.sT x
abbrev bK (m:aA) (x:Nat):Int:=dI (edg m x)
def edM (m:aA) (x:Nat):List (Nat × Nat):=(edg m x).map fun e=>(e.1.toNat,e.2.toNat)
theorem Ik (a b:Nat):has ((2^a:Nat):Int) (b:Int)=decide (a=b):=by
 unfold has;rw[Int.toNat_natCast,Int.toNat_natCast,Nat.testBit_two_pow]
theorem iG {es:List PP} {a:Nat}:has (dI es) (a:Int)=true↔∃e∈es,e.1.toNat=a:=by
 unfold dI
 rw[dE]
 constructor
 ·rintro⟨u,hu,hh⟩
  obtain⟨e,he,rfl⟩:=List.mem_map.1 hu
  rw[Ik] at hh
  exact⟨e,he,by simpa using hh⟩
 ·rintro⟨e,he,rfl⟩
  exact⟨_,List.mem_map.2 ⟨e,he,rfl⟩,by rw[Ik];simp⟩
theorem sD (m:aA):Ev (bK m) (edM m):=fun x a=>by
 rw[iG]
 unfold edM
 constructor
 ·rintro⟨e,he,h⟩;exact⟨_,List.mem_map.2 ⟨e,he,rfl⟩,h⟩
 ·rintro⟨e,he,h⟩
  obtain⟨e',he',rfl⟩:=List.mem_map.1 he
  exact⟨e',he',h⟩
structure bA (m:aA):Prop where
 acts:bV m.aC=true
 n8:m.aC.length≤8
 few0:1≤m.sT.length
 few1:m.sT.length≤10000
 ed:∀x,x<m.sT.length→∀e∈edg m x,0≤e.1∧e.1<(m.aC.length:Int)∧0≤e.2∧e.2<(m.sT.length:Int)
 many:∀x,x<m.sT.length→(edg m x).length≤400000
def eW (m:aA) (t:SS):Prop:=Sat (bK m) (edM m) t 0 0
structure QJ (m:aA) (t:SS) (q:List Mt):Prop where
 ne:0<q.length
 hd:ix q 0=⟨0,0,-1,0⟩
 bd:∀p∈q,0≤p.s∧p.s<(m.sT.length:Int)∧0≤p.t∧p.t<(t.sT.length:Int)
 nd:(q.map dN).Nodup
 back:∀k,0<k→k<q.length→∃(b:Nat) (e:PP),(ix q k).before=(b:Int)∧(ix q k).action=e.1∧b<k∧e∈edg m (ix q b).s.toNat∧(ix q k).s=e.2∧(ix q k).t=ix (nxt t (ix q b).t.toNat) e.1.toNat∧bK m (ix q b).s.toNat∈acc t (ix q b).t.toNat
 all:∀R,JP (bK m) (edM m) t R→R 0 0→∀p∈q,R p.s.toNat p.t.toNat
def kS (m:aA) (t:SS) (q:List Mt) (k:Nat):Prop:=
 bK m (ix q k).s.toNat∈acc t (ix q k).t.toNat∧∀e∈edg m (ix q k).s.toNat,(e.2,ix (nxt t (ix q k).t.toNat) e.1.toNat)∈q.map dN
theorem Sv {m:aA} {t:SS} (hm:bA m) (ht:oK t):QJ m t [⟨0,0,-1,0⟩]:=by
 have f1:=hm.few0
 have f2:=ht.few0
 refine⟨by simp,rfl,fun p hp=> ?_,by simp,fun k h1 h2=> ?_,fun R hR h p hp=> ?_⟩
 ·have:p=⟨0,0,-1,0⟩:=by simpa using hp
  subst this
  show 0≤(0:Int)∧(0:Int)<_∧0≤(0:Int)∧(0:Int)<_
  omega
 ·simp at h2;omega
 ·have:p=⟨0,0,-1,0⟩:=by simpa using hp
  subst this;exact h
theorem zA {m:aA} {t:SS} (hm:bA m) (ht:oK t) {x y:Nat} (hx:x<m.sT.length) (hy:y<t.sT.length) (ha:bK m x∈acc t y) {e:PP} (he:e∈edg m x):
 e.1.toNat<t.aC.length∧0≤ix (nxt t y) e.1.toNat∧ix (nxt t y) e.1.toNat<(t.sT.length:Int):=by
 have:=tP ht hy (a:=e.1.toNat) ((dE _ _).2 ⟨_,ha,iG.2 ⟨e,he,rfl⟩⟩)
 exact this
theorem Sw {m:aA} {t:SS} (hm:bA m) (ht:oK t) {q:List Mt} (h:QJ m t q) {i:Nat} (hi:i<q.length) (ha:bK m (ix q i).s.toNat∈acc t (ix q i).t.toNat) {e:PP} (he:e∈edg m (ix q i).s.toNat)
 (hn:(e.2,ix (nxt t (ix q i).t.toNat) e.1.toNat)∉q.map dN):QJ m t (q++ [⟨e.2,ix (nxt t (ix q i).t.toNat) e.1.toNat,(i:Int),e.1⟩]):=by
 have hb:=h.bd _ (aQ hi)
 have g1:=hm.ed (ix q i).s.toNat O e he
 have g2:=zA hm ht (x:=(ix q i).s.toNat) (y:=(ix q i).t.toNat) O O ha he
 refine⟨by simp,by rw[oU h.ne];exact h.hd,fun p hp=> ?_,?_,fun k h1 h2=> ?_,fun R hR h0 p hp=> ?_⟩
 ·rcases List.mem_append.1 hp with hp|hp
  ·exact h.bd p hp
  ·have:p=_:=List.mem_singleton.1 hp
   subst this
   exact⟨g1.2.2.1,g1.2.2.2,g2.2.1,g2.2.2⟩
 ·rw[List.map_append,List.nodup_append]
  exact⟨h.nd,by simp,fun p hp p' hp' e'=>hn (by
   have:p'=_:=List.mem_singleton.1 hp'
   rw[e',this] at hp;exact hp)⟩
 ·simp at h2
  by_cases e':k=q.length
  ·subst e'
   refine⟨i,e,?_⟩
   rw[Oj,oU hi]
   exact⟨rfl,rfl,hi,he,rfl,rfl,ha⟩
  ·obtain⟨b,a',p1,p2,p3,p4⟩:=h.back k h1 O
   refine⟨b,a',?_⟩
   rw[oU O,oU O]
   exact⟨p1,p2,p3,p4⟩
 ·rcases List.mem_append.1 hp with hp|hp
  ·exact h.all R hR h0 p hp
  ·have:p=_:=List.mem_singleton.1 hp
   subst this
   have:=(hR.nxt (h.all R hR h0 _ (aQ hi)) (e.1.toNat,e.2.toNat) (List.mem_map.2 ⟨e,he,rfl⟩)).2
   exact this
theorem JU {m:aA} {t:SS} {q:List Mt} {p:Mt} {k:Nat} (hk:k<q.length) (h:kS m t q k):kS m t (q++ [p]) k:=by
 unfold kS
 rw[oU hk]
 exact⟨h.1,fun e he=>by rw[List.map_append];exact List.mem_append_left _ (h.2 e he)⟩
theorem Sx {m:aA} {t:SS} {q:List Mt} (h:QJ m t q):LK q:=fun k hk h0=>by
 rcases Nat.eq_zero_or_pos k with e|e
 ·subst e;rw[h.hd] at h0
  have h0:(0:Int)≤ -1:=h0
  omega
 ·obtain⟨b,a,e1,e2,e3,_⟩:=h.back k e hk
  rw[e1];omega
theorem pR:∀(n m:Nat) (l:List (Int × Int)),l.Nodup→(∀p∈l,0≤p.1∧p.1<(n:Int)∧0≤p.2∧p.2<(m:Int))→l.length≤n*m:=by
 intro n m l hnd hb
 have h1:(l.map fun p=>p.1.toNat*m+p.2.toNat).Nodup:=by
  rw[List.nodup_iff_pairwise_ne,List.pairwise_map]
  refine List.Pairwise.imp_of_mem ?_ hnd
  intro a b ha hb' hne e
  have b1:=hb a ha
  have b2:=hb b hb'
  have hm:0<m:=by omega
  have e1:a.1.toNat=b.1.toNat:=by
   have:=congrArg (· /m) e
   simp only [Nat.mul_comm _ m] at this
   rw[Nat.mul_add_div hm,Nat.mul_add_div hm,Nat.div_eq_of_lt O,Nat.div_eq_of_lt O] at this
   omega
  have e2:a.2.toNat=b.2.toNat:=by rw[e1] at e;omega
  exact hne (Prod.ext O O)
 have h2:∀x∈(l.map fun p=>p.1.toNat*m+p.2.toNat),x∈List.range (n*m):=fun x hx=>by
  obtain⟨p,hp,rfl⟩:=List.mem_map.1 hx
  have b1:=hb p hp
  rw[List.mem_range]
  have:(p.1.toNat+1)*m≤n*m:=Nat.mul_le_mul_right m O
  rw[Nat.add_mul] at this
  omega
 have h3:=List.Nodup.length_le_of_subset h1 h2
 simpa using h3
theorem LU {m:aA} {t:SS} {q:List Mt} (h:QJ m t q):q.length≤m.sT.length*t.sT.length:=by
 have:=pR m.sT.length t.sT.length (q.map dN) h.nd (fun p hp=>by
  obtain⟨m,hm,rfl⟩:=List.mem_map.1 hp
  exact h.bd m hm)
 simpa using this
structure sF (m:aA) (t:SS) (q:List Mt) (i:Nat) (k:Nat) (q2:List Mt) (mm2:List ((Int × Int) × Bool)):Prop where
 qi:QJ m t q2
 sm:qI mm2 q2
 pre:q<+:q2
 dn:∀k,k<i→kS m t q2 k
 al:∀e∈(edg m (ix q i).s.toNat).take k,(e.2,ix (nxt t (ix q i).t.toNat) e.1.toNat)∈q2.map dN
theorem Il {q r:List Mt} {k:Nat} (h:q<+:r) (hk:k<q.length):ix r k=ix q k:=by
 obtain⟨u,rfl⟩:=h
 exact oU hk
theorem LV {m:aA} {t:SS} {q:List Mt} {i:Nat} {mm:List ((Int × Int) × Bool)} (h:QJ m t q) (hs:qI mm q) (hd:∀k,k<i→kS m t q k):sF m t q i 0 q mm:=⟨h,hs,List.prefix_rfl,hd,fun e he=>by simp at he⟩
theorem LW {m:aA} {t:SS} (hm:bA m) (ht:oK t) {q:List Mt} {i k:Nat} {q2:List Mt} {mm2:List ((Int × Int) × Bool)} (h:sF m t q i k q2 mm2) (hi:i<q.length) (ha:bK m (ix q i).s.toNat∈acc t (ix q i).t.toNat) (hk:k<(edg m (ix q i).s.toNat).length) {e:PP} (he:ix (edg m (ix q i).s.toNat) k=e)
 {y:Int} (hy:ix (nxt t (ix q i).t.toNat) e.1.toNat=y) (hn:(bP mm2 (e.2,y)).getD false=false):sF m t q i (k+1) (q2++ [⟨e.2,y,(i:Int),e.1⟩]) (cD mm2 (e.2,y) true):=by
 subst hy
 have hl:=h.pre.length_le
 have hqi:=Il h.pre hi
 have hem:e∈edg m (ix q i).s.toNat:=by rw[←he];exact aQ hk
 have hn':(e.2,ix (nxt t (ix q i).t.toNat) e.1.toNat)∉q2.map dN:=by
  rw[Fy h.sm] at hn
  simpa using hn
 have hp:=Sw hm ht h.qi (i:=i) O (by rw[hqi];exact ha) (e:=e) (by rw[hqi];exact hem) (by rw[hqi];exact hn')
 rw[hqi] at hp
 refine⟨hp,Dz h.sm ⟨e.2,ix (nxt t (ix q i).t.toNat) e.1.toNat,(i:Int),e.1⟩,h.pre.trans (List.prefix_append _ _),fun k hk=>JU O (h.dn k hk),fun b hb=> ?_⟩
 rw[List.map_append,List.mem_append]
 rw[bM hk,he,List.mem_append] at hb
 rcases hb with h1|h1
 ·exact .inl (h.al b h1)
 ·have:b=e:=by simpa using h1
  subst this
  exact .inr (List.mem_singleton.2 rfl)
theorem LX {m:aA} {t:SS} {q:List Mt} {i k:Nat} {q2:List Mt} {mm2:List ((Int × Int) × Bool)} (h:sF m t q i k q2 mm2) (hk:k<(edg m (ix q i).s.toNat).length) {e:PP} (he:ix (edg m (ix q i).s.toNat) k=e)
 {y:Int} (hy:ix (nxt t (ix q i).t.toNat) e.1.toNat=y) (hn:(bP mm2 (e.2,y)).getD false=true):sF m t q i (k+1) q2 mm2:=by
 subst hy
 refine⟨h.qi,h.sm,h.pre,h.dn,fun b hb=> ?_⟩
 rw[bM hk,he,List.mem_append] at hb
 rcases hb with h1|h1
 ·exact h.al b h1
 ·have:b=e:=by simpa using h1
  subst this
  rw[Fy h.sm] at hn
  simpa using hn
theorem Oz {m:aA} {t:SS} {q:List Mt} {i k:Nat} {q2:List Mt} {mm2:List ((Int × Int) × Bool)} (h:sF m t q i k q2 mm2) (hi:i<q.length) (ha:bK m (ix q i).s.toNat∈acc t (ix q i).t.toNat) (hk:(edg m (ix q i).s.toNat).length≤k):
 QJ m t q2∧qI mm2 q2∧i+1≤q2.length∧∀k,k<i+1→kS m t q2 k:=by
 have hl:=h.pre.length_le
 refine⟨h.qi,h.sm,O,fun j hj=> ?_⟩
 by_cases e:j=i
 ·subst e
  have hqi:=Il h.pre hi
  have hal:=h.al
  rw[List.take_of_length_le hk] at hal
  unfold kS
  rw[hqi]
  exact⟨ha,hal⟩
 ·exact h.dn j O
theorem Sy {m:aA} {t:SS} (hm:bA m) (ht:oK t) {q:List Mt} (h:QJ m t q) (hd:∀k,k<q.length→kS m t q k):eW m t:=by
 have hat:∀{x y:Nat},((x:Int),(y:Int))∈q.map dN→∃k,k<q.length∧(ix q k).s=(x:Int)∧(ix q k).t=(y:Int):=fun {x y} hm=>by
  obtain⟨m,hm,e⟩:=List.mem_map.1 hm
  obtain⟨k,hk,rfl⟩:=List.getElem_of_mem hm
  unfold dN at e
  simp only [Prod.mk.injEq] at e
  exact⟨k,hk,by rw[aD hk];exact e.1,by rw[aD hk];exact e.2⟩
 refine⟨fun x y=>((x:Int),(y:Int))∈q.map dN,⟨fun {x y} hm=> ?_,fun {x y} hm=> ?_,fun {x y} hxy e he=> ?_,fun {x y} hxy e he=> ?_⟩,?_⟩
 ·obtain⟨k,hk,e1,e2⟩:=hat hm
  have:=h.bd _ (aQ hk)
  omega
 ·obtain⟨k,hk,e1,e2⟩:=hat hm
  have:=(hd k hk).1
  rw[e1,e2,Int.toNat_natCast,Int.toNat_natCast] at this
  exact this
 ·obtain⟨k,hk,e1,e2⟩:=hat hxy
  have hb:=h.bd _ (aQ hk)
  have ha:=(hd k hk).1
  rw[e1,e2,Int.toNat_natCast,Int.toNat_natCast] at ha
  obtain⟨e',he',rfl⟩:=List.mem_map.1 he
  have:=(zA hm ht (x:=x) (y:=y) O O ha he').1
  show e'.1.toNat<_
  rw[(ht.st y O).len];exact this
 ·obtain⟨k,hk,e1,e2⟩:=hat hxy
  have hb:=h.bd _ (aQ hk)
  obtain⟨ha,hed⟩:=hd k hk
  rw[e1,e2,Int.toNat_natCast,Int.toNat_natCast] at ha
  rw[e1,e2,Int.toNat_natCast,Int.toNat_natCast] at hed
  obtain⟨e',he',rfl⟩:=List.mem_map.1 he
  have g1:=(zA hm ht (x:=x) (y:=y) O O ha he').2.1
  have g2:=hm.ed x O e' he'
  have g3:=hed e' he'
  refine⟨g1,?_⟩
  show(((e'.2.toNat:Nat):Int),_)∈_
  rw[show((e'.2.toNat:Nat):Int)=e'.2 by omega,show(((ix (nxt t y) e'.1.toNat).toNat:Nat):Int)=ix (nxt t y) e'.1.toNat by omega]
  exact g3
 ·have:=aQ (l:=q) h.ne
  rw[h.hd] at this
  exact List.mem_map.2 ⟨_,this,rfl⟩
theorem Vt {m:aA} {t:SS} {q:List Mt} (h:QJ m t q) {i:Nat} (hi:i<q.length) (hn:bK m (ix q i).s.toNat∉acc t (ix q i).t.toNat):¬eW m t:=fun⟨R,hR,h0⟩=>hn (hR.acc (h.all R hR h0 _ (aQ hi)))
structure VJ where
 holds:Bool
 pairs:List PP
 word:List Int
 state:Int
structure zB (m:aA) (t:SS) (v:VJ):Prop where
 yes:v.holds=true→eW m t∧v.word= []∧v.state=0∧∃q,QJ m t q∧(∀k,k<q.length→kS m t q k)∧v.pairs=cG (q.map dN)
 no:v.holds=false→¬eW m t∧v.pairs= []∧∃q i,QJ m t q∧i<q.length∧v.word=mE q i∧v.state=(ix q i).s∧(∀k,k<i→kS m t q k)∧bK m (ix q i).s.toNat∉acc t (ix q i).t.toNat
theorem LY {m:aA} {t:SS} {v:VJ} (h:zB m t v):v.holds=true↔eW m t:=by
 constructor
 ·exact fun e=>(h.yes e).1
 ·intro hs
  cases e:v.holds with
  |true=>rfl
  |false=>exact absurd hs (h.no e).1
end JudgM
end
section
open ref01 ref03 ref04 ref06 prog prog2 prog3 prog6 prog13 prog15 starts search Part Rungs LeftM TrimM RoundM BisM BisM5 WalkM StepM WitM JudgM refw judg wit
def oW (d e:Int × Int):Int:=if d.1=e.1 then d.2- e.2 else d.1- e.1
theorem Sz {d e:Int × Int} (h:¬0≤oW d e):d.1<e.1∨(d.1=e.1∧d.2<e.2):=by
 unfold oW at h
 split at h<;>omega
theorem SB {d e:Int × Int} (h:0≤oW d e):¬(d.1<e.1∨(d.1=e.1∧d.2<e.2)):=by
 unfold oW at h
 split at h<;>omega
def iC (A N:Nat) (e:Int × Int):Bool:=decide (0≤e.1)&&decide (e.1<(A:Int))&&decide (0≤e.2)&&decide (e.2<(N:Int))
theorem eE {A N:Nat} {e:Int × Int}:iC A N e=true↔0≤e.1∧e.1<(A:Int)∧0≤e.2∧e.2<(N:Int):=by
 unfold iC;simp[and_assoc]
def ltP (d e:Int × Int):Bool:=decide (d.1<e.1)||(decide (d.1=e.1)&&decide (d.2<e.2))
theorem oX {d e:Int × Int}:ltP d e=true↔d.1<e.1∨(d.1=e.1∧d.2<e.2):=by unfold ltP;simp
def dW (A N:Nat) (l:List (Int × Int)):Bool:=l.all (iC A N)&&(List.range (l.length- 1)).all fun i=>ltP (ix l i) (ix l (i+1))
def bR (l:List (List (Int × Int))):Nat:=(l.map List.length).sum
theorem kH (l:List (List (Int × Int))) (x:List (Int × Int)):bR (l++ [x])=bR l+x.length:=by simp[bR]
theorem uH (l:List (List (Int × Int))) (k:Nat):bR (l.take k)≤bR l:=by
 conv=>rhs;rw[←List.take_append_drop k l]
 unfold bR
 rw[List.map_append,List.sum_append];omega
theorem DD {l:List (List (Int × Int))} {k:Nat} (h:k<l.length):(ix l k).length≤bR l:=by
 have:=uH l (k+1)
 rw[bM h,kH] at this
 omega
def bN (m:aA):Bool:=bV m.aC&&decide (1≤m.sT.length)&&decide (m.sT.length≤5000)&&m.sT.all (dW m.aC.length m.sT.length)&&decide (bR m.sT≤400000)
def BL (m:aA):Nat:=m.aC.length+m.sT.length+bR m.sT
def xW (m:aA) (n:Int):Bool:=decide ((BL m:Int)≤n)
theorem eF {m:aA} (h:bN m=true):bA m:=by
 unfold bN at h
 simp only [Bool.and_eq_true,decide_eq_true_eq] at h
 obtain⟨⟨⟨⟨h1,h2⟩,h3⟩,h4⟩,h5⟩:=h
 refine⟨h1,gG h1,h2,O,fun x hx e he=> ?_,fun x hx=> ?_⟩
 ·have g:=uS h4 hx
  unfold dW at g
  rw[Bool.and_eq_true] at g
  exact eE.1 (List.all_eq_true.1 g.1 e he)
 ·exact Nat.le_trans (DD hx) h5
theorem sG {A N:Nat} {l:List (Int × Int)} (h1:∀j,j<l.length→iC A N (ix l j)=true) (h2:∀j,j+1<l.length→ltP (ix l j) (ix l (j+1))=true):dW A N l=true:=by
 unfold dW
 rw[Bool.and_eq_true]
 refine⟨List.all_eq_true.2 (fun e he=> ?_),List.all_eq_true.2 (fun j hj=>h2 j (by have:=List.mem_range.1 hj;omega))⟩
 obtain⟨j,hj,rfl⟩:=List.getElem_of_mem he
 rw[←aD hj];exact h1 j hj
theorem DF {A N:Nat} {l:List (Int × Int)} {j:Nat} (hj:j<l.length) (h:iC A N (ix l j)=false):dW A N l=false:=by
 cases g:dW A N l with
 |false=>rfl
 |true=>
  unfold dW at g
  rw[Bool.and_eq_true] at g
  rw[uS g.1 hj] at h;cases h
theorem DG {A N:Nat} {l:List (Int × Int)} {j:Nat} (hj:j<l.length) (h0:0<j) (h:ltP (ix l (j- 1)) (ix l j)=false):dW A N l=false:=by
 cases g:dW A N l with
 |false=>rfl
 |true=>
  unfold dW at g
  rw[Bool.and_eq_true] at g
  have:=List.all_eq_true.1 g.2 (j- 1) (List.mem_range.2 O)
  rw[show j- 1+1=j by omega,h] at this;cases this
theorem bU {m:aA} (h:Inh (sys m)):m.aC.length≤140737488355328∧m.sT.length≤140737488355328∧∀k,k<m.sT.length→(ix m.sT k).length≤140737488355328:=
 ⟨(h.agg 0 rfl).len,(h.agg 1 rfl).len,fun _ hk=>((h.agg 1 rfl).el (gK hk) 0 rfl).len⟩
namespace T
theorem cT:fA Tryz.prog 94 0 0:=eL kR
theorem cX:fA Tryz.prog 94 1 1:=eL kR
theorem cQ:IsSlice Tryz.prog 87 94 2:=fV kR
theorem cJ:iK Tryz.prog 94 2:=iU kR
theorem z94:eR Tryz.prog 94 [.int .i64 0,.int .i64 0]:=cR kR
theorem bO:fA Tryz.prog 25 1 1:=eL kR
theorem cF:eG Tryz.prog 23:=fT kR
theorem dQ:IsSlice Tryz.prog 23 87 1:=fV kR
theorem fB:fA Tryz.prog 25 0 0:=eL kR
theorem gF:eG Tryz.prog 87:=fT kR
theorem Vu:Ent Tryz.prog 114:=aN kR
theorem z25:eR Tryz.prog 25 [.slice none 0 0,.slice none 0 0]:=cR kR
theorem oD:iQ Tryz.prog 25 [(0,1),(1,1)] [.slice none 0 0,.slice none 0 0]:=jD kR kR
theorem bE:iK Tryz.prog 25 2:=iU kR
theorem oY:eM Tryz.prog 87 94 2 16 [.int .i64 0,.int .i64 0]:=iV kR kR
theorem sH:eM Tryz.prog 23 87 1 24 [.slice none 0 0]:=iV kR kR
end T
namespace sysw
theorem OA (d e:Int × Int) (hd:bdP d) (he:bdP e):
 Fn0 Tryz.prog 114 [agg [int d.1,int d.2],agg [int e.1,int e.2]] (int (oW d e)):=by
 refine fnI Tryz.func114 rfl rfl (fun w0 F0=> ?_)
 unfold bdP at hd he
 refine sq (rg (bx (key:=2) (cs:= [int d.1,int d.2]) J fun b2=>(bx (key:=3) (cs:= [int e.1,int e.2]) J fun b3=>(ag (nl (th (sq (sq (rg (fP J T.cT (lP J J J T.aF (fP J T.cT (lP J J J T.aF (bi J J fI (nl (th ?_))))))))))))))))
 refine cd J (fun hc0=> ?_) (fun hc0=> ?_)
 ·try simp at hc0
  refine sq (rg (fP J T.cT (lP J J J T.aF (fP J T.cT (lP J J J T.aF (bi J J (kQ i6) (ag (nl (th (rt (rt_ ?_)))))))))))
  have hr0:((d.1- e.1):Int)=(oW d e):=by
   unfold oW;rw[if_neg hc0]
  exact rE () [.tmp 4] J [int (d.1- e.1)] ⟨.tmp J,tV⟩ (cA1 (fun x0=>rV [int x0]) hr0) trivial eX
 ·try simp at hc0
  refine sk (th (sq (rg (fP J T.cX (lP J J J T.aF (fP J T.cX (lP J J J T.aF (bi J J (kQ i6) (ag (nl (th (rt ?_))))))))))))
  have hr0:((d.2- e.2):Int)=(oW d e):=by
   unfold oW;rw[if_pos hc0]
  exact rE () [.tmp 4] J [int (d.2- e.2)] ⟨.tmp J,tV⟩ (cA1 (fun x0=>rV [int x0]) hr0) trivial eX
theorem xX (l:List (Int × Int)) (hl:∀e∈l,0≤e.1∧e.1<8):
 Fn0 Tryz.prog 98 [sl 2 pE l] (int (dI l)):=by
 refine fnI Tryz.func98 rfl rfl (fun w0 F0=> ?_)
 refine fcC (aV 0 J) (fun hm0=> ?_)
 refine sq (rg (ag (nl (th (sq (rg (ag (nl (th (sq (sq (rg (mv (lnF J T.cQ (mv (nl (th (bk ?_))))))))))))))))))
 have hI0_0:0≤l.length:=by
  first|omega|simp
 have hI0_1:(0:Int)=dI (l.take 0)∧0≤(0:Int)∧(0:Int)<256:=by
  exact⟨rfl,O,O⟩
 refine lp (κ:=Nat × Int) (fun p=> [(2,int 0),(3,int p.2),(6,sl 2 pE l),(7,int (l.length:Int)),(8,int (p.1:Int))]) (fun p=> []) (fun p=>(p.1≤l.length)∧(p.2=dI (l.take p.1)∧0≤p.2∧p.2<256)) (fun p=>l.length- p.1) ⟨0,(0:Int)⟩ ⟨hI0_0,hI0_1⟩ ⟨id,id,id,id,id,tV⟩ trivial ?_
 intro⟨k,u⟩ hG0
 obtain⟨hk0,⟨hu,hu0,hu1⟩⟩:(k≤l.length)∧(u=dI (l.take k)∧0≤u∧u<256):=hG0
 show Ct _ _ _ _ [(2,int 0),(3,int u),(6,sl 2 pE l),(7,int (l.length:Int)),(8,int (k:Int))] [] _
 refine sq (rg (bi J J aO (nl (th (sq ?_)))))
 refine cd J (fun hc0=> ?_) (fun hc0=> ?_)
 ·try simp at hc0
  have hek:=hl _ (aQ hc0)
  have hp:2^ ((ix l k).1).toNat≤2^7:=Nat.pow_le_pow_right O O
  have hp0:0≤((2^ ((ix l k).1).toNat:Nat):Int):=Int.natCast_nonneg _
  refine sk (th (sq (bk (sq (rg (iF J J T.cQ O gB (lFA J T.cJ (Nat.le_of_ble_eq_true J) (al (key:=5) T.z94 (eC (eC eZ)) fun b5=>(sPA (cs':= [int ((ix l k).1),int ((ix l k).2)]) J J J T.cJ J J (nl (th (rg (mv (fP J T.cT (lP J J J T.aF (bi J J (pU O O) (bi J J (vN O O O O) (ag (nl (eb (th (rg (bi J J (aG i6) (mv (nl ?_)))))))))))))))))))))))))
  have hN0:(k+1)≤l.length:=by
   first|omega|simp_all
  have hN1:((u.toNat|||(2^ ((ix l k).1).toNat):Nat):Int)=dI (l.take (k+1))∧0≤((u.toNat|||(2^ ((ix l k).1).toNat):Nat):Int)∧((u.toNat|||(2^ ((ix l k).1).toNat):Nat):Int)<256:=by
   refine⟨?_,O,kU (b:=((2^ ((ix l k).1).toNat:Nat):Int)) hu1 O⟩
   rw[bM hc0]
   unfold dI
   rw[List.map_append,List.map_cons,List.map_nil,iL,hu];rfl
  exact ln (⟨k+1,((u.toNat|||(2^ ((ix l k).1).toNat):Nat):Int)⟩:Nat × Int) ⟨hN0,hN1⟩ dO ⟨id,id,id,id,id,tV⟩ trivial
 ·try simp at hc0
  refine ex (xt_ (xt_ (xb (th (sq (rg (mv (ag (nl (th (rt ?_)))))))))))
  have hr0:(u:Int)=(dI l):=by
   rw[hu,show k=l.length by omega,List.take_length]
  exact rE () [.tmp 2] J [int u] ⟨.tmp J,tV⟩ (cA1 (fun x0=>rV [int x0]) hr0) trivial eX
theorem jT (m:aA):
 Fn0 Tryz.prog 66 [sys m] (bl (bN m)):=by
 refine fnI Tryz.func66 rfl rfl (fun w0 F0=> ?_)
 refine fcC (bW 0 J) (fun hS0=> ?_)
 obtain⟨hma0,hms0,hme0⟩:=bU hS0
 refine sq (rg (bx (key:=1) (cs:= [sl 1 rE_ m.aC,sl 1 gE m.sT]) J fun b1=>(ag (nl (th (sq (rg (fP J T.bO (lP J J J T.cF (fc (aV 10 J) fun hm10=>(lnF J T.dQ (ag (nl (th (sq (sq (rg (fP J T.fB (lP J J J T.cM (bB (φs:= [sl 1 rE_ m.aC]) (φ:=bl (bV m.aC)) ⟨J,tV⟩ (prog.Dq _) T.Ld (no J (mv ?_))))))))))))))))))))))
 apply gOr (t:=16) (pd:=19) rfl
 rotate_left
 ·intro hg0 fin
  have hg0':=hg0
  try simp at hg0'
  exact gy J J J hg0 (mv (gy J J J hg0 (bi J J aO (pkF J hg0 J (drp (X:= [(18,_),(17,_)]) ⟨J,J,tV⟩ fin)))))
 ·intro hg0 fin
  exact gn J J J hg0 J J (gn J J J hg0 J J (pkT J hg0 J (drp (X:= [(18,_),(17,_)]) ⟨J,J,tV⟩ fin)))
 refine mv ?_
 apply gOr (t:=20) (pd:=23) rfl
 rotate_left
 ·intro hg1 fin
  have hg1':=hg1
  try simp at hg1'
  exact gy J J J hg1 (mv (gy J J J hg1 (bi J J fN (pkF J hg1 J (drp (X:= [(22,_),(21,_)]) ⟨J,J,tV⟩ fin)))))
 ·intro hg1 fin
  exact gn J J J hg1 J J (gn J J J hg1 J J (pkT J hg1 J (drp (X:= [(22,_),(21,_)]) ⟨J,J,tV⟩ fin)))
 refine nl (th ?_)
 refine cd J (fun hc0=> ?_) (fun hc0=> ?_)
 ·try simp at hc0
  refine sq (rg (ag (nl (th (rt (rt_ ?_))))))
  have hr0:false=(bN m):=by
   unfold bN
   by_cases h:bV m.aC=true
   ·simp[h] at hc0 ⊢
    omega
   ·simp[h]
  exact rE () [.tmp 2] J [bl false] ⟨.tmp J,tV⟩ (cA1 (fun x0=>rV [bl x0]) hr0) trivial eX
 ·try simp at hc0
  have hact:=gG (l:=m.aC) (by simp_all)
  refine sk (th (sq (rg (ag (nl (th (sq (sq (rg (fP J T.bO (lP J J J T.cF (lnF J T.dQ (mv (nl (th (bk ?_))))))))))))))))
  have hI0_0:0≤m.sT.length:=by
   first|omega|simp
  have hI0_1:(0:Int)=(bR (m.sT.take 0):Int)∧(m.sT.take 0).all (dW m.aC.length m.sT.length)=true∧(0:Int)≤400000:=by
   exact⟨rfl,by simp,O⟩
  refine lp (κ:=Nat × Int) (fun p=> [(1,ptr 1 b1 0),(3,int (m.sT.length:Int)),(4,int p.2),(25,sl 1 gE m.sT),(26,int (m.sT.length:Int)),(27,int (p.1:Int))]) (fun p=> [(1,cell b1 [sl 1 rE_ m.aC,sl 1 gE m.sT])]) (fun p=>(p.1≤m.sT.length)∧(p.2=(bR (m.sT.take p.1):Int)∧(m.sT.take p.1).all (dW m.aC.length m.sT.length)=true∧p.2≤400000)) (fun p=>m.sT.length- p.1) ⟨0,(0:Int)⟩ ⟨hI0_0,hI0_1⟩ ⟨id,id,id,id,id,id,tV⟩ ⟨rI,tV⟩ ?_
  intro⟨k,n⟩ hG0
  obtain⟨hk0,⟨hn,hal,hn4⟩⟩:(k≤m.sT.length)∧(n=(bR (m.sT.take k):Int)∧(m.sT.take k).all (dW m.aC.length m.sT.length)=true∧n≤400000):=hG0
  show Ct _ _ _ _ [(1,ptr 1 b1 0),(3,int (m.sT.length:Int)),(4,int n),(25,sl 1 gE m.sT),(26,int (m.sT.length:Int)),(27,int (k:Int))] [(1,cell b1 [sl 1 rE_ m.aC,sl 1 gE m.sT])] _
  have hmk:=hme0 k
  refine sq (rg (bi J J aO (nl (th (sq ?_)))))
  refine cd J (fun hc1=> ?_) (fun hc1=> ?_)
  ·try simp at hc1
   refine sk (th (sq (bk (sq (rg (iF J J T.dQ O gB (lF J J T.gF (ag (nl (th (sq (rg (mv (mv (fc (aV 32 J) fun hm32=>(lnF J T.cQ (bi J J (aG i6) (ag (nl (th (sq (sq (rg (mv (bi J J fN (nl (th ?_)))))))))))))))))))))))))))
   refine cd J (fun hc2=> ?_) (fun hc2=> ?_)
   ·try simp at hc2
    refine sq (rg (ag (nl (th (rt (rt_ (rb (rt_ (rt_ (rb (rt_ ?_)))))))))))
    have hr0:false=(bN m):=by
     unfold bN
     rw[decide_eq_false (p:=bR m.sT≤400000) (by have:=uH m.sT (k+1);rw[bM O,kH] at this;omega)]
     simp
    exact rE () [.tmp 2] J [bl false] ⟨.tmp J,tV⟩ (cA1 (fun x0=>rV [bl x0]) hr0) trivial eX
   ·try simp at hc2
    refine sk (th (sq (rg (mv (lnF J T.cQ (mv (nl (th (bk ?_)))))))))
    have hI1_0:0≤(ix m.sT k).length:=by
     first|omega|simp
    have hI1_1:(∀j,j<0→iC m.aC.length m.sT.length (ix (ix m.sT k) j)=true)∧∀j,j+1<0→ltP (ix (ix m.sT k) j) (ix (ix m.sT k) (j+1))=true:=by
     exact⟨fun j hj=>by omega,fun j hj=>by omega⟩
    refine lp (κ:=Nat) (fun p=> [(1,ptr 1 b1 0),(3,int (m.sT.length:Int)),(4,int (n+((ix m.sT k).length:Int))),(6,sl 2 pE (ix m.sT k)),(25,sl 1 gE m.sT),(26,int (m.sT.length:Int)),(27,int (k:Int)),(37,sl 2 pE (ix m.sT k)),(38,int ((ix m.sT k).length:Int)),(39,int (p:Int))]) (fun p=> [(1,cell b1 [sl 1 rE_ m.aC,sl 1 gE m.sT])]) (fun p=>(p≤(ix m.sT k).length)∧((∀j,j<p→iC m.aC.length m.sT.length (ix (ix m.sT k) j)=true)∧∀j,j+1<p→ltP (ix (ix m.sT k) j) (ix (ix m.sT k) (j+1))=true)) (fun p=>(ix m.sT k).length- p) 0 ⟨hI1_0,hI1_1⟩ ⟨id,id,id,id,id,id,id,id,id,id,tV⟩ ⟨rI,tV⟩ ?_
    intro k1 hG1
    obtain⟨hk1,hI1⟩:(k1≤(ix m.sT k).length)∧((∀j,j<k1→iC m.aC.length m.sT.length (ix (ix m.sT k) j)=true)∧∀j,j+1<k1→ltP (ix (ix m.sT k) j) (ix (ix m.sT k) (j+1))=true):=hG1
    refine sq (rg (bi J J aO (nl (th (sq ?_)))))
    refine cd J (fun hc3=> ?_) (fun hc3=> ?_)
    ·try simp at hc3
     refine sk (th (sq (bk (sq (rg (mv (iF J J T.cQ O gB (lFA J T.cJ (Nat.le_of_ble_eq_true J) (al (key:=8) T.z94 (eC (eC eZ)) fun b8=>(ag (sPA (cs':= [int ((ix (ix m.sT k) k1).1),int ((ix (ix m.sT k) k1).2)]) J J J T.cJ J J (nl (th (sq (dr (nh:=36) [0,1,3,7,15,31,15,79,207,511,1023,2047,4095,8191,16383,32767,65535,131071,262143,131071,1048575,2097151,4194303,8388607,16777215,33554431,67108863,67108863,201326591,536870911,1073741823,67108863,4294967295,8589934591,17179869183,34359738367] T.mixed kR ?_)))))))))))))))
     refine st_ J (fun _ _ _ gq kq=>fP (gq.1.trans J) T.cT kq) ?_
     refine st_ J (fun _ _ _ gq kq=>lP (gq.1.trans J) J J T.aF kq) ?_
     refine st_ J (fun _ _ _ gq kq=>bi (gq.1.trans J) J aO kq) ?_
     refine st_ J (fun _ _ _ gq kq=>mv' (gq.1.trans J) kq) ?_
     refine sg_ (φ:=ptr 8 b8 0) J J J J (List.mem_of_elem_eq_true J) (fun hgd=> ?_) ?_
     ·have hgd':=hgd
      try simp at hgd'
      exact fun _ _ _ gq kq=>fP (gq.1.trans J) T.cT kq
     refine sg_ (φ:=int ((ix (ix m.sT k) k1).1)) J J J J (List.mem_of_elem_eq_true J) (fun hgd=> ?_) ?_
     ·have hgd':=hgd
      try simp at hgd'
      exact fun _ _ _ gq kq=>lP (gq.1.trans (cP hgd)) J J T.aF kq
     refine sg_ (φ:=ptr 1 b1 0) J J J J (List.mem_of_elem_eq_true J) (fun hgd=> ?_) ?_
     ·have hgd':=hgd
      try simp at hgd'
      exact fun _ _ _ gq kq=>fP (gq.1.trans J) T.fB kq
     refine sg_ (φ:=sl 1 rE_ m.aC) J J J J (List.mem_of_elem_eq_true J) (fun hgd=> ?_) ?_
     ·have hgd':=hgd
      try simp at hgd'
      exact fun _ _ _ gq kq=>lP (gq.1.trans (cP hgd)) J J T.cM kq
     refine sg_ (φ:=int (m.aC.length:Int)) J J J J (List.mem_of_elem_eq_true J) (fun hgd=> ?_) ?_
     ·have hgd':=hgd
      try simp at hgd'
      exact fun _ _ _ gq kq=>lnF (gq.1.trans (cP hgd)) T.eD kq
     refine sg_ (φ:=bl (decide ((m.aC.length:Int)≤((ix (ix m.sT k) k1).1)))) J J J J (List.mem_of_elem_eq_true J) (fun hgd=> ?_) ?_
     ·have hgd':=hgd
      try simp at hgd'
      exact fun _ _ _ gq kq=>bi (gq.1.trans (cP hgd)) (gq.2.1.trans (cP hgd)) fU kq
     refine st_ J (fun _ _ _ gq kq=>pk (gq.1.trans J) (tC (x:= .tmp 47) (gq.1.trans J) (gq.2.1.trans J) J) kq) ?_
     refine st_ J (fun _ _ _ gq kq=>mv' (gq.1.trans J) kq) ?_
     refine sg_ (φ:=ptr 8 b8 1) J J J J (List.mem_of_elem_eq_true J) (fun hgd=> ?_) ?_
     ·have hgd':=hgd
      try simp at hgd'
      exact fun _ _ _ gq kq=>fP (gq.1.trans J) T.cX kq
     refine sg_ (φ:=int ((ix (ix m.sT k) k1).2)) J J J J (List.mem_of_elem_eq_true J) (fun hgd=> ?_) ?_
     ·have hgd':=hgd
      try simp at hgd'
      exact fun _ _ _ gq kq=>lP (gq.1.trans (cP hgd)) J J T.aF kq
     refine sg_ (φ:=bl (decide (((ix (ix m.sT k) k1).2)<0))) J J J J (List.mem_of_elem_eq_true J) (fun hgd=> ?_) ?_
     ·have hgd':=hgd
      try simp at hgd'
      exact fun _ _ _ gq kq=>bi (gq.1.trans (cP hgd)) J aO kq
     refine st_ J (fun _ _ _ gq kq=>pk (gq.1.trans J) (tC (x:= .tmp 55) (gq.1.trans J) (gq.2.1.trans J) J) kq) ?_
     refine st_ J (fun _ _ _ gq kq=>mv' (gq.1.trans J) kq) ?_
     refine sg_ (φ:=ptr 8 b8 1) J J J J (List.mem_of_elem_eq_true J) (fun hgd=> ?_) ?_
     ·have hgd':=hgd
      try simp at hgd'
      exact fun _ _ _ gq kq=>fP (gq.1.trans J) T.cX kq
     refine sg_ (φ:=int ((ix (ix m.sT k) k1).2)) J J J J (List.mem_of_elem_eq_true J) (fun hgd=> ?_) ?_
     ·have hgd':=hgd
      try simp at hgd'
      exact fun _ _ _ gq kq=>lP (gq.1.trans (cP hgd)) J J T.aF kq
     refine sg_ (φ:=int (m.sT.length:Int)) J J J J (List.mem_of_elem_eq_true J) (fun hgd=> ?_) ?_
     ·have hgd':=hgd
      try simp at hgd'
      exact fun _ _ _ gq kq=>mv' (gq.1.trans J) kq
     refine sg_ (φ:=bl (decide ((m.sT.length:Int)≤((ix (ix m.sT k) k1).2)))) J J J J (List.mem_of_elem_eq_true J) (fun hgd=> ?_) ?_
     ·have hgd':=hgd
      try simp at hgd'
      exact fun _ _ _ gq kq=>bi (gq.1.trans (cP hgd)) (gq.2.1.trans (cP hgd)) fU kq
     refine st_ J (fun _ _ _ gq kq=>pk (gq.1.trans J) (tC (x:= .tmp 60) (gq.1.trans J) (gq.2.1.trans J) J) kq) ?_
     refine st_ J (fun _ _ _ gq kq=>mv' (gq.1.trans J) kq) ?_
     refine sg_ (φ:=int (k1:Int)) J J J J (List.mem_of_elem_eq_true J) (fun hgd=> ?_) ?_
     ·have hgd':=hgd
      try simp at hgd'
      exact fun _ _ _ gq kq=>mv' (gq.1.trans J) kq
     refine sg_ (φ:=bl (decide (0<(k1:Int)))) J J J J (List.mem_of_elem_eq_true J) (fun hgd=> ?_) ?_
     ·have hgd':=hgd
      try simp at hgd'
      exact fun _ _ _ gq kq=>bi (gq.1.trans (cP hgd)) J fN kq
     refine sg_ (φ:=bl (decide (0<(k1:Int)))) J J J J (List.mem_of_elem_eq_true J) (fun hgd=> ?_) ?_
     ·have hgd':=hgd
      try simp at hgd'
      exact fun _ _ _ gq kq=>mv' (gq.1.trans (cP hgd)) kq
     refine lV (φ:=sl 2 pE (ix m.sT k)) rfl rfl rfl rfl (List.mem_of_elem_eq_true rfl) (fun hgd hgd2=> ?_) ?_
     ·have hgd':=hgd
      try simp at hgd'
      have hgd2':=hgd2
      try simp at hgd2'
      exact fun _ _ _ gq kq=>mv' (gq.1.trans J) kq
     refine lV (φ:=int (k1:Int)) rfl rfl rfl rfl (List.mem_of_elem_eq_true rfl) (fun hgd hgd2=> ?_) ?_
     ·have hgd':=hgd
      try simp at hgd'
      have hgd2':=hgd2
      try simp at hgd2'
      exact fun _ _ _ gq kq=>mv' (gq.1.trans J) kq
     refine lV (φ:=int ((k1:Int)- 1)) rfl rfl rfl rfl (List.mem_of_elem_eq_true rfl) (fun hgd hgd2=> ?_) ?_
     ·have hgd':=hgd
      try simp at hgd'
      have hgd2':=hgd2
      try simp at hgd2'
      exact fun _ _ _ gq kq=>bi (gq.1.trans (jF hgd hgd2)) J (kQ i6) kq
     refine lV (φ:=fp [int ((ix (ix m.sT k) ((k1:Int)- 1).toNat).1),int ((ix (ix m.sT k) ((k1:Int)- 1).toNat).2)]) rfl rfl rfl rfl (List.mem_of_elem_eq_true rfl) (fun hgd hgd2=> ?_) ?_
     ·have hgd':=hgd
      try simp at hgd'
      have hgd2':=hgd2
      try simp at hgd2'
      exact fun _ _ _ gq kq=>iF (gq.1.trans (jF hgd hgd2)) (gq.2.1.trans (jF hgd hgd2)) T.cQ O gB kq
     refine lV (φ:=agg [int ((ix (ix m.sT k) ((k1:Int)- 1).toNat).1),int ((ix (ix m.sT k) ((k1:Int)- 1).toNat).2)]) rfl rfl rfl rfl (List.mem_of_elem_eq_true rfl) (fun hgd hgd2=> ?_) ?_
     ·have hgd':=hgd
      try simp at hgd'
      have hgd2':=hgd2
      try simp at hgd2'
      exact fun _ _ _ gq kq=>lFA (gq.1.trans (jF hgd hgd2)) T.cJ (Nat.le_of_ble_eq_true J) kq
     refine lV (φ:=agg [int ((ix (ix m.sT k) k1).1),int ((ix (ix m.sT k) k1).2)]) rfl rfl rfl rfl (List.mem_of_elem_eq_true rfl) (fun hgd hgd2=> ?_) ?_
     ·have hgd':=hgd
      try simp at hgd'
      have hgd2':=hgd2
      try simp at hgd2'
      exact fun _ _ _ gq kq=>lPA (gq.1.trans J) J T.cJ J kq
     refine lV (φ:=int (oW ((ix (ix m.sT k) ((k1:Int)- 1).toNat).1,(ix (ix m.sT k) ((k1:Int)- 1).toNat).2) ((ix (ix m.sT k) k1).1,(ix (ix m.sT k) k1).2))) rfl rfl rfl rfl (List.mem_of_elem_eq_true rfl) (fun hgd hgd2=> ?_) ?_
     ·have hgd':=hgd
      try simp at hgd'
      have hgd2':=hgd2
      try simp at hgd2'
      have hp1:=eE.1 (hI1.1 ((k1:Int)- 1).toNat O)
      have hb1:bdP ((ix (ix m.sT k) ((k1:Int)- 1).toNat).1,(ix (ix m.sT k) ((k1:Int)- 1).toNat).2):=by unfold bdP;dsimp only;omega
      have hb2:bdP ((ix (ix m.sT k) k1).1,(ix (ix m.sT k) k1).2):=by unfold bdP;dsimp only;omega
      exact fun _ _ _ gq kq=>bB (φs:= [agg [int ((ix (ix m.sT k) ((k1:Int)- 1).toNat).1),int ((ix (ix m.sT k) ((k1:Int)- 1).toNat).2)],agg [int ((ix (ix m.sT k) k1).1),int ((ix (ix m.sT k) k1).2)]]) (φ:=int (oW ((ix (ix m.sT k) ((k1:Int)- 1).toNat).1,(ix (ix m.sT k) ((k1:Int)- 1).toNat).2) ((ix (ix m.sT k) k1).1,(ix (ix m.sT k) k1).2))) ⟨(gq.1.trans (jF hgd hgd2)),(gq.2.1.trans (jF hgd hgd2)),tV⟩ (sysw.OA ((ix (ix m.sT k) ((k1:Int)- 1).toNat).1,(ix (ix m.sT k) ((k1:Int)- 1).toNat).2) ((ix (ix m.sT k) k1).1,(ix (ix m.sT k) k1).2) aS aS) T.Vu kq
     refine lV (φ:=bl (decide (0≤(oW ((ix (ix m.sT k) ((k1:Int)- 1).toNat).1,(ix (ix m.sT k) ((k1:Int)- 1).toNat).2) ((ix (ix m.sT k) k1).1,(ix (ix m.sT k) k1).2))))) rfl rfl rfl rfl (List.mem_of_elem_eq_true rfl) (fun hgd hgd2=> ?_) ?_
     ·have hgd':=hgd
      try simp at hgd'
      have hgd2':=hgd2
      try simp at hgd2'
      exact fun _ _ _ gq kq=>bi (gq.1.trans (jF hgd hgd2)) J fU kq
     refine sg_ (φ:=bl ((decide (0<(k1:Int)))&&(decide (0≤(oW ((ix (ix m.sT k) ((k1:Int)- 1).toNat).1,(ix (ix m.sT k) ((k1:Int)- 1).toNat).2) ((ix (ix m.sT k) k1).1,(ix (ix m.sT k) k1).2)))))) J J J J (List.mem_of_elem_eq_true J) (fun hgd=> ?_) ?_
     ·have hgd':=hgd
      try simp at hgd'
      exact fun _ _ _ gq kq=>pk (gq.1.trans (cP hgd)) (EX (x:= .tmp 69) (gq.1.trans (cP hgd)) (gq.2.1.trans (HM hgd)) J) kq
     refine st_ J (fun _ _ _ gq kq=>pk (gq.1.trans J) (tC (x:= .tmp 66) (gq.1.trans J) (gq.2.1.trans J) J) kq) ?_
     refine pn (nl (th ?_))
     refine cd J (fun hc4=> ?_) (fun hc4=> ?_)
     ·skip
      simp only [Bool.or_eq_true,Bool.and_eq_true,decide_eq_true_eq] at hc4
      refine sq (rg (ag (nl (th (rt (rb (rt_ (rt_ (rb (rb (rt_ (rt_ (rb (rt_ ?_))))))))))))))
      have hr0:false=(bN m):=by
       unfold bN
       rw[fX (xs:=m.sT) (k:=k) O ?_];simp
       have hno:∀{p:Prop},(iC m.aC.length m.sT.length (ix (ix m.sT k) k1)=true→¬p)→p→dW m.aC.length m.sT.length (ix m.sT k)=false:=fun hh hp=>DF hc3 (by cases g:iC m.aC.length m.sT.length (ix (ix m.sT k) k1) with|false=>rfl|true=>exact absurd hp (hh g))
       rcases hc4 with(((h|h)|h)|h)|h
       ·exact hno (fun g=>by have:=eE.1 g;omega) h
       ·exact hno (fun g=>by have:=eE.1 g;omega) h
       ·exact hno (fun g=>by have:=eE.1 g;omega) h
       ·exact hno (fun g=>by have:=eE.1 g;omega) h
       ·have h5:=SB h.2
        rw[show((k1:Int)- 1).toNat=k1- 1 by omega] at h5
        refine DG hc3 O ?_
        cases g:ltP (ix (ix m.sT k) (k1- 1)) (ix (ix m.sT k) k1) with
        |false=>rfl
        |true=>exact absurd (oX.1 g) h5
      exact rE () [.tmp 2] J [bl false] ⟨.tmp J,tV⟩ (cA1 (fun x0=>rV [bl x0]) hr0) trivial eX
     ·skip
      simp only [Bool.or_eq_false_iff,Bool.and_eq_false_iff,decide_eq_false_iff_not] at hc4
      obtain⟨⟨⟨⟨h41,h42⟩,h43⟩,h44⟩,h45⟩:=hc4
      refine sk (eb (th (rg (bi J J (aG i6) (mv (nl ?_))))))
      have hN0:(k1+1)≤(ix m.sT k).length:=by
       first|omega|simp_all
      have hN1:(∀j,j<(k1+1)→iC m.aC.length m.sT.length (ix (ix m.sT k) j)=true)∧∀j,j+1<(k1+1)→ltP (ix (ix m.sT k) j) (ix (ix m.sT k) (j+1))=true:=by
       refine⟨fun j hj=> ?_,fun j hj=> ?_⟩
       ·by_cases e:j=k1
        ·subst e;exact eE.2 ⟨O,O,O,O⟩
        ·exact hI1.1 j O
       ·by_cases e:j+1=k1
        ·subst e
         rcases h45 with h|h
         ·exact absurd O h
         ·rw[show(((j+1:Nat):Int)- 1).toNat=j by omega] at h
          exact oX.2 (Sz h)
        ·exact hI1.2 j O
      exact ln (k1+1) ⟨hN0,hN1⟩ dO ⟨id,id,id,id,id,id,id,id,id,id,tV⟩ ⟨rI,tV⟩
    ·try simp at hc3
     refine ex (xt_ (xt_ (xb (eb (th (rg (bi J J (aG i6) (mv (nl ?_)))))))))
     have hN0:(k+1)≤m.sT.length:=by
      first|omega|simp_all
     have hN1:(n+((ix m.sT k).length:Int))=(bR (m.sT.take (k+1)):Int)∧(m.sT.take (k+1)).all (dW m.aC.length m.sT.length)=true∧(n+((ix m.sT k).length:Int))≤400000:=by
      refine⟨?_,?_,O⟩
      ·rw[bM O,kH];omega
      ·rw[eS O,hal,sG (fun j hj=>hI1.1 j O) (fun j hj=>hI1.2 j O)];rfl
     exact ln (⟨k+1,n+((ix m.sT k).length:Int)⟩:Nat × Int) ⟨hN0,hN1⟩ dO ⟨id,id,id,id,id,id,tV⟩ ⟨rI,tV⟩
  ·try simp at hc1
   refine ex (xt_ (xt_ (xb (th (sq (rg (ag (nl (th (rt ?_))))))))))
   have hr0:true=(bN m):=by
    have hkk:k=m.sT.length:=by omega
    rw[hkk,List.take_length] at hal hn
    unfold bN
    rw[hal,hc0.1.1]
    simp;omega
   exact rE () [.tmp 2] J [bl true] ⟨.tmp J,tV⟩ (cA1 (fun x0=>rV [bl x0]) hr0) trivial eX
theorem Fc (m:aA) (most:Int) (hm:most≤1000000):
 Fn0 Tryz.prog 45 [sys m,int most] (bl (xW m most)):=by
 refine fnI Tryz.func45 rfl rfl (fun w0 F0=> ?_)
 refine fcC (bW 0 J) (fun hS0=> ?_)
 obtain⟨hma0,hms0,hme0⟩:=bU hS0
 refine sq (rg (bx (key:=2) (cs:= [sl 1 rE_ m.aC,sl 1 gE m.sT]) J fun b2=>(ag (nl (th (sq (rg (fP J T.fB (lP J J J T.cM (fc (aV 8 J) fun hm8=>(lnF J T.eD (fP J T.bO (lP J J J T.cF (fc (aV 11 J) fun hm11=>(lnF J T.dQ (bi J J (aG i6) (ag (nl (th (sq (sq (rg (ag (nl (th (bk ?_))))))))))))))))))))))))))
 have hI0_0:((m.aC.length+m.sT.length:Nat):Int)=((m.aC.length+m.sT.length+bR (m.sT.take 0):Nat):Int)∧0≤m.sT.length:=by
  exact⟨by simp[bR],Nat.zero_le _⟩
 refine lp (κ:=Nat × Int) (fun p=> [(1,int most),(2,ptr 2 b2 0),(4,bl false),(5,int p.2),(6,int (p.1:Int))]) (fun p=> [(2,cell b2 [sl 1 rE_ m.aC,sl 1 gE m.sT])]) (fun p=>p.2=((m.aC.length+m.sT.length+bR (m.sT.take p.1):Nat):Int)∧p.1≤m.sT.length) (fun p=>m.sT.length- p.1) ⟨0,((m.aC.length+m.sT.length:Nat):Int)⟩ hI0_0 ⟨id,id,id,id,id,tV⟩ ⟨rI,tV⟩ ?_
 intro⟨i,n⟩ hG0
 obtain⟨hn,hil⟩:n=((m.aC.length+m.sT.length+bR (m.sT.take i):Nat):Int)∧i≤m.sT.length:=hG0
 show Ct _ _ _ _ [(1,int most),(2,ptr 2 b2 0),(4,bl false),(5,int n),(6,int (i:Int))] [(2,cell b2 [sl 1 rE_ m.aC,sl 1 gE m.sT])] _
 refine sq (sq (rg (mv (fP J T.bO (lP J J J T.cF (lnF J T.dQ (bi J J aO (mv ?_))))))))
 apply cZ (t:=19) (pd:=23) rfl
 rotate_left
 ·intro hg0 fin
  have hg0':=hg0
  try simp at hg0'
  exact gy J J J hg0 (mv (gy J J J hg0 (mv (gy J J J hg0 (bi J J nN (pkT J hg0 J (drp (X:= [(22,_),(21,_),(20,_)]) ⟨J,J,J,tV⟩ fin)))))))
 ·intro hg0 fin
  exact gn J J J hg0 J J (gn J J J hg0 J J (gn J J J hg0 J J (pkF J hg0 J (drp (X:= [(22,_),(21,_),(20,_)]) ⟨J,J,J,tV⟩ fin))))
 refine nl (th ?_)
 refine cd J (fun hc0=> ?_) (fun hc0=> ?_)
 ·try simp at hc0
  refine sk (th (sq (bk (rg (mv (fP J T.bO (lP J J J T.cF (mv (iF J J T.dQ O gB (lF J J T.gF (fc (aV 31 J) fun hm31=>(lnF J T.cQ (bi J J (aG i6) (ag (nl (eb (th (rg (mv (bi J J (aG i6) (ag (nl ?_))))))))))))))))))))))
  have hN0:(n+((ix m.sT i).length:Int))=((m.aC.length+m.sT.length+bR (m.sT.take (i+1)):Nat):Int)∧(i+1)≤m.sT.length:=by
   refine⟨?_,O⟩
   rw[bM O,kH];omega
  exact ln (⟨i+1,n+((ix m.sT i).length:Int)⟩:Nat × Int) hN0 dO ⟨id,id,id,id,id,tV⟩ ⟨rI,tV⟩
 ·try simp at hc0
  refine ex (xt_ (xt_ (xb (th (sq (rg (mv (mv (bi J J nN (ag (nl (th (rt ?_)))))))))))))
  have hr0:(decide (n≤most))=(xW m most):=by
   unfold xW BL
   have h1:=uH m.sT i
   by_cases h2:i<m.sT.length
   ·rw[decide_eq_false O,decide_eq_false O]
   ·rw[hn,show i=m.sT.length by omega,List.take_length]
  exact rE () [.tmp 4] J [bl (decide (n≤most))] ⟨.tmp J,tV⟩ (cA1 (fun x0=>rV [bl x0]) hr0) trivial eX
theorem Cr (m:aA) (hs:BL m≤100000000):
 AL.Fn Tryz.prog 17 [sys m] [] (ι:=Unit) (fun N _=>Vs N m) (fun _=> []):=by
 refine fnI Tryz.func17 rfl rfl (fun w0 F0=> ?_)
 have hsz:=hs;unfold BL at hsz
 refine fcC (bW 0 J) (fun hS0=> ?_)
 obtain⟨hma0,hms0,hme0⟩:=bU hS0
 refine sq (rg (bx (key:=1) (cs:= [sl 1 rE_ m.aC,sl 1 gE m.sT]) J fun b1=>(al (key:=2) T.z25 (eC (eC eZ)) fun b2=>(nl (th (sq (rg (fP J T.fB (lP J J J T.cM (uQ (enc:=rE_) (ys:=m.aC) J J T.xH mL flat (bd (css:= [(0,_)]) T.oD (eC (eC eZ)) ⟨J,J,p1 (φ:=fre w0.heap.size (sl 1 rE_ m.aC)) J,tV⟩ (al (key:=3) T.z25 (eC (eC eZ)) fun b3=>(sPA (cs':= [fre w0.heap.size (sl 1 rE_ m.aC),eqv (.slice none 0 0)]) J J J T.bE J J (nl (th (sq (sq (rg (fP J T.bO (lP J J J T.cF (fc (aV 11 J) fun hm11=>(lnF J T.dQ (mv (nl (th (bk ?_))))))))))))))))))))))))))
 refine nwC 30 87 1 (kX w0.heap.size) (jS 3 1 (osl 30 (.slice none 0 0)) rfl rfl dM ?_)
 have hI0_0:0≤m.sT.length:=by
  first|omega|simp
 have hI0_1:([]:List (List (Int × Int)))=m.sT.take 0:=by
  rfl
 refine lp (κ:=Nat × Value × (List (List (Int × Int)))) (fun p=> [(2,ptr 2 b2 0),(3,ptr 3 b3 0),(11,sl 1 gE m.sT),(12,int (m.sT.length:Int)),(13,int (p.1:Int))]) (fun p=> [(1,cell b1 [sl 1 rE_ m.aC,sl 1 gE m.sT]),(2,cell b2 [eqv (.slice none 0 0),eqv (.slice none 0 0)]),(3,cell b3 [fre w0.heap.size (sl 1 rE_ m.aC),osl 30 p.2.1]),(30,own p.2.1 87 1 (kX w0.heap.size) p.2.2)]) (fun p=>(p.1≤m.sT.length)∧(p.2.2=m.sT.take p.1)) (fun p=>m.sT.length- p.1) ⟨0,(.slice none 0 0),([]:List (List (Int × Int)))⟩ ⟨hI0_0,hI0_1⟩ ⟨id,id,id,id,id,tV⟩ ⟨rI,rI,rI,rI,tV⟩ ?_
 intro⟨k,v,acc⟩ hG0
 obtain⟨hk0,hI0⟩:(k≤m.sT.length)∧(acc=m.sT.take k):=hG0
 show Ct _ _ _ _ [(2,ptr 2 b2 0),(3,ptr 3 b3 0),(11,sl 1 gE m.sT),(12,int (m.sT.length:Int)),(13,int (k:Int))] [(1,cell b1 [sl 1 rE_ m.aC,sl 1 gE m.sT]),(2,cell b2 [eqv (.slice none 0 0),eqv (.slice none 0 0)]),(3,cell b3 [fre w0.heap.size (sl 1 rE_ m.aC),osl 30 v]),(30,own v 87 1 (kX w0.heap.size) acc)] _
 have hlen:acc.length≤k:=by rw[hI0];simp;omega
 refine sq (rg (bi J J aO (nl (th (sq ?_)))))
 refine cd J (fun hc0=> ?_) (fun hc0=> ?_)
 ·try simp at hc0
  have hb2:=DD hc0
  refine sk (th (sq (bk (sq (rg (iF J J T.dQ O gB (lF J J T.gF (ag (nl (th (dr (nh:=5) [0,1,0,4,12,31,63,127] T.mixed kR ?_)))))))))))
  refine st_ J (fun _ _ _ gq kq=>fP (gq.1.trans J) T.bO kq) ?_
  refine st_ J (fun _ _ _ gq kq=>lP (gq.1.trans J) J J T.cF kq) ?_
  refine st_ J (fun _ _ _ gq kq=>mv' (gq.1.trans J) kq) ?_
  refine st_ J (fun _ _ _ gq kq=>uQ (enc:=pE) (ys:=ix m.sT k) J (gq.1.trans J) T.oY mL flat kq) ?_
  refine st_ J (fun _ _ _ gq kq=>bsE (enc:=kX w0.heap.size) (xs:= [(ix m.sT k)]) (css:= [[fre w0.heap.size (sl 2 pE (ix m.sT k))]]) T.sH ⟨J,J,p1 (φ:=fre w0.heap.size (sl 2 pE (ix m.sT k))) (by exact(gq.1.trans J)),tV⟩ J J J J kq) ?_
  refine pn (ap (key:=30) (zs:= [(ix m.sT k)]) bX J J J T.sH (by unfold aT at*;simp;omega) (by unfold aT at*;simp;omega) fun v22=>(fP J T.bO (cI J J J J T.cF J (nl (eb (th (rg (bi J J (aG i6) (mv (nl ?_))))))))))
  have hN0:(k+1)≤m.sT.length:=by
   first|omega|simp_all
  have hN1:(acc++ [(ix m.sT k)])=m.sT.take (k+1):=by
   rw[hI0,bM hc0]
  exact ln (⟨k+1,v22,acc++ [(ix m.sT k)]⟩:Nat × Value × (List (List (Int × Int)))) ⟨hN0,hN1⟩ dO ⟨id,id,id,id,id,tV⟩ ⟨rI,rI,rI,rI,tV⟩
 ·try simp at hc0
  refine ex (xt_ (xt_ (xb (th (sq (rg (NH gE 3 30 1 noM (fun _=>J) J J J (by decide) (lPA J J T.bE J (sPA (cs':= [fre w0.heap.size (sl 1 rE_ m.aC),fre w0.heap.size (sl 1 gE acc)]) J J J T.bE J J (nl (th (rt ?_))))))))))))
  have hr0:acc=m.sT:=by
   rw[hI0,show k=m.sT.length by omega,List.take_length]
  exact rE () [.cell 2 25] J [agg [fre w0.heap.size (sl 1 rE_ m.aC),fre w0.heap.size (sl 1 gE acc)]] ⟨.agg J J T.bE J J,tV⟩ (cA1 (fun x0=>rV [agg [fre w0.heap.size (sl 1 rE_ m.aC),fre w0.heap.size (sl 1 gE x0)]]) hr0) trivial eX
end sysw
end
section
open ref01 ref03 ref04 ref06 prog prog2 prog3 prog6 Part Rungs LeftM TrimM RoundM BisM BisM5
def pZ (l:List ByteArray):SS:=⟨l,[⟨(List.range (2^l.length)).map fun(x:Nat)=>(x:Int),List.replicate l.length 0⟩]⟩
namespace divr
theorem tE (l:List Int) (x:Int):
 Fn0 Tryz.prog 128 [ints l,int x] (bl (decide (x∈l))):=by
 refine fnI Tryz.func128 rfl rfl (fun w0 F0=> ?_)
 refine fcC (aV 0 J) (fun hm0=> ?_)
 refine sq (rg (ag (nl (th (sq (sq (rg (mv (lnF J T.aX (mv (nl (th (bk ?_)))))))))))))
 have hI0_0:0≤l.length:=by
  first|omega|simp
 have hI0_1:∀j,j<0→x≠ix l j:=by
  intro j hj;omega
 refine lp (κ:=Nat) (fun p=> [(1,int x),(7,sl 1 nE l),(8,int (l.length:Int)),(9,int (p:Int))]) (fun p=> []) (fun p=>(p≤l.length)∧(∀j,j<p→x≠ix l j)) (fun p=>l.length- p) 0 ⟨hI0_0,hI0_1⟩ ⟨id,id,id,id,tV⟩ trivial ?_
 intro k hG0
 obtain⟨hk0,hI0⟩:(k≤l.length)∧(∀j,j<k→x≠ix l j):=hG0
 refine sq (rg (bi J J aO (nl (th (sq ?_)))))
 refine cd J (fun hc0=> ?_) (fun hc0=> ?_)
 ·try simp at hc0
  refine sk (th (sq (bk (sq (rg (iF J J T.aX O gB (lF J J T.aF (ag (nl (th (sq (rg (mv (mv (bi J J dZ (nl (th ?_)))))))))))))))))
  refine cd J (fun hc1=> ?_) (fun hc1=> ?_)
  ·try simp at hc1
   refine sq (rg (ag (nl (th (rt (rb (rt_ (rt_ (rb (rt_ ?_))))))))))
   have hr0:true=(decide (x∈l)):=by
    exact(decide_eq_true (by rw[hc1];exact iJ O)).symm
   exact rE () [.tmp 4] J [bl true] ⟨.tmp J,tV⟩ (cA1 (fun x0=>rV [bl x0]) hr0) trivial eX
  ·try simp at hc1
   refine sk (eb (th (rg (bi J J (aG i6) (mv (nl ?_))))))
   have hN0:(k+1)≤l.length:=by
    first|omega|simp_all
   have hN1:∀j,j<(k+1)→x≠ix l j:=by
    intro j hj
    by_cases e:j=k
    ·subst e;exact hc1
    ·exact hI0 j O
   exact ln (k+1) ⟨hN0,hN1⟩ dO ⟨id,id,id,id,tV⟩ trivial
 ·try simp at hc0
  refine ex (xt_ (xt_ (xb (th (sq (rg (ag (nl (th (rt ?_))))))))))
  have hr0:false=(decide (x∈l)):=by
   refine(decide_eq_false (fun hx=> ?_)).symm
   obtain⟨j,hj,e⟩:=List.getElem_of_mem hx
   exact hI0 j O (by rw[aD hj];exact e.symm)
  exact rE () [.tmp 4] J [bl false] ⟨.tmp J,tV⟩ (cA1 (fun x0=>rV [bl x0]) hr0) trivial eX
end divr
end
section
open ref01 ref03 ref04 ref06 prog prog2 prog3 prog6 prog13 Part Rungs LeftM TrimM RoundM BisM BisM5 WalkM StepM WitM JudgM refw judg wit sysw divr
def bQ (u o:Int):Int:=((u.toNat&&&o.toNat:Nat):Int)
def Xo (x y:SA) (u:Int):Bool:=y.aP.all fun o=>decide (bQ u o∈x.aP)
def mM (m:aA):Bool:=decide (m.aC.length=0)&&decide (m.sT.length=0)
def xY (s:SS) (x u:Int):Bool:=decide (0≤x)&&decide (u∈acc s x.toNat)
namespace T
theorem Vv:Ent Tryz.prog 128:=aN kR
theorem Xp:Ent Tryz.prog 63:=aN kR
end T
namespace divs
theorem OB (m:aA):
 Fn0 Tryz.prog 26 [sys m] (bl (mM m)):=by
 refine fnI Tryz.func26 rfl rfl (fun w0 F0=> ?_)
 refine fcC (bW 0 J) (fun hS0=> ?_)
 obtain⟨hma0,hms0,hme0⟩:=bU hS0
 refine sq (rg (bx (key:=1) (cs:= [sl 1 rE_ m.aC,sl 1 gE m.sT]) J fun b1=>(ag (nl (th (sq (rg (fP J T.fB (lP J J J T.cM (fc (aV 4 J) fun hm4=>(lnF J T.eD (bi J J dZ (mv ?_)))))))))))))
 apply cZ (t:=7) (pd:=12) rfl
 rotate_left
 ·intro hg0 fin
  have hg0':=hg0
  try simp at hg0'
  exact gy J J J hg0 (fP J T.bO (gy J J J hg0 (lP J J J T.cF (gy J J J hg0 (fc (aV 9 J) fun hm9=>(lnF J T.dQ (gy J J J hg0 (bi J J dZ (pkT J hg0 J (drp (X:= [(11,_),(10,_),(9,_),(8,_)]) ⟨J,J,J,J,tV⟩ fin))))))))))
 ·intro hg0 fin
  exact gn J J J hg0 J J (gn J J J hg0 J J (gn J J J hg0 J J (gn J J J hg0 J J (pkF J hg0 J (drp (X:= [(11,_),(10,_),(9,_),(8,_)]) ⟨J,J,J,J,tV⟩ fin)))))
 refine ag (nl (th (rt ?_)))
 have hr0:((decide ((m.aC.length:Int)=0))&&(decide ((m.sT.length:Int)=0)))=(mM m):=by
  unfold mM;simp
 exact rE () [.tmp 2] J [bl ((decide ((m.aC.length:Int)=0))&&(decide ((m.sT.length:Int)=0)))] ⟨.tmp J,tV⟩ (cA1 (fun x0=>rV [bl x0]) hr0) trivial eX
theorem nY (s:SS) (x u:Int) (hx:x<(s.sT.length:Int)):
 Fn0 Tryz.prog 88 [spec s,int x,int u] (bl (xY s x u)):=by
 refine fnI Tryz.func88 rfl rfl (fun w0 F0=> ?_)
 refine fcC (bW 0 J) (fun hS0=> ?_)
 obtain⟨hsa0,hss0,hse0⟩:=sLn hS0
 refine sq (rg (bx (key:=3) (cs:= [sl 1 rE_ s.aC,sl 2 sE s.sT]) J fun b3=>(ag (nl (th (sq (rg (mv (bi J J fU (mv ?_))))))))))
 apply cZ (t:=9) (pd:=18) rfl
 rotate_left
 ·intro hg0 fin
  have hg0':=hg0
  try simp at hg0'
  exact gy J J J hg0 (fP J T.bL (gy J J J hg0 (lP J J J T.bT (gy J J J hg0 (mv (gy J J J hg0 (iF J J T.cO O gB (gy J J J hg0 (fF J T.cK (gy J J J hg0 (lF J J T.bD (gy J J J hg0 (mv (gy J J J hg0 (bB (φs:= [sl 1 nE (ix s.sT x.toNat).aP,int u]) (φ:=bl (decide (u∈(ix s.sT x.toNat).aP))) ⟨J,J,tV⟩ (divr.tE _ _) T.Vv (pkT J hg0 J (drp (X:= [(17,_),(16,_),(15,_),(14,_),(13,_),(12,_),(11,_),(10,_)]) ⟨J,J,J,J,J,J,J,J,tV⟩ fin)))))))))))))))))
 ·intro hg0 fin
  exact gn J J J hg0 J J (gn J J J hg0 J J (gn J J J hg0 J J (gn J J J hg0 J J (gn J J J hg0 J J (gn J J J hg0 J J (gn J J J hg0 J J (gn J J J hg0 J J (pkF J hg0 J (drp (X:= [(17,_),(16,_),(15,_),(14,_),(13,_),(12,_),(11,_),(10,_)]) ⟨J,J,J,J,J,J,J,J,tV⟩ fin)))))))))
 refine ag (nl (th (rt ?_)))
 have hr0:((decide (0≤x))&&(decide (u∈(ix s.sT x.toNat).aP)))=(xY s x u):=by
  first|rfl|simp_all|omega
 exact rE () [.tmp 6] J [bl ((decide (0≤x))&&(decide (u∈(ix s.sT x.toNat).aP)))] ⟨.tmp J,tV⟩ (cA1 (fun x0=>rV [bl x0]) hr0) trivial eX
theorem LZ (d e:Int × Int):
 Fn0 Tryz.prog 63 [agg [int d.1,int d.2],agg [int e.1,int e.2]] (bl (ltP d e)):=by
 refine fnI Tryz.func63 rfl rfl (fun w0 F0=> ?_)
 refine sq (rg (bx (key:=2) (cs:= [int d.1,int d.2]) J fun b2=>(bx (key:=3) (cs:= [int e.1,int e.2]) J fun b3=>(ag (nl (th (sq (rg (fP J T.cT (lP J J J T.aF (fP J T.cT (lP J J J T.aF (bi J J aO (mv ?_))))))))))))))
 apply gOr (t:=10) (pd:=23) rfl
 rotate_left
 ·intro hg0 fin
  have hg0':=hg0
  try simp at hg0'
  refine gy rfl rfl rfl hg0 (fP rfl T.cT (gy rfl rfl rfl hg0 (lP rfl rfl rfl T.aF (gy rfl rfl rfl hg0 (fP rfl T.cT (gy rfl rfl rfl hg0 (lP rfl rfl rfl T.aF (gy rfl rfl rfl hg0 (bi rfl rfl dZ (gy rfl rfl rfl hg0 (mv ?_)))))))))))
  apply cZ (t:=16) (pd:=22) rfl
  rotate_left
  ·intro hg1 fin
   have hg1':=hg1
   try simp at hg1'
   exact gy J J J hg1 (fP J T.cX (gy J J J hg1 (lP J J J T.aF (gy J J J hg1 (fP J T.cX (gy J J J hg1 (lP J J J T.aF (gy J J J hg1 (bi J J aO (gy J J J hg0 (pkT J hg1 J (drp (X:= [(21,_),(20,_),(19,_),(18,_),(17,_)]) ⟨J,J,J,J,J,tV⟩ fin))))))))))))
  ·intro hg1 fin
   exact gn J J J hg1 J J (gn J J J hg1 J J (gn J J J hg1 J J (gn J J J hg1 J J (gn J J J hg1 J J (gy J J J hg0 (pkF J hg1 J (drp (X:= [(21,_),(20,_),(19,_),(18,_),(17,_)]) ⟨J,J,J,J,J,tV⟩ fin)))))))
  exact pkF rfl hg0 rfl (drp (X:= [(22,_),(16,_),(15,_),(14,_),(13,_),(12,_),(11,_)]) ⟨rfl,rfl,rfl,rfl,rfl,rfl,rfl,tV⟩ fin)
 ·intro hg0 fin
  exact gn J J J hg0 J J (gn J J J hg0 J J (gn J J J hg0 J J (gn J J J hg0 J J (gn J J J hg0 J J (gn J J J hg0 J J (gu J J J J J (gu J J J J J (gu J J J J J (gu J J J J J (gu J J J J J (gn J J J hg0 J J (pkT J hg0 J (drp (X:= [(22,_),(21,_),(20,_),(19,_),(18,_),(17,_),(16,_),(15,_),(14,_),(13,_),(12,_),(11,_)]) ⟨J,J,J,J,J,J,J,J,J,J,J,J,tV⟩ fin)))))))))))))
 refine ag (nl (th (rt ?_)))
 have hr0:((decide (d.1<e.1))||((decide (d.1=e.1))&&(decide (d.2<e.2))))=(ltP d e):=by
  first|rfl|simp_all|omega
 exact rE () [.tmp 4] J [bl ((decide (d.1<e.1))||((decide (d.1=e.1))&&(decide (d.2<e.2))))] ⟨.tmp J,tV⟩ (cA1 (fun x0=>rV [bl x0]) hr0) trivial eX
theorem wC (m:aA) (x:Int) (hm:∀e∈ix m.sT x.toNat,0≤e.1∧e.1<8) (h0:0≤x) (hx:x<(m.sT.length:Int)):
 Fn0 Tryz.prog 89 [sys m,int x] (int (bK m x.toNat)):=by
 refine fnI Tryz.func89 rfl rfl (fun w0 F0=> ?_)
 refine fcC (bW 0 J) (fun hS0=> ?_)
 obtain⟨hma0,hms0,hme0⟩:=bU hS0
 refine sq (rg (bx (key:=2) (cs:= [sl 1 rE_ m.aC,sl 1 gE m.sT]) J fun b2=>(ag (nl (th (sq (rg (ag (nl (th (sq (sq (rg (fP J T.bO (lP J J J T.cF (mv (iF J J T.dQ O gB (lF J J T.gF (fc (aV 12 J) fun hm12=>(lnF J T.cQ (mv (nl (th (bk ?_))))))))))))))))))))))))
 have hI0_0:0≤(ix m.sT x.toNat).length:=by
  first|omega|simp
 have hI0_1:(0:Int)=dI ((ix m.sT x.toNat).take 0)∧0≤(0:Int)∧(0:Int)<256:=by
  exact⟨rfl,O,O⟩
 refine lp (κ:=Nat × Int) (fun p=> [(4,int 0),(5,int p.2),(12,sl 2 pE (ix m.sT x.toNat)),(13,int ((ix m.sT x.toNat).length:Int)),(14,int (p.1:Int))]) (fun p=> [(2,cell b2 [sl 1 rE_ m.aC,sl 1 gE m.sT])]) (fun p=>(p.1≤(ix m.sT x.toNat).length)∧(p.2=dI ((ix m.sT x.toNat).take p.1)∧0≤p.2∧p.2<256)) (fun p=>(ix m.sT x.toNat).length- p.1) ⟨0,(0:Int)⟩ ⟨hI0_0,hI0_1⟩ ⟨id,id,id,id,id,tV⟩ ⟨rI,tV⟩ ?_
 intro⟨k,u⟩ hG0
 obtain⟨hk0,⟨hu,hu0,hu1⟩⟩:(k≤(ix m.sT x.toNat).length)∧(u=dI ((ix m.sT x.toNat).take k)∧0≤u∧u<256):=hG0
 show Ct _ _ _ _ [(4,int 0),(5,int u),(12,sl 2 pE (ix m.sT x.toNat)),(13,int ((ix m.sT x.toNat).length:Int)),(14,int (k:Int))] [(2,cell b2 [sl 1 rE_ m.aC,sl 1 gE m.sT])] _
 refine sq (rg (bi J J aO (nl (th (sq ?_)))))
 refine cd J (fun hc0=> ?_) (fun hc0=> ?_)
 ·try simp at hc0
  have hek:=hm _ (aQ hc0)
  have hp:2^ ((ix (ix m.sT x.toNat) k).1).toNat≤2^7:=Nat.pow_le_pow_right O O
  have hp0:0≤((2^ ((ix (ix m.sT x.toNat) k).1).toNat:Nat):Int):=Int.natCast_nonneg _
  refine sk (th (sq (bk (sq (rg (iF J J T.cQ O gB (lFA J T.cJ (Nat.le_of_ble_eq_true J) (al (key:=7) T.z94 (eC (eC eZ)) fun b7=>(sPA (cs':= [int ((ix (ix m.sT x.toNat) k).1),int ((ix (ix m.sT x.toNat) k).2)]) J J J T.cJ J J (nl (th (rg (mv (fP J T.cT (lP J J J T.aF (bi J J (pU O O) (bi J J (vN O O O O) (ag (nl (eb (th (rg (bi J J (aG i6) (mv (nl ?_)))))))))))))))))))))))))
  have hN0:(k+1)≤(ix m.sT x.toNat).length:=by
   first|omega|simp_all
  have hN1:((u.toNat|||(2^ ((ix (ix m.sT x.toNat) k).1).toNat):Nat):Int)=dI ((ix m.sT x.toNat).take (k+1))∧0≤((u.toNat|||(2^ ((ix (ix m.sT x.toNat) k).1).toNat):Nat):Int)∧((u.toNat|||(2^ ((ix (ix m.sT x.toNat) k).1).toNat):Nat):Int)<256:=by
   refine⟨?_,O,kU (b:=((2^ ((ix (ix m.sT x.toNat) k).1).toNat:Nat):Int)) hu1 O⟩
   rw[bM hc0]
   unfold dI
   rw[List.map_append,List.map_cons,List.map_nil,iL,hu];rfl
  exact ln (⟨k+1,((u.toNat|||(2^ ((ix (ix m.sT x.toNat) k).1).toNat):Nat):Int)⟩:Nat × Int) ⟨hN0,hN1⟩ dO ⟨id,id,id,id,id,tV⟩ ⟨rI,tV⟩
 ·try simp at hc0
  refine ex (xt_ (xt_ (xb (th (sq (rg (mv (ag (nl (th (rt ?_)))))))))))
  have hr0:(u:Int)=(bK m x.toNat):=by
   rw[hu,show k=(ix m.sT x.toNat).length by omega,List.take_length]
  exact rE () [.tmp 4] J [int u] ⟨.tmp J,tV⟩ (cA1 (fun x0=>rV [int x0]) hr0) trivial eX
theorem vR (m:aA):
 Fn0 Tryz.prog 27 [sys m] (bl (bN m)):=by
 refine fnI Tryz.func27 rfl rfl (fun w0 F0=> ?_)
 refine fcC (bW 0 J) (fun hS0=> ?_)
 obtain⟨hma0,hms0,hme0⟩:=bU hS0
 refine sq (rg (bx (key:=1) (cs:= [sl 1 rE_ m.aC,sl 1 gE m.sT]) J fun b1=>(ag (nl (th (sq (sq (rg (fP J T.fB (lP J J J T.cM (bB (φs:= [sl 1 rE_ m.aC]) (φ:=bl (bV m.aC)) ⟨J,tV⟩ (ref01.vR _) T.QS (no J (mv ?_)))))))))))))
 apply gOr (t:=12) (pd:=17) rfl
 rotate_left
 ·intro hg0 fin
  have hg0':=hg0
  try simp at hg0'
  exact gy J J J hg0 (fP J T.bO (gy J J J hg0 (lP J J J T.cF (gy J J J hg0 (fc (aV 14 J) fun hm14=>(lnF J T.dQ (gy J J J hg0 (bi J J aO (pkF J hg0 J (drp (X:= [(16,_),(15,_),(14,_),(13,_)]) ⟨J,J,J,J,tV⟩ fin))))))))))
 ·intro hg0 fin
  exact gn J J J hg0 J J (gn J J J hg0 J J (gn J J J hg0 J J (gn J J J hg0 J J (pkT J hg0 J (drp (X:= [(16,_),(15,_),(14,_),(13,_)]) ⟨J,J,J,J,tV⟩ fin)))))
 refine mv ?_
 apply gOr (t:=18) (pd:=23) rfl
 rotate_left
 ·intro hg1 fin
  have hg1':=hg1
  try simp at hg1'
  exact gy J J J hg1 (fP J T.bO (gy J J J hg1 (lP J J J T.cF (gy J J J hg1 (fc (aV 20 J) fun hm20=>(lnF J T.dQ (gy J J J hg1 (bi J J fN (pkF J hg1 J (drp (X:= [(22,_),(21,_),(20,_),(19,_)]) ⟨J,J,J,J,tV⟩ fin))))))))))
 ·intro hg1 fin
  exact gn J J J hg1 J J (gn J J J hg1 J J (gn J J J hg1 J J (gn J J J hg1 J J (pkT J hg1 J (drp (X:= [(22,_),(21,_),(20,_),(19,_)]) ⟨J,J,J,J,tV⟩ fin)))))
 refine nl (th ?_)
 refine cd J (fun hc0=> ?_) (fun hc0=> ?_)
 ·try simp at hc0
  refine sq (rg (ag (nl (th (rt (rt_ ?_))))))
  have hr0:false=(bN m):=by
   unfold bN
   by_cases h:bV m.aC=true
   ·simp[h] at hc0 ⊢
    omega
   ·simp[h]
  exact rE () [.tmp 2] J [bl false] ⟨.tmp J,tV⟩ (cA1 (fun x0=>rV [bl x0]) hr0) trivial eX
 ·try simp at hc0
  have hact:=gG (l:=m.aC) (by simp_all)
  refine sk (th (sq (rg (ag (nl (th (sq (sq (rg (fP J T.bO (lP J J J T.cF (fc (aV 25 J) fun hm25=>(lnF J T.dQ (mv (nl (th (bk ?_)))))))))))))))))
  have hI0_0:0≤m.sT.length:=by
   first|omega|simp
  have hI0_1:(0:Int)=(bR (m.sT.take 0):Int)∧(m.sT.take 0).all (dW m.aC.length m.sT.length)=true∧(0:Int)≤140737488355328*(0:Int):=by
   exact⟨rfl,by simp,O⟩
  refine lp (κ:=Nat × Int) (fun p=> [(1,ptr 1 b1 0),(3,int p.2),(25,sl 1 gE m.sT),(26,int (m.sT.length:Int)),(27,int (p.1:Int))]) (fun p=> [(1,cell b1 [sl 1 rE_ m.aC,sl 1 gE m.sT])]) (fun p=>(p.1≤m.sT.length)∧(p.2=(bR (m.sT.take p.1):Int)∧(m.sT.take p.1).all (dW m.aC.length m.sT.length)=true∧p.2≤140737488355328*(p.1:Int))) (fun p=>m.sT.length- p.1) ⟨0,(0:Int)⟩ ⟨hI0_0,hI0_1⟩ ⟨id,id,id,id,id,tV⟩ ⟨rI,tV⟩ ?_
  intro⟨k,n⟩ hG0
  obtain⟨hk0,⟨hn,hal,hn4⟩⟩:(k≤m.sT.length)∧(n=(bR (m.sT.take k):Int)∧(m.sT.take k).all (dW m.aC.length m.sT.length)=true∧n≤140737488355328*(k:Int)):=hG0
  show Ct _ _ _ _ [(1,ptr 1 b1 0),(3,int n),(25,sl 1 gE m.sT),(26,int (m.sT.length:Int)),(27,int (k:Int))] [(1,cell b1 [sl 1 rE_ m.aC,sl 1 gE m.sT])] _
  have hmk:=hme0 k
  refine sq (rg (bi J J aO (nl (th (sq ?_)))))
  refine cd J (fun hc1=> ?_) (fun hc1=> ?_)
  ·try simp at hc1
   refine sk (th (sq (bk (sq (rg (iF J J T.dQ O gB (lF J J T.gF (ag (nl (th (sq (rg (mv (mv (fc (aV 32 J) fun hm32=>(lnF J T.cQ (bi J J (aG i6) (ag (nl (th (sq (rg (mv (lnF J T.cQ (mv (nl (th (bk ?_))))))))))))))))))))))))))))
   have hI1_0:0≤(ix m.sT k).length:=by
    first|omega|simp
   have hI1_1:(∀j,j<0→iC m.aC.length m.sT.length (ix (ix m.sT k) j)=true)∧∀j,j+1<0→ltP (ix (ix m.sT k) j) (ix (ix m.sT k) (j+1))=true:=by
    exact⟨fun j hj=>by omega,fun j hj=>by omega⟩
   refine lp (κ:=Nat) (fun p=> [(1,ptr 1 b1 0),(3,int (n+((ix m.sT k).length:Int))),(5,sl 2 pE (ix m.sT k)),(25,sl 1 gE m.sT),(26,int (m.sT.length:Int)),(27,int (k:Int)),(35,sl 2 pE (ix m.sT k)),(36,int ((ix m.sT k).length:Int)),(37,int (p:Int))]) (fun p=> [(1,cell b1 [sl 1 rE_ m.aC,sl 1 gE m.sT])]) (fun p=>(p≤(ix m.sT k).length)∧((∀j,j<p→iC m.aC.length m.sT.length (ix (ix m.sT k) j)=true)∧∀j,j+1<p→ltP (ix (ix m.sT k) j) (ix (ix m.sT k) (j+1))=true)) (fun p=>(ix m.sT k).length- p) 0 ⟨hI1_0,hI1_1⟩ ⟨id,id,id,id,id,id,id,id,id,tV⟩ ⟨rI,tV⟩ ?_
   intro k1 hG1
   obtain⟨hk1,hI1⟩:(k1≤(ix m.sT k).length)∧((∀j,j<k1→iC m.aC.length m.sT.length (ix (ix m.sT k) j)=true)∧∀j,j+1<k1→ltP (ix (ix m.sT k) j) (ix (ix m.sT k) (j+1))=true):=hG1
   refine sq (rg (bi J J aO (nl (th (sq ?_)))))
   refine cd J (fun hc2=> ?_) (fun hc2=> ?_)
   ·try simp at hc2
    refine sk (th (sq (bk (sq (rg (mv (iF J J T.cQ O gB (lFA J T.cJ (Nat.le_of_ble_eq_true J) (al (key:=7) T.z94 (eC (eC eZ)) fun b7=>(ag (sPA (cs':= [int ((ix (ix m.sT k) k1).1),int ((ix (ix m.sT k) k1).2)]) J J J T.cJ J J (nl (th (sq (dr (nh:=38) [0,1,3,7,15,31,15,79,207,511,1023,2047,4095,8191,16383,32767,65535,131071,262143,131071,655359,1703935,4194303,8388607,16777215,33554431,67108863,134217727,268435455,268435455,805306367,2147483647,4294967295,268435455,17179869183,34359738367,68719476735,137438953471] T.mixed kR ?_)))))))))))))))
    refine st_ J (fun _ _ _ gq kq=>fP (gq.1.trans J) T.cT kq) ?_
    refine st_ J (fun _ _ _ gq kq=>lP (gq.1.trans J) J J T.aF kq) ?_
    refine st_ J (fun _ _ _ gq kq=>bi (gq.1.trans J) J aO kq) ?_
    refine st_ J (fun _ _ _ gq kq=>mv' (gq.1.trans J) kq) ?_
    refine sg_ (φ:=ptr 7 b7 0) J J J J (List.mem_of_elem_eq_true J) (fun hgd=> ?_) ?_
    ·have hgd':=hgd
     try simp at hgd'
     exact fun _ _ _ gq kq=>fP (gq.1.trans J) T.cT kq
    refine sg_ (φ:=int ((ix (ix m.sT k) k1).1)) J J J J (List.mem_of_elem_eq_true J) (fun hgd=> ?_) ?_
    ·have hgd':=hgd
     try simp at hgd'
     exact fun _ _ _ gq kq=>lP (gq.1.trans (cP hgd)) J J T.aF kq
    refine sg_ (φ:=ptr 1 b1 0) J J J J (List.mem_of_elem_eq_true J) (fun hgd=> ?_) ?_
    ·have hgd':=hgd
     try simp at hgd'
     exact fun _ _ _ gq kq=>fP (gq.1.trans J) T.fB kq
    refine sg_ (φ:=sl 1 rE_ m.aC) J J J J (List.mem_of_elem_eq_true J) (fun hgd=> ?_) ?_
    ·have hgd':=hgd
     try simp at hgd'
     exact fun _ _ _ gq kq=>lP (gq.1.trans (cP hgd)) J J T.cM kq
    refine sg_ (φ:=int (m.aC.length:Int)) J J J J (List.mem_of_elem_eq_true J) (fun hgd=> ?_) ?_
    ·have hgd':=hgd
     try simp at hgd'
     exact fun _ _ _ gq kq=>lnF (gq.1.trans (cP hgd)) T.eD kq
    refine sg_ (φ:=bl (decide ((m.aC.length:Int)≤((ix (ix m.sT k) k1).1)))) J J J J (List.mem_of_elem_eq_true J) (fun hgd=> ?_) ?_
    ·have hgd':=hgd
     try simp at hgd'
     exact fun _ _ _ gq kq=>bi (gq.1.trans (cP hgd)) (gq.2.1.trans (cP hgd)) fU kq
    refine st_ J (fun _ _ _ gq kq=>pk (gq.1.trans J) (tC (x:= .tmp 45) (gq.1.trans J) (gq.2.1.trans J) J) kq) ?_
    refine st_ J (fun _ _ _ gq kq=>mv' (gq.1.trans J) kq) ?_
    refine sg_ (φ:=ptr 7 b7 1) J J J J (List.mem_of_elem_eq_true J) (fun hgd=> ?_) ?_
    ·have hgd':=hgd
     try simp at hgd'
     exact fun _ _ _ gq kq=>fP (gq.1.trans J) T.cX kq
    refine sg_ (φ:=int ((ix (ix m.sT k) k1).2)) J J J J (List.mem_of_elem_eq_true J) (fun hgd=> ?_) ?_
    ·have hgd':=hgd
     try simp at hgd'
     exact fun _ _ _ gq kq=>lP (gq.1.trans (cP hgd)) J J T.aF kq
    refine sg_ (φ:=bl (decide (((ix (ix m.sT k) k1).2)<0))) J J J J (List.mem_of_elem_eq_true J) (fun hgd=> ?_) ?_
    ·have hgd':=hgd
     try simp at hgd'
     exact fun _ _ _ gq kq=>bi (gq.1.trans (cP hgd)) J aO kq
    refine st_ J (fun _ _ _ gq kq=>pk (gq.1.trans J) (tC (x:= .tmp 53) (gq.1.trans J) (gq.2.1.trans J) J) kq) ?_
    refine st_ J (fun _ _ _ gq kq=>mv' (gq.1.trans J) kq) ?_
    refine sg_ (φ:=ptr 7 b7 1) J J J J (List.mem_of_elem_eq_true J) (fun hgd=> ?_) ?_
    ·have hgd':=hgd
     try simp at hgd'
     exact fun _ _ _ gq kq=>fP (gq.1.trans J) T.cX kq
    refine sg_ (φ:=int ((ix (ix m.sT k) k1).2)) J J J J (List.mem_of_elem_eq_true J) (fun hgd=> ?_) ?_
    ·have hgd':=hgd
     try simp at hgd'
     exact fun _ _ _ gq kq=>lP (gq.1.trans (cP hgd)) J J T.aF kq
    refine sg_ (φ:=ptr 1 b1 1) J J J J (List.mem_of_elem_eq_true J) (fun hgd=> ?_) ?_
    ·have hgd':=hgd
     try simp at hgd'
     exact fun _ _ _ gq kq=>fP (gq.1.trans J) T.bO kq
    refine sg_ (φ:=sl 1 gE m.sT) J J J J (List.mem_of_elem_eq_true J) (fun hgd=> ?_) ?_
    ·have hgd':=hgd
     try simp at hgd'
     exact fun _ _ _ gq kq=>lP (gq.1.trans (cP hgd)) J J T.cF kq
    refine sg_ (φ:=int (m.sT.length:Int)) J J J J (List.mem_of_elem_eq_true J) (fun hgd=> ?_) ?_
    ·have hgd':=hgd
     try simp at hgd'
     exact fun _ _ _ gq kq=>lnF (gq.1.trans (cP hgd)) T.dQ kq
    refine sg_ (φ:=bl (decide ((m.sT.length:Int)≤((ix (ix m.sT k) k1).2)))) J J J J (List.mem_of_elem_eq_true J) (fun hgd=> ?_) ?_
    ·have hgd':=hgd
     try simp at hgd'
     exact fun _ _ _ gq kq=>bi (gq.1.trans (cP hgd)) (gq.2.1.trans (cP hgd)) fU kq
    refine st_ J (fun _ _ _ gq kq=>pk (gq.1.trans J) (tC (x:= .tmp 58) (gq.1.trans J) (gq.2.1.trans J) J) kq) ?_
    refine st_ J (fun _ _ _ gq kq=>mv' (gq.1.trans J) kq) ?_
    refine sg_ (φ:=int (k1:Int)) J J J J (List.mem_of_elem_eq_true J) (fun hgd=> ?_) ?_
    ·have hgd':=hgd
     try simp at hgd'
     exact fun _ _ _ gq kq=>mv' (gq.1.trans J) kq
    refine sg_ (φ:=bl (decide (0<(k1:Int)))) J J J J (List.mem_of_elem_eq_true J) (fun hgd=> ?_) ?_
    ·have hgd':=hgd
     try simp at hgd'
     exact fun _ _ _ gq kq=>bi (gq.1.trans (cP hgd)) J fN kq
    refine sg_ (φ:=bl (decide (0<(k1:Int)))) J J J J (List.mem_of_elem_eq_true J) (fun hgd=> ?_) ?_
    ·have hgd':=hgd
     try simp at hgd'
     exact fun _ _ _ gq kq=>mv' (gq.1.trans (cP hgd)) kq
    refine lV (φ:=sl 2 pE (ix m.sT k)) rfl rfl rfl rfl (List.mem_of_elem_eq_true rfl) (fun hgd hgd2=> ?_) ?_
    ·have hgd':=hgd
     try simp at hgd'
     have hgd2':=hgd2
     try simp at hgd2'
     exact fun _ _ _ gq kq=>mv' (gq.1.trans J) kq
    refine lV (φ:=int (k1:Int)) rfl rfl rfl rfl (List.mem_of_elem_eq_true rfl) (fun hgd hgd2=> ?_) ?_
    ·have hgd':=hgd
     try simp at hgd'
     have hgd2':=hgd2
     try simp at hgd2'
     exact fun _ _ _ gq kq=>mv' (gq.1.trans J) kq
    refine lV (φ:=int ((k1:Int)- 1)) rfl rfl rfl rfl (List.mem_of_elem_eq_true rfl) (fun hgd hgd2=> ?_) ?_
    ·have hgd':=hgd
     try simp at hgd'
     have hgd2':=hgd2
     try simp at hgd2'
     exact fun _ _ _ gq kq=>bi (gq.1.trans (jF hgd hgd2)) J (kQ i6) kq
    refine lV (φ:=fp [int ((ix (ix m.sT k) ((k1:Int)- 1).toNat).1),int ((ix (ix m.sT k) ((k1:Int)- 1).toNat).2)]) rfl rfl rfl rfl (List.mem_of_elem_eq_true rfl) (fun hgd hgd2=> ?_) ?_
    ·have hgd':=hgd
     try simp at hgd'
     have hgd2':=hgd2
     try simp at hgd2'
     exact fun _ _ _ gq kq=>iF (gq.1.trans (jF hgd hgd2)) (gq.2.1.trans (jF hgd hgd2)) T.cQ O gB kq
    refine lV (φ:=agg [int ((ix (ix m.sT k) ((k1:Int)- 1).toNat).1),int ((ix (ix m.sT k) ((k1:Int)- 1).toNat).2)]) rfl rfl rfl rfl (List.mem_of_elem_eq_true rfl) (fun hgd hgd2=> ?_) ?_
    ·have hgd':=hgd
     try simp at hgd'
     have hgd2':=hgd2
     try simp at hgd2'
     exact fun _ _ _ gq kq=>lFA (gq.1.trans (jF hgd hgd2)) T.cJ (Nat.le_of_ble_eq_true J) kq
    refine lV (φ:=agg [int ((ix (ix m.sT k) k1).1),int ((ix (ix m.sT k) k1).2)]) rfl rfl rfl rfl (List.mem_of_elem_eq_true rfl) (fun hgd hgd2=> ?_) ?_
    ·have hgd':=hgd
     try simp at hgd'
     have hgd2':=hgd2
     try simp at hgd2'
     exact fun _ _ _ gq kq=>lPA (gq.1.trans J) J T.cJ J kq
    refine lV (φ:=bl (ltP ((ix (ix m.sT k) ((k1:Int)- 1).toNat).1,(ix (ix m.sT k) ((k1:Int)- 1).toNat).2) ((ix (ix m.sT k) k1).1,(ix (ix m.sT k) k1).2))) rfl rfl rfl rfl (List.mem_of_elem_eq_true rfl) (fun hgd hgd2=> ?_) ?_
    ·have hgd':=hgd
     try simp at hgd'
     have hgd2':=hgd2
     try simp at hgd2'
     exact fun _ _ _ gq kq=>bB (φs:= [agg [int ((ix (ix m.sT k) ((k1:Int)- 1).toNat).1),int ((ix (ix m.sT k) ((k1:Int)- 1).toNat).2)],agg [int ((ix (ix m.sT k) k1).1),int ((ix (ix m.sT k) k1).2)]]) (φ:=bl (ltP ((ix (ix m.sT k) ((k1:Int)- 1).toNat).1,(ix (ix m.sT k) ((k1:Int)- 1).toNat).2) ((ix (ix m.sT k) k1).1,(ix (ix m.sT k) k1).2))) ⟨(gq.1.trans (jF hgd hgd2)),(gq.2.1.trans (jF hgd hgd2)),tV⟩ (divs.LZ ((ix (ix m.sT k) ((k1:Int)- 1).toNat).1,(ix (ix m.sT k) ((k1:Int)- 1).toNat).2) ((ix (ix m.sT k) k1).1,(ix (ix m.sT k) k1).2)) T.Xp kq
    refine lV (φ:=bl (!(ltP ((ix (ix m.sT k) ((k1:Int)- 1).toNat).1,(ix (ix m.sT k) ((k1:Int)- 1).toNat).2) ((ix (ix m.sT k) k1).1,(ix (ix m.sT k) k1).2)))) rfl rfl rfl rfl (List.mem_of_elem_eq_true rfl) (fun hgd hgd2=> ?_) ?_
    ·have hgd':=hgd
     try simp at hgd'
     have hgd2':=hgd2
     try simp at hgd2'
     exact fun _ _ _ gq kq=>no (gq.1.trans (jF hgd hgd2)) kq
    refine sg_ (φ:=bl ((decide (0<(k1:Int)))&&(!(ltP ((ix (ix m.sT k) ((k1:Int)- 1).toNat).1,(ix (ix m.sT k) ((k1:Int)- 1).toNat).2) ((ix (ix m.sT k) k1).1,(ix (ix m.sT k) k1).2))))) J J J J (List.mem_of_elem_eq_true J) (fun hgd=> ?_) ?_
    ·have hgd':=hgd
     try simp at hgd'
     exact fun _ _ _ gq kq=>pk (gq.1.trans (cP hgd)) (EX (x:= .tmp 69) (gq.1.trans (cP hgd)) (gq.2.1.trans (HM hgd)) J) kq
    refine st_ J (fun _ _ _ gq kq=>pk (gq.1.trans J) (tC (x:= .tmp 66) (gq.1.trans J) (gq.2.1.trans J) J) kq) ?_
    refine pn (nl (th ?_))
    refine cd J (fun hc3=> ?_) (fun hc3=> ?_)
    ·skip
     simp only [Bool.or_eq_true,Bool.and_eq_true,decide_eq_true_eq] at hc3
     refine sq (rg (ag (nl (th (rt (rb (rt_ (rt_ (rb (rb (rt_ (rt_ (rb (rt_ ?_))))))))))))))
     have hr0:false=(bN m):=by
      unfold bN
      rw[fX (xs:=m.sT) (k:=k) O ?_];simp
      have hno:∀{p:Prop},(iC m.aC.length m.sT.length (ix (ix m.sT k) k1)=true→¬p)→p→dW m.aC.length m.sT.length (ix m.sT k)=false:=fun hh hp=>DF hc2 (by cases g:iC m.aC.length m.sT.length (ix (ix m.sT k) k1) with|false=>rfl|true=>exact absurd hp (hh g))
      rcases hc3 with(((h|h)|h)|h)|h
      ·exact hno (fun g=>by have:=eE.1 g;omega) h
      ·exact hno (fun g=>by have:=eE.1 g;omega) h
      ·exact hno (fun g=>by have:=eE.1 g;omega) h
      ·exact hno (fun g=>by have:=eE.1 g;omega) h
      ·have h5:=h.2
       rw[show((k1:Int)- 1).toNat=k1- 1 by omega] at h5
       refine DG hc2 O ?_
       simpa using h5
     exact rE () [.tmp 2] J [bl false] ⟨.tmp J,tV⟩ (cA1 (fun x0=>rV [bl x0]) hr0) trivial eX
    ·skip
     simp only [Bool.or_eq_false_iff,Bool.and_eq_false_iff,decide_eq_false_iff_not] at hc3
     obtain⟨⟨⟨⟨h41,h42⟩,h43⟩,h44⟩,h45⟩:=hc3
     refine sk (eb (th (rg (bi J J (aG i6) (mv (nl ?_))))))
     have hN0:(k1+1)≤(ix m.sT k).length:=by
      first|omega|simp_all
     have hN1:(∀j,j<(k1+1)→iC m.aC.length m.sT.length (ix (ix m.sT k) j)=true)∧∀j,j+1<(k1+1)→ltP (ix (ix m.sT k) j) (ix (ix m.sT k) (j+1))=true:=by
      refine⟨fun j hj=> ?_,fun j hj=> ?_⟩
      ·by_cases e:j=k1
       ·subst e;exact eE.2 ⟨O,O,O,O⟩
       ·exact hI1.1 j O
      ·by_cases e:j+1=k1
       ·subst e
        rcases h45 with h|h
        ·exact absurd O h
        ·rw[show(((j+1:Nat):Int)- 1).toNat=j by omega] at h
         simpa using h
       ·exact hI1.2 j O
     exact ln (k1+1) ⟨hN0,hN1⟩ dO ⟨id,id,id,id,id,id,id,id,id,tV⟩ ⟨rI,tV⟩
   ·try simp at hc2
    refine ex (xt_ (xt_ (xb (eb (th (rg (bi J J (aG i6) (mv (nl ?_)))))))))
    have hN0:(k+1)≤m.sT.length:=by
     first|omega|simp_all
    have hN1:(n+((ix m.sT k).length:Int))=(bR (m.sT.take (k+1)):Int)∧(m.sT.take (k+1)).all (dW m.aC.length m.sT.length)=true∧(n+((ix m.sT k).length:Int))≤140737488355328*((k+1):Int):=by
     refine⟨?_,?_,O⟩
     ·rw[bM O,kH];omega
     ·rw[eS O,hal,sG (fun j hj=>hI1.1 j O) (fun j hj=>hI1.2 j O)];rfl
    exact ln (⟨k+1,n+((ix m.sT k).length:Int)⟩:Nat × Int) ⟨hN0,hN1⟩ dO ⟨id,id,id,id,id,tV⟩ ⟨rI,tV⟩
  ·try simp at hc1
   refine ex (xt_ (xt_ (xb (th (sq (rg (mv (bi J J nN (ag (nl (th (rt ?_))))))))))))
   have hr0:(decide (n≤400000))=(bN m):=by
    have hkk:k=m.sT.length:=by omega
    rw[hkk,List.take_length] at hal hn
    unfold bN
    rw[hal,hc0.1.1,hn,decide_eq_true (p:=1≤m.sT.length) O,decide_eq_true (p:=m.sT.length≤5000) O]
    simp only [Bool.true_and,Bool.and_true]
    exact decide_eq_decide.2 O
   exact rE () [.tmp 2] J [bl (decide (n≤400000))] ⟨.tmp J,tV⟩ (cA1 (fun x0=>rV [bl x0]) hr0) trivial eX
end divs
end
section
namespace LevM
open ref01 ref03 ref04 ref06 Part Rungs LeftM TrimM BisM BisM5 WitM
inductive Rch (B:PP→Prop) (S:PP→PP→Prop):PP→Prop
 |zero:Rch B S (0,0)
 |step {p q:PP}:Rch B S p→¬B p→S p q→Rch B S q
def Fin (B:PP→Prop) (S:PP→PP→Prop) (vis:List PP) (p:PP):Prop:=¬B p∧∀q,S p q→q∈vis
structure LI (B:PP→Prop) (S:PP→PP→Prop) (vis op:List PP):Prop where
 nd:vis.Nodup
 z:((0,0):PP)∈vis
 rch:∀p∈vis,Rch B S p
 opn:∀p∈op,p∈vis
 dn:∀p∈vis,p∈op∨Fin B S vis p
variable {B:PP→Prop} {S:PP→PP→Prop} {vis op:List PP}
def mat (n m:Nat) (vis:List PP):List (List Bool):=(List.range n).map fun(x:Nat)=>(List.range m).map fun(y:Nat)=>decide (((x:Int),(y:Int))∈vis)
theorem OC (n m:Nat):mat n m []=List.replicate n (List.replicate m false):=by
 unfold mat
 rw[show(fun(x:Nat)=>(List.range m).map fun(y:Nat)=>decide (((x:Int),(y:Int))∈([]:List PP)))=fun _=>List.replicate m false from funext fun x=>by
  rw[show(fun(y:Nat)=>decide (((x:Int),(y:Int))∈([]:List PP)))=fun _=>false from funext fun y=>by simp]
  rw[List.map_const'];simp]
 rw[List.map_const'];simp
theorem Im (n m:Nat) (vis:List PP):(mat n m vis).length=n:=by simp[mat]
theorem CJ {n m:Nat} {vis:List PP} {x:Nat} (hx:x<n):ix (mat n m vis) x=(List.range m).map fun(y:Nat)=>decide (((x:Int),(y:Int))∈vis):=bS hx
theorem BM {n m:Nat} {vis:List PP} {x:Nat} (hx:x<n):(ix (mat n m vis) x).length=m:=by rw[CJ hx];simp
theorem Vw {n m:Nat} {vis:List PP} {x y:Nat} (hx:x<n) (hy:y<m):ix (ix (mat n m vis) x) y=decide (((x:Int),(y:Int))∈vis):=by
 rw[CJ hx];exact bS hy
theorem SC {n m:Nat} {vis:List PP} {x y:Nat} (hx:x<n) (hy:y<m):(mat n m vis).set x ((ix (mat n m vis) x).set y true)=mat n m (vis++ [((x:Int),(y:Int))]):=by
 rw[CJ hx]
 refine lM hx ?_ (fun z _ hne=> ?_)
 ·refine(lM hy ?_ (fun z _ hne=> ?_)).symm
  ·simp
  ·rw[decide_eq_decide]
   constructor
   ·intro h
    rcases List.mem_append.1 h with h|h
    ·exact h
    ·have h:=List.mem_singleton.1 h
     simp only [Prod.mk.injEq] at h
     omega
   ·exact fun h=>List.mem_append.2 (.inl h)
 ·refine List.map_congr_left fun w _=> ?_
  rw[decide_eq_decide]
  constructor
  ·intro h
   rcases List.mem_append.1 h with h|h
   ·exact h
   ·have h:=List.mem_singleton.1 h
    simp only [Prod.mk.injEq] at h
    omega
  ·exact fun h=>List.mem_append.2 (.inl h)
end LevM
end
section
open ref01 ref03 ref04 ref06 prog prog2 prog3 prog6 prog13 Part Rungs LeftM TrimM RoundM MergeM BisM BisM4 BisM5 WalkM StepM WitM JudgM refw judg wit sysw divr divs LevM
theorem oZ {s:SS} (hs:oK s):oK (tR s).1:=by
 cases h:ix (hOl s) 0 with
 |true=>rw[gZ h];exact vY hs.acts
 |false=>rw[fD h];exact QV hs
theorem qB (s:SS):(tR s).1.aC=s.aC:=by
 cases h:ix (hOl s) 0 with
 |true=>rw[gZ h];rfl
 |false=>rw[fD h]
theorem SD {α:Type} (a b:α) {n k:Nat} (h:k<n):(List.replicate k a++List.replicate (n- k) b).set k a=List.replicate (k+1) a++List.replicate (n- (k+1)) b:=by
 rw[List.set_append_right _ _ (by simp),List.length_replicate,Nat.sub_self,show n- k=(n- (k+1))+1 by omega,List.replicate_succ,List.set_cons_zero,List.replicate_succ',List.append_assoc]
 rfl
namespace divd
end divd
end
section
open ref01 ref03 ref04 ref06 prog6 prog15 starts Part Rungs LeftM TrimM RoundM MergeM BisM BisM5 BisM6 WalkM StepM WitM JudgM
namespace JudgM2
theorem Xq {s:SS} (hs:oK s) (h0:ix (hOl s) 0=false) {x:Nat} (hx:x<(tS s).sT.length):0<(acc (tS s) x).length:=by
 rw[kC] at hx
 rw[rX hx]
 exact List.length_pos_iff.2 (yY (by have:=iB hs hx;omega) (xT hs h0 hx))
structure VR where
 holds:Bool
 ladder:List Int
 pairs:List PP
 wit:aA
structure YF (s t:SS) (v:VR):Prop where
 yes:v.holds=true→mX s t∧v.ladder=eU s∧v.wit=⟨[],[]⟩∧(ix (hOl s) 0=true→v.pairs= [])∧(ix (hOl s) 0=false→∃q,JN (tS s) t q∧(∀k,k<q.length→Oi (tS s) t q k)∧v.pairs=q.map fun m=>(ix (aL s) m.s.toNat,m.t))
 no:v.holds=false→¬mX s t∧v.ladder= []∧v.pairs= []∧ix (hOl s) 0=false∧∃q i u,JN (tS s) t q∧i<q.length∧u∈acc (tS s) (ix q i).s.toNat∧u∉acc t (ix q i).t.toNat∧BG (tS s) (Et (tS s) (mE q i) u) v.wit
end JudgM2
end
section
open ref01 ref03 ref04 ref06 prog prog2 prog3 prog4 prog5 prog6 prog13 prog15 starts search Part Rungs LeftM TrimM RoundM MergeM BisM BisM5 WalkM StepM WitM JudgM JudgM2 refw judg wit
theorem oK.small {s:SS} (h:oK s):jH s:=fun k hk i hi=>by
 have:=(h.st k hk).ac i hi
 omega
namespace refj
end refj
end
section
open ref01 ref03 ref04 ref06 prog prog2 prog3 prog6 prog13 Part Rungs LeftM TrimM RoundM MergeM BisM BisM4 BisM5 WalkM StepM WitM JudgM refw judg wit refj sysw divr divs divd LevM
namespace dive
end dive
end
section
namespace LevM2
open ref01 ref03 ref04 ref06 Part Rungs LeftM TrimM BisM BisM5 BisM6 WitM JudgM LevM
end LevM2
end
section
open ref01 ref03 ref04 ref06 prog prog2 prog3 prog6 prog13 Part Rungs LeftM TrimM RoundM MergeM BisM BisM4 BisM5 WalkM StepM WitM JudgM refw judg wit refj sysw divr divs divd dive LevM LevM2
theorem FG {m:aA} (hm:bA m) {x:Nat} (hx:x<m.sT.length):∀e∈ix m.sT x,0≤e.1∧e.1<8:=fun e he=>by
 have:=hm.ed x hx e he
 have:=hm.n8
 omega
namespace divg
end divg
end
section
namespace WitSat
open ref01 ref03 ref04 ref06 Part Rungs LeftM TrimM BisM BisM5 BisM6 WalkM StepM WitM JudgM
variable {T:SS} {want:List PP} {ss:List (List Int)} {q:List PP} {mm:List (PP × Int)} {m:aA}
end WitSat
end
section
namespace WitVal
open ref01 ref03 ref04 ref06 Part Rungs LeftM TrimM BisM BisM5 BisM6 WalkM StepM WitM JudgM WitSat sysw
variable {T:SS} {want:List PP} {ss:List (List Int)} {q:List PP} {mm:List (PP × Int)} {m:aA}
theorem FH {l:List (List PP)} {K:Nat}:(∀x∈l,x.length≤K)→bR l≤l.length*K:=by
 induction l with
 |nil=>intro _;simp[bR]
 |cons a l ih=>
  intro h
  have:=ih fun x hx=>h x (List.mem_cons_of_mem _ hx)
  have h0:=h a List.mem_cons_self
  rw[List.length_cons,Nat.succ_mul]
  unfold bR at this ⊢
  rw[List.map_cons,List.sum_cons]
  omega
end WitVal
end
section
namespace BisS
open ref01 ref03 ref04 ref06 Part Rungs LeftM TrimM MergeM RoundM BisM BisM4 BisM5 BisM6
structure BB (S D:SS) (R:Nat→Nat→Prop):Prop where
 bis:Bis S D R
 bd:∀{x y},R x y→x<S.sT.length∧y<D.sT.length
theorem BB.symm {S D:SS} {R:Nat→Nat→Prop} (h:BB S D R):BB D S (fun y x=>R x y):=
 ⟨⟨fun g=>(h.bis.acc g).symm,fun g=>(h.bis.len g).symm,fun {y x} g a ha=>by
   obtain⟨h1,h2⟩:=h.bis.nxt g a (by rw[h.bis.len g];exact ha)
   exact⟨h1.symm,fun h0=>h2 O⟩⟩,fun g=>⟨(h.bd g).2,(h.bd g).1⟩⟩
theorem Ma {S D:SS} {R:Nat→Nat→Prop} (h:BB S D R) {x y:Nat} (hxy:R x y) (hh:Hol S x):Hol D y:=by
 have key:Closed S (fun x=> ∀y,R x y→Hol D y):=by
  intro x hx hc y hxy
  refine nS D y (h.bd hxy).2 (fun i hi=> ?_)
  have ea:(ix S.sT x).aP=(ix D.sT y).aP:=h.bis.acc hxy
  have el:(ix S.sT x).next.length=(ix D.sT y).next.length:=h.bis.len hxy
  obtain⟨a,ha,h1,h2,h3⟩:=hc i (by rw[ea];exact hi)
  obtain⟨g1,g2⟩:=h.bis.nxt hxy a ha
  have g1:ix (ix S.sT x).next a<0↔ix (ix D.sT y).next a<0:=g1
  exact⟨a,by rw[←el];exact ha,O,by rw[←ea];exact h2,h3 _ (g2 h1)⟩
 exact hh _ key y hxy
theorem DI {S D:SS} {R:Nat→Nat→Prop} (h:BB S D R) {x y:Nat} (hxy:R x y):ix (hOl S) x=ix (hOl D) y:=by
 rw[Bool.eq_iff_iff,jJ (h.bd hxy).1,jJ (h.bd hxy).2]
 exact⟨Ma h hxy,Ma h.symm hxy⟩
theorem Io {S D:SS} {R:Nat→Nat→Prop} (h:BB S D R) {x y:Nat} (hxy:R x y):keep S x=keep D y:=by
 have ea:(ix S.sT x).aP=(ix D.sT y).aP:=h.bis.acc hxy
 have el:(ix S.sT x).next.length=(ix D.sT y).next.length:=h.bis.len hxy
 unfold keep
 rw[ea,DI h hxy]
 congr 1
 funext t
 congr 2
 unfold eH
 rw[el]
 refine FE fun a ha=> ?_
 have hal:=List.mem_range.1 ha
 obtain⟨g1,g2⟩:=h.bis.nxt hxy a (by show a<(ix S.sT x).next.length;omega)
 have g1:ix (ix S.sT x).next a<0↔ix (ix D.sT y).next a<0:=g1
 by_cases hn:0≤ix (ix S.sT x).next a
 ·have hg:R (ix (ix S.sT x).next a).toNat (ix (ix D.sT y).next a).toNat:=g2 hn
  rw[decide_eq_true hn,decide_eq_true (show 0≤ix (ix D.sT y).next a by omega),DI h hg]
 ·rw[decide_eq_false hn,decide_eq_false (show ¬0≤ix (ix D.sT y).next a by omega)];rfl
theorem OD {S D:SS} (hS:oK S) (hD:oK D) {R:Nat→Nat→Prop} (h:BB S D R):Bis (aW S) (aW D) R:=by
 have hl:∀{x y},R x y→S.aC.length=D.aC.length:=fun {x y} hxy=>by
  have h1:=(hS.st x (h.bd hxy).1).len
  have h2:=(hD.st y (h.bd hxy).2).len
  have h3:(ix S.sT x).next.length=(ix D.sT y).next.length:=h.bis.len hxy
  omega
 refine⟨fun {x y} hxy=>by rw[iN (h.bd hxy).1,iN (h.bd hxy).2,Io h hxy],fun {x y} hxy=>by rw[hO hS (h.bd hxy).1,hO hD (h.bd hxy).2,hl hxy],fun {x y} hxy a ha=> ?_⟩
 have hx:=(h.bd hxy).1
 rw[hO hS hx] at ha
 have hal:a<(nxt S x).length:=by have:(nxt S x).length=S.aC.length:=(hS.st x hx).len;omega
 rw[kW hS hx ha,kW hD (h.bd hxy).2 (by rw[←hl hxy];exact ha),Io h hxy]
 by_cases g:has (aZ (keep D y)) (a:Int)=true
 ·rw[if_pos g,if_pos g];exact h.bis.nxt hxy a hal
 ·rw[if_neg g,if_neg g];exact⟨Iff.rfl,fun h0=>absurd h0 (by decide)⟩
theorem Vx {S D:SS} (hS:oK S) (hD:oK D) (ha:S.aC=D.aC) {R:Nat→Nat→Prop} (h:BB S D R) (h0:R 0 0):mX S D∧mX D S:=(rG hS hD ha).2 ⟨R,OD hS hD h,h0⟩
structure pF {α:Type} [DecidableEq α] [Inhabited α] (A:α→List Int) (N:α→Nat→α) (n:Nat) (z:α) (l:List α) (D:SS):Prop where
 len:D.sT.length=l.length
 nd:l.Nodup
 ne:0<l.length
 hd:ix l 0=z
 acc:∀i,i<l.length→acc D i=A (ix l i)
 nl:∀i,i<l.length→(nxt D i).length=n
 nx:∀i,i<l.length→∀a,a<n→ix (nxt D i) a=if has (aZ (A (ix l i))) (a:Int)=true then(l.idxOf (N (ix l i) a):Int) else-1
 cl:∀i,i<l.length→∀a,a<n→has (aZ (A (ix l i))) (a:Int)=true→N (ix l i) a∈l
theorem SE {α:Type} [DecidableEq α] [Inhabited α] {A:α→List Int} {N:α→Nat→α} {n:Nat} {z:α} {l r:List α} {S D:SS} (h:pF A N n z l S) (g:pF A N n z r D):
 BB S D (fun x y=>x<l.length∧y<r.length∧ix l x=ix r y):=by
 refine⟨⟨fun {x y} ⟨hx,hy,e⟩=>by rw[h.acc x hx,g.acc y hy,e],fun {x y} ⟨hx,hy,e⟩=>by rw[h.nl x hx,g.nl y hy],fun {x y} ⟨hx,hy,e⟩ a ha=> ?_⟩,fun {x y} ⟨hx,hy,_⟩=>⟨by rw[h.len];exact hx,by rw[g.len];exact hy⟩⟩
 rw[h.nl x hx] at ha
 rw[h.nx x hx a ha,g.nx y hy a ha,e]
 by_cases c:has (aZ (A (ix r y))) (a:Int)=true
 ·rw[if_pos c,if_pos c]
  have h1:=h.cl x hx a ha (by rw[e];exact c)
  have h2:=g.cl y hy a ha c
  rw[e] at h1
  have i1:=List.idxOf_lt_length_of_mem h1
  have i2:=List.idxOf_lt_length_of_mem h2
  refine⟨O,fun _=>⟨by rw[Int.toNat_natCast];exact i1,by rw[Int.toNat_natCast];exact i2,?_⟩⟩
  rw[Int.toNat_natCast,Int.toNat_natCast,aD i1,aD i2,List.getElem_idxOf,List.getElem_idxOf]
 ·rw[if_neg c,if_neg c];exact⟨Iff.rfl,fun h0=>absurd h0 (by decide)⟩
theorem OE {α:Type} [DecidableEq α] [Inhabited α] {A:α→List Int} {N:α→Nat→α} {n:Nat} {z:α} {l r:List α} {S D:SS} (hS:oK S) (hD:oK D) (ha:S.aC=D.aC) (h:pF A N n z l S) (g:pF A N n z r D):
 mX S D∧mX D S:=Vx hS hD ha (SE h g) ⟨h.ne,g.ne,h.hd.trans g.hd.symm⟩
end BisS
end
section
open ref01 ref03 ref04 ref06 prog prog2 prog3 prog6 prog13 Part Rungs LeftM TrimM RoundM MergeM BisM BisM4 BisM5 WalkM StepM WitM JudgM JudgM2 refw judg wit refj sysw divr divs divd dive divg LevM LevM2
structure Vy (s:SS) (z:aA × Int):Prop where
 bad:cE s=false→z=(⟨[],[]⟩,30)
 hol:cE s=true→ix (hOl s) 0=true→z=(⟨[],[]⟩,3)
 fit:cE s=true→ix (hOl s) 0=false→z.2=0∧BG (tS s) [] z.1
namespace divw
end divw
end
section
open ref01 ref03 ref04 ref06 prog prog2 prog3 prog6 prog13 Part Rungs LeftM TrimM RoundM MergeM BisM BisM4 BisM5 WalkM StepM WitM JudgM JudgM2 refw judg wit refj sysw divr divs divd dive divg divw LevM LevM2
namespace divv
theorem OG (l:List ByteArray) (hl:l.length≤8):
 Fn0 Tryz.prog 91 [strs l] (spec (pZ l)):=by
 refine fnI Tryz.func91 rfl rfl (fun w0 F0=> ?_)
 have h2n:2^l.length≤2^8:=Nat.pow_le_pow_right O hl
 refine fcC (aV 0 J) (fun hm0=> ?_)
 refine sq (rg (al (key:=2) T.z28 (eC (eC eZ)) fun b2=>(nl (th (sq (rg (mv (lnF J T.eD (mk (key:=7) (m:=l.length) (enc:=nE) (y:=(0:Int)) J J T.bZ (eC eZ) (by unfold aT at*;omega) (by unfold aT at*;omega) fun v7=>(fz 7 7 J J (bd (css:= [(1,_)]) T.xI (eC (eC eZ)) ⟨J,J,p1 (φ:=sl 1 nE (List.replicate l.length (0:Int))) J,tV⟩ (al (key:=3) T.z79 (eC (eC eZ)) fun b3=>(sPA (cs':= [eqv (.slice none 0 0),sl 1 nE (List.replicate l.length (0:Int))]) J J J T.dJ J J (nl (th (sq (sq (rg (mv (lnF J T.eD (bi J J (pU O O) (mv (nl (th (bk ?_)))))))))))))))))))))))))
 refine nwC 30 3 1 nE (jS 3 0 (osl 30 (.slice none 0 0)) rfl rfl dM ?_)
 have hI0_0:0≤2^l.length:=by
  first|omega|simp
 have hI0_1:([]:List Int)=(List.range 0).map fun(x:Nat)=>(x:Int):=by
  rfl
 refine lp (κ:=Nat × Value × (List Int)) (fun p=> [(0,sl 1 rE_ l),(2,ptr 2 b2 0),(3,ptr 3 b3 0),(11,int ((2^l.length:Nat):Int)),(12,int (p.1:Int))]) (fun p=> [(2,cell b2 [eqv (.slice none 0 0),eqv (.slice none 0 0)]),(3,cell b3 [osl 30 p.2.1,sl 1 nE (List.replicate l.length 0)]),(30,own p.2.1 3 1 nE p.2.2)]) (fun p=>(p.1≤2^l.length)∧(p.2.2=(List.range p.1).map fun(x:Nat)=>(x:Int))) (fun p=>2^l.length- p.1) ⟨0,(.slice none 0 0),([]:List Int)⟩ ⟨hI0_0,hI0_1⟩ ⟨id,id,id,id,id,tV⟩ ⟨rI,rI,rI,tV⟩ ?_
 intro⟨k,v,acc⟩ hG0
 obtain⟨hk0,hI0⟩:(k≤2^l.length)∧(acc=(List.range k).map fun(x:Nat)=>(x:Int)):=hG0
 show Ct _ _ _ _ [(0,sl 1 rE_ l),(2,ptr 2 b2 0),(3,ptr 3 b3 0),(11,int ((2^l.length:Nat):Int)),(12,int (k:Int))] [(2,cell b2 [eqv (.slice none 0 0),eqv (.slice none 0 0)]),(3,cell b3 [osl 30 v,sl 1 nE (List.replicate l.length 0)]),(30,own v 3 1 nE acc)] _
 have hlen:acc.length=k:=by rw[hI0];simp
 refine sq (rg (bi J J aO (nl (th (sq ?_)))))
 refine cd J (fun hc0=> ?_) (fun hc0=> ?_)
 ·try simp at hc0
  have hkk:k<2^l.length:=by exact_mod_cast hc0
  refine sk (th (sq (bk (sq (rg (mv (ag (nl (th (rg (fP J T.cK (lP J J J T.bD (mv (bsE (enc:=nE) (xs:= [(k:Int)]) (css:= [[int (k:Int)]]) T.bZ ⟨J,J,p1 (φ:=int (k:Int)) J,tV⟩ J J J J (ap (key:=30) (zs:= [(k:Int)]) bX J J J T.bZ (by unfold aT at*;simp;omega) (by unfold aT at*;simp;omega) fun v19=>(fP J T.cK (cI J J J J T.bD J (nl (eb (th (rg (bi J J (aG i6) (mv (nl ?_))))))))))))))))))))))))
  have hN0:(k+1)≤2^l.length:=by
   first|omega|simp_all
  have hN1:(acc++ [(k:Int)])=(List.range (k+1)).map fun(x:Nat)=>(x:Int):=by
   rw[hI0,List.range_succ,List.map_append];rfl
  exact ln (⟨k+1,v19,acc++ [(k:Int)]⟩:Nat × Value × (List Int)) ⟨hN0,hN1⟩ dO ⟨id,id,id,id,id,tV⟩ ⟨rI,rI,rI,tV⟩
 ·try simp at hc0
  have hkk:2^l.length≤k:=by first|exact_mod_cast hc0|exact Nat.le_of_not_lt (by exact_mod_cast hc0)
  refine ex (xt_ (xt_ (xb (th (sq (NA 3 30 0 J J J J (dr (nh:=5) [0,1,0,4,15,31] T.mixed kR ?_)))))))
  refine st_ J (fun _ _ _ gq kq=>mv' (gq.1.trans J) kq) ?_
  refine st_ J (fun _ _ _ gq kq=>kK (φs:= [sl 1 rE_ l]) (φ:=sl 1 rE_ l) ⟨(gq.1.trans J),tV⟩ (prog.gJ _ O) T.tJ (fun N hN=>fun h=>iY h) kq) ?_
  refine st_ J (fun _ _ _ gq kq=>lPA (gq.1.trans J) J T.dJ J kq) ?_
  refine st_ J (fun _ _ _ gq kq=>bsE (enc:=sE) (xs:= [(⟨acc,List.replicate l.length 0⟩)]) (css:= [[sl 1 nE acc,sl 1 nE (List.replicate l.length 0)]]) T.mT ⟨J,J,pA (cs:= [sl 1 nE acc,sl 1 nE (List.replicate l.length 0)]) (by exact(gq.1.trans J)),tV⟩ J J J J kq) ?_
  refine st_ J (fun _ _ _ gq kq=>bd (css:= [(0,_),(1,_)]) T.oP (eC (eC eZ)) ⟨J,J,p1 (φ:=sl 1 rE_ l) (by exact(gq.1.trans J)),⟨J,J,p1 (φ:=sl 2 sE [(⟨acc,List.replicate l.length 0⟩)]) (by exact(gq.2.1.trans J)),tV⟩⟩ kq) ?_
  refine pn (sPA (cs':= [sl 1 rE_ l,sl 2 sE [(⟨acc,List.replicate l.length 0⟩)]]) J J J T.bF J J (nl (th (rt ?_))))
  have hr0:l=(pZ l).aC:=by
   rfl
  have hr1: [(⟨acc,List.replicate l.length 0⟩)]=(pZ l).sT:=by
   unfold pZ;rw[hI0,show k=2^l.length by omega]
  exact rE () [.cell 2 28] J [agg [sl 1 rE_ l,sl 2 sE [(⟨acc,List.replicate l.length 0⟩)]]] ⟨.agg J J T.bF J J,tV⟩ (cA2 (fun x0 x1=>rV [agg [sl 1 rE_ x0,sl 2 sE x1]]) hr0 hr1) trivial eX
end divv
end
section
open ref01 ref03 ref04 ref06 prog prog2 prog3 prog6 prog13 Part Rungs LeftM TrimM RoundM MergeM BisM BisM4 BisM5 WalkM StepM WitM JudgM JudgM2 refw judg wit refj sysw divr divs divd dive divg divw divv LevM LevM2
namespace divf
end divf
end
section
namespace ChsM
open ref01 ref03 divs divf
end ChsM
end
section
open ref01 ref03 ref04 ref06 Part Rungs LeftM TrimM
namespace ValidM
theorem JV {s:SS} (h:cE s=true):s.sT.length≤500:=by
 unfold cE at h
 simp only [Bool.and_eq_true,decide_eq_true_eq] at h
 exact h.1.2
end ValidM
end
section
namespace TrimI
open ref01 ref03 ref04 ref06 Part Rungs LeftM TrimM RoundM MergeM BisM BisM2 BisM3 BisM4 BisM5 BisM6 divr divd
theorem Ah:∀m,visit [] (rg m)=rg m
 |0=>rfl
 |m+1=>by rw[Sg,tN,Ah m,vX O (fun h=>by have:=(Vi.1 h).2;omega)]
theorem Ip {s:SS} {m:Nat} (hm:m≤(aL s).length):((aL s).take m).map (dV (aL s))=rg m:=by
 apply List.ext_getElem
 ·simp[BisM3.rg];omega
 ·intro i h1 h2
  simp only [List.length_map,List.length_take] at h1
  rw[List.getElem_map,List.getElem_take]
  have hi:i<(aL s).length:=by omega
  have:=HT (uE (aW s)) hi
  rw[aD hi] at this
  rw[←aD h2,Es O]
  exact this
theorem SF {s:SS} (hs:oK s) {i:Nat} (hi:i<(aL s).length):((ix (aW s).sT (ix (aL s) i).toNat).next.map fun k=>if 0≤k then dV (aL s) k else k)=(ix (tS s).sT i).next:=by
 have hbd:=iB hs hi
 have hx:(ix (aL s) i).toNat<s.sT.length:=by omega
 have hl:=(hs.st _ hx).len
 rw[mK hi,fY hx]
 show(cut (ix s.sT _) (aZ (keep s _))).map _=iZ s _
 unfold cut iZ
 rw[List.map_map,hl]
 refine List.map_congr_left (fun a ha=> ?_)
 show(if 0≤(if _ then _ else _:Int) then dV _ (if _ then _ else _) else(if _ then _ else _))=(if _ then _ else _)
 by_cases hh:has (aZ (keep s (ix (aL s) i).toNat)) (a:Int)=true
 ·rw[if_pos hh]
  have hg:=kV hs hx hh
  rw[if_pos hg.2.1,if_pos hh]
 ·rw[if_neg hh,if_neg hh];rfl
theorem Vz {s:SS} (hs:oK s) {i:Nat} (hi:i<(aL s).length):rg (qn s (i+1))=visit (rg (qn s i)) (ix (tS s).sT i).next:=by
 have hol:=nZ hs
 have hgt:=Ra hs hi
 have hix:ix (bq (aW s) i) i=ix (aL s) i:=(nG (mU hs (i:=i) O) hgt).symm
 have hstep:bq (aW s) (i+1)=visit (bq (aW s) i) (ix (aW s).sT (ix (aL s) i).toNat).next:=by
  show(if i<(bq (aW s) i).length then _ else _)=_
  rw[if_pos hgt,hix]
 rw[←Ah (qn s (i+1)),←Ah (qn s i),←Ip (QZ hs (i:=i+1) O),←Ip (QZ hs (i:=i) O),←HZ hs (i:=i+1) O,←HZ hs (i:=i) O,hstep,
  zM (g:=dV (aL s)) (fun k=>(gW _ k).1),SF hs hi]
theorem VA {s:SS} (hs:oK s):∀i,i≤(aL s).length→bq (tS s) i=rg (qn s i)
 |0,_=>rfl
 |i+1,hi=>by
  have ih:=VA hs i O
  have hgt:=Ra hs (i:=i) O
  show(if i<(bq (tS s) i).length then _ else _)=_
  rw[ih,xV,if_pos hgt,Es hgt,Int.toNat_natCast,Vz hs O]
theorem Iq {s:SS} (hs:oK s):order (tS s)=rg (aL s).length:=by
 have hol:=nZ hs
 have e:bq (aW s) (aL s).length=aL s:=by
  refine Bs hs ?_ hol
  exact(mU hs hol).length_le
 unfold order
 rw[kC,VA hs _ (Nat.le_refl _)]
 show rg (bq (aW s) (aL s).length).length=_
 rw[e]
theorem Xr {s:SS} (hs:oK s) (h0:ix (hOl s) 0=false):tS (tS s)=tS s:=by
 have ho:aL (tS s)=rg (aL s).length:=by
  show order (aW (tS s))=_
  rw[Fv hs h0,Iq hs]
 have hT:=QV hs
 show(⟨s.aC,(aL (tS s)).map (fM (tS s))⟩:SS)=⟨s.aC,(aL s).map (fM s)⟩
 congr 1
 rw[ho]
 apply List.ext_getElem
 ·simp[BisM3.rg]
 ·intro i h1 h2
  simp only [List.length_map,xV] at h1
  have hi:i<(aL s).length:=h1
  have e1:(rg (aL s).length)[i]'(by rw[xV];exact h1)=(i:Int):=by rw[←aD (by rw[xV];exact h1)];exact Es h1
  rw[List.getElem_map,e1]
  have e2:(List.map (fM s) (aL s))[i]=ix (tS s).sT i:=(aD (by rw[kC];exact hi)).symm
  rw[e2]
  have hk:=HY hs h0 hi
  unfold fM iZ
  rw[Int.toNat_natCast,hk,ho]
  have e3:ix (tS s).sT i=⟨keep s (ix (aL s) i).toNat,iZ s (ix (aL s) i)⟩:=mK hi
  rw[e3]
  congr 1
  unfold iZ
  refine List.map_congr_left fun a ha=> ?_
  have ha:a<s.aC.length:=List.mem_range.1 ha
  by_cases hh:has (aZ (keep s (ix (aL s) i).toNat)) (a:Int)=true
  ·rw[if_pos hh,if_pos hh,bS ha,if_pos hh]
   obtain⟨p1,_⟩:=kG (oC hs hi hh)
   have p0:=(gW (aL s) (ix (ix s.sT (ix (aL s) i).toNat).next a)).1
   have hnd:(rg (aL s).length).Nodup:=by
    have:=uE (tS s)
    rwa [Iq hs] at this
   have hq:=HT hnd (i:=(dV (aL s) (ix (ix s.sT (ix (aL s) i).toNat).next a)).toNat) (by rw[xV];omega)
   rw[Es O,Int.toNat_of_nonneg p0] at hq
   exact hq
  ·rw[if_neg hh,if_neg hh]
theorem DJ {s:SS} (hs:oK s):(tR (tR s).1).1=(tR s).1:=by
 cases h:ix (hOl s) 0 with
 |true=>rw[gZ h];show(tR (nothing s.aC)).1=_;rw[gZ (uW _)];rfl
 |false=>
  rw[fD h]
  show(tR (tS s)).1=tS s
  rw[fD (xU hs h 0)]
  exact Xr hs h
theorem sI {s:SS} (hs:oK s):Sim2 (aW (tR s).1) (aW s) 0 0:=by
 cases h:ix (hOl s) 0 with
 |true=>
  rw[gZ h]
  have f:=hs.few0
  have g:=(vY hs.acts).few0
  exact Ia (vY hs.acts) hs rfl O O (uW _) h
 |false=>
  rw[fD h]
  have hop:=mV s
  have:=Vh hs h (i:=0) O
  show Sim2 (aW (tS s)) (aW s) 0 0
  rw[Fv hs h]
  rw[rU] at this
  exact this
theorem FI {s:SS} (hs:oK s):mX s s:=((rG hs hs rfl).2 (Oh _ _)).1
theorem FJ {s d:SS} (hs:oK s) (hd:oK d) (ha:s.aC=d.aC) (h:mX s d∧mX d s):mX (tR s).1 d∧mX d (tR s).1:=
 (rG (oZ hs) hd ((qB s).trans ha)).2 ((sI hs).trans ((rG hs hd ha).1 h))
theorem Ai {s:SS} (hs:oK s):(tR s).1.sT.length≤s.sT.length:=by
 cases h:ix (hOl s) 0 with
 |true=>rw[gZ h];have:=hs.few0;show 1≤_;omega
 |false=>rw[fD h];show((aL s).map _).length≤_;rw[List.length_map];exact nZ hs
end TrimI
end
section
namespace QuoM
open ref01 ref03 ref04 ref06 Part Rungs LeftM TrimM RoundM MergeM BisM BisM4 BisM5 WitM JudgM LevM divr divs divd divf ChsM BisS TrimI
section
variable {α:Type} [DecidableEq α] [Inhabited α]
def dL (l:List α) (p:α):List α:=if p∈l then l else l++ [p]
def jU (A:α→List Int) (N:α→Nat→α) (p:α) (ks:List Int) (l:List α):List α:=ks.foldl (fun l a=>dL l (N p a.toNat)) l
def dS (A:α→List Int) (p:α):List Int:=aK 63 (aZ (A p))
def qX (A:α→List Int) (N:α→Nat→α) (l:List α) (p:α):List α:=jU A N p (dS A p) l
def jB (A:α→List Int) (N:α→Nat→α):Nat→Nat→List α→List α
 |0,_,l=>l
 |f+1,i,l=>if i<l.length then jB A N f (i+1) (qX A N l (ix l i)) else l
theorem pS (l:List α) (p:α):l<+:dL l p:=by
 unfold dL
 split
 ·exact List.prefix_rfl
 ·exact List.prefix_append _ _
theorem wD (l:List α) (p:α):p∈dL l p:=by
 unfold dL
 split
 ·assumption
 ·simp
theorem iP (A:α→List Int) (N:α→Nat→α) (p:α):∀(ks:List Int) (l:List α),l<+:jU A N p ks l
 | [],l=>List.prefix_rfl
 |a::ks,l=>(pS l _).trans (iP A N p ks _)
theorem Mc (A:α→List Int) (N:α→Nat→α) (p:α) (ks:List Int) (a:Int) (l:List α):jU A N p (ks++ [a]) l=dL (jU A N p ks l) (N p a.toNat):=by
 unfold jU;rw[List.foldl_append];rfl
theorem FK (A:α→List Int) (N:α→Nat→α) (p:α):∀(ks:List Int) (l:List α) (a:Int),a∈ks→N p a.toNat∈jU A N p ks l
 | [],l,a,h=>nomatch h
 |b::ks,l,a,h=>by
  rcases List.mem_cons.1 h with rfl|h
  ·exact(iP A N p ks _).subset (wD l _)
  ·exact FK A N p ks _ a h
theorem BO (A:α→List Int) (N:α→Nat→α):∀(f i:Nat) (l:List α),l<+:jB A N f i l
 |0,i,l=>List.prefix_rfl
 |f+1,i,l=>by
  unfold jB
  split
  ·exact(iP A N _ _ l).trans (BO A N f (i+1) _)
  ·exact List.prefix_rfl
structure qJ (A:α→List Int) (N:α→Nat→α) (ok:α→Prop) (z:α) (i:Nat) (l:List α):Prop where
 nd:l.Nodup
 ne:0<l.length
 hd:ix l 0=z
 ok:∀p∈l,ok p
 dn:∀j,j<i→j<l.length→∀a∈dS A (ix l j),N (ix l j) a.toNat∈l
theorem lB {l m:List α} (h:l<+:m) {j:Nat} (hj:j<l.length):ix m j=ix l j:=by
 obtain⟨t,rfl⟩:=h
 unfold ix
 rw[List.getD_eq_getElem?_getD,List.getD_eq_getElem?_getD,List.getElem?_append_left hj]
theorem zC {l:List α} {p:α} (h:l.Nodup):(dL l p).Nodup:=by
 unfold dL
 split
 ·exact h
 ·next g=>
  rw[List.nodup_append]
  refine⟨h,by simp,fun a ha b hb e=> ?_⟩
  rw[List.mem_singleton.1 hb] at e
  subst e;exact g ha
theorem CK {l:List α} {p q:α} (h:q∈dL l p):q∈l∨q=p:=by
 unfold dL at h
 split at h
 ·exact .inl h
 ·rcases List.mem_append.1 h with h|h
  ·exact .inl h
  ·exact .inr (List.mem_singleton.1 h)
theorem Ir (A:α→List Int) (N:α→Nat→α) (p:α):∀(ks:List Int) (l:List α),l.Nodup→(jU A N p ks l).Nodup
 | [],l,h=>h
 |a::ks,l,h=>Ir A N p ks _ (zC h)
theorem Iu (A:α→List Int) (N:α→Nat→α) (p:α):∀(ks:List Int) (l:List α) (q:α),q∈jU A N p ks l→q∈l∨∃a∈ks,q=N p a.toNat
 | [],l,q,h=> .inl h
 |a::ks,l,q,h=>by
  rcases Iu A N p ks _ q h with h|⟨b,hb,e⟩
  ·rcases CK h with h|h
   ·exact .inl h
   ·exact .inr ⟨a,List.mem_cons_self,h⟩
  ·exact .inr ⟨b,List.mem_cons_of_mem _ hb,e⟩
variable {A:α→List Int} {N:α→Nat→α} {ok:α→Prop} {z:α}
theorem Md (hok:∀p,ok p→∀a∈dS A p,ok (N p a.toNat)) {i:Nat} {l:List α} (h:qJ A N ok z i l) (hi:i<l.length):qJ A N ok z (i+1) (qX A N l (ix l i)):=by
 have hp:=iP A N (ix l i) (dS A (ix l i)) l
 refine⟨Ir A N _ _ l h.nd,Nat.lt_of_lt_of_le h.ne hp.length_le,(lB hp h.ne).trans h.hd,fun p hq=> ?_,fun j hj hl a ha=> ?_⟩
 ·rcases Iu A N _ _ l p hq with g|⟨a,ha,rfl⟩
  ·exact h.ok p g
  ·exact hok _ (h.ok _ (aQ hi)) a ha
 ·have hjl:j<l.length:=by omega
  have e:ix (qX A N l (ix l i)) j=ix l j:=lB hp hjl
  rw[e] at ha ⊢
  by_cases g:j<i
  ·exact hp.subset (h.dn j g hjl a ha)
  ·have:j=i:=by omega
   subst this
   exact FK A N _ _ l a ha
theorem FL (hok:∀p,ok p→∀a∈dS A p,ok (N p a.toNat)):∀(f i:Nat) (l:List α),i≤l.length→qJ A N ok z i l→∃j,j≤(jB A N f i l).length∧qJ A N ok z j (jB A N f i l)∧(j=(jB A N f i l).length∨j=i+f)
 |0,i,l,hi,h=>⟨i,hi,h,.inr O⟩
 |f+1,i,l,hi,h=>by
  unfold jB
  split
  ·next g=>
   have hp:=iP A N (ix l i) (dS A (ix l i)) l
   obtain⟨j,h1,h2,h3⟩:=FL hok f (i+1) _ (by have:=hp.length_le;show _≤(qX A N l (ix l i)).length;unfold qX;omega) (Md hok h g)
   exact⟨j,h1,h2,O⟩
  ·next g=>exact⟨i,hi,h,.inl O⟩
theorem OH (hok:∀p,ok p→∀a∈dS A p,ok (N p a.toNat)) {B:Nat} (hB:∀l:List α,l.Nodup→(∀p∈l,ok p)→l.length≤B) {l:List α} (h:qJ A N ok z 0 l) {f:Nat} (hf:B≤f):qJ A N ok z (jB A N f 0 l).length (jB A N f 0 l):=by
 obtain⟨j,h1,h2,h3⟩:=FL hok f 0 l O h
 have:=hB _ h2.nd h2.ok
 have e:j=(jB A N f 0 l).length:=by omega
 rwa [e] at h2
def ofL (A:α→List Int) (N:α→Nat→α) (n:Nat) (L:List α) (p:α):SA:=⟨A p,(List.range n).map fun(a:Nat)=>if has (aZ (A p)) (a:Int)=true then(L.idxOf (N p a):Int) else-1⟩
theorem SG (hn:∀p,ok p→∀a:Nat,has (aZ (A p)) (a:Int)=true→a<63) {n:Nat} {L:List α} (h:qJ A N ok z L.length L) (acts:List ByteArray):pF A N n z L ⟨acts,L.map (ofL A N n L)⟩:=by
 have hat:∀i,i<L.length→ix (L.map (ofL A N n L)) i=ofL A N n L (ix L i):=fun i hi=>TurnM.Si hi
 refine⟨by simp,h.nd,h.ne,h.hd,fun i hi=> ?_,fun i hi=> ?_,fun i hi a ha=> ?_,fun i hi a ha hh=> ?_⟩
 ·show(ix (L.map (ofL A N n L)) i).aP=_
  rw[hat i hi];rfl
 ·show(ix (L.map (ofL A N n L)) i).next.length=_
  rw[hat i hi];simp[ofL]
 ·show ix (ix (L.map (ofL A N n L)) i).next a=_
  rw[hat i hi]
  exact bS ha
 ·have:=h.dn i hi hi (a:Int) (eP.2 ⟨a,rfl,hn _ (h.ok _ (aQ hi)) a hh,hh⟩)
  rwa [Int.toNat_natCast] at this
theorem SH {n:Nat} {L:List α} {D:SS} (hD:pF A N n z L D) (hact:bV D.aC=true) (hn:D.aC.length=n) (hl:L.length≤10000) (hb:∀p∈L,∀u∈A p,0≤u∧u<256) (hg:∀p∈L,∀a:Nat,has (aZ (A p)) (a:Int)=true→a<n) (hr:∀p∈L,rising (A p)=true):oK D:=by
 have n8:=gG hact
 refine⟨hact,n8,by rw[hD.len];exact hD.ne,by rw[hD.len];exact hl,fun k hk=> ?_⟩
 rw[hD.len] at hk
 have hm:ix L k∈L:=aQ hk
 have ea:(ix D.sT k).aP=A (ix L k):=hD.acc k hk
 have en:(ix D.sT k).next.length=n:=hD.nl k hk
 have ex:∀a,a<n→ix (ix D.sT k).next a=if has (aZ (A (ix L k))) (a:Int)=true then(L.idxOf (N (ix L k) a):Int) else-1:=hD.nx k hk
 refine⟨by rw[en,hn],fun a ha=> ?_,fun i hi=> ?_,fun i hi a ha=> ?_,by rw[ea];exact hr _ hm⟩
 ·rw[ex a O]
  by_cases hh:has (aZ (A (ix L k))) (a:Int)=true
  ·rw[if_pos hh]
   have:=List.idxOf_lt_length_of_mem (hD.cl k hk a O hh)
   rw[hD.len];omega
  ·rw[if_neg hh];omega
 ·rw[ea] at hi ⊢
  exact hb _ hm _ (aQ hi)
 ·rw[ea] at hi ha
  have hh:has (aZ (A (ix L k))) (a:Int)=true:=(dE _ _).2 ⟨_,aQ hi,ha⟩
  have:=hg _ hm a hh
  rw[ex a this,if_pos hh]
  omega
end
abbrev pix (l:List PP) (p:PP):Nat:= @List.idxOf PP instBEqOfDecidableEq p l
theorem uX {α:Type} [DecidableEq α] {l:List α} {p:α} (h:p∈l):l.idxOf p<l.length:=List.idxOf_lt_length_of_mem h
theorem sJ {α:Type} [DecidableEq α] [Inhabited α] {l:List α} {p:α} (h:p∈l):ix l (l.idxOf p)=p:=by rw[aD (uX h)];exact List.getElem_idxOf _
theorem SI {α:Type} [DecidableEq α] {l r:List α} {p:α} (h:p∈l):(l++r).idxOf p=l.idxOf p:=by rw[List.idxOf_append,if_pos h]
theorem SJ {α:Type} [DecidableEq α] {l:List α} {p:α} (h:p∉l):(l++ [p]).idxOf p=l.length:=by rw[List.idxOf_append,if_neg h];simp
theorem OI {α:Type} [DecidableEq α] {l:List α} {p:α} (h:p∉l):l.idxOf p=l.length:=List.idxOf_eq_length h
theorem FM {α:Type} [DecidableEq α] [Inhabited α] {l:List α} {p:α} {k:Nat} (hk:k<l.length) (h:ix l k=p):l.idxOf p≤k:=by
 rcases Nat.lt_or_ge k (l.idxOf p) with g|g
 ·have hf:=List.not_of_lt_findIdx (p:=(· ==p)) (xs:=l) (i:=k) (by unfold List.idxOf at g;exact g)
  rw[aD hk] at h
  simp[h] at hf
 ·exact g
def bes:PP:=(-1,-1)
def bY (n:Nat):List Int:=(List.range (2^n)).map fun(x:Nat)=>(x:Int)
def qA (t s:SS) (p:PP):List Int:=if p=bes then bY t.aC.length else(bY t.aC.length).filter (Xo (ix t.sT p.1.toNat) (ix s.sT p.2.toNat))
def qN (t s:SS) (p:PP) (a:Nat):PP:=if p≠bes∧0≤ix (nxt s p.2.toNat) a then(ix (nxt t p.1.toNat) a,ix (nxt s p.2.toNat) a) else bes
def qOk (t s:SS) (p:PP):Prop:=p=bes∨(0≤p.1∧p.1<(t.sT.length:Int)∧0≤p.2∧p.2<(s.sT.length:Int))
theorem wE {n:Nat} {u:Int}:u∈bY n↔0≤u∧u<((2^n:Nat):Int):=by
 unfold bY
 rw[List.mem_map]
 constructor
 ·rintro⟨k,hk,rfl⟩
  have:=List.mem_range.1 hk
  omega
 ·rintro⟨h0,h1⟩
  exact⟨u.toNat,List.mem_range.2 O,O⟩
theorem Me (n:Nat):(bY n).Pairwise (· < ·):=by
 unfold bY
 rw[List.pairwise_map]
 exact List.pairwise_lt_range.imp fun h=>by omega
theorem SK {n:Nat} {u:Int} (h:u∈bY n) {a:Nat} (ha:has u (a:Int)=true):a<n:=by
 have hu:=wE.1 h
 unfold has at ha
 rw[Int.toNat_natCast] at ha
 have h7:2^a≤u.toNat:=Nat.ge_two_pow_of_testBit ha
 exact(Nat.pow_lt_pow_iff_right (a:=2) O).1 O
theorem rF {u o:Int} {a:Nat}:has (bQ u o) (a:Int)=(has u (a:Int)&&has o (a:Int)):=by
 unfold has bQ
 rw[Int.toNat_natCast,Int.toNat_natCast,Nat.testBit_and]
def qL (t s:SS):List PP:=jB (qA t s) (qN t s) (t.sT.length*s.sT.length+1) 0 [(0,0)]
def Yr (t s:SS):SS:=⟨t.aC,(qL t s).map (ofL (qA t s) (qN t s) t.aC.length (qL t s))⟩
end QuoM
end
section
namespace FailM
open ref01 ref03 ref04 ref06 prog15 starts Part Rungs LeftM TrimM RoundM BisM BisM5 BisM6 WalkM StepM WitM JudgM LevM divs QuoM
abbrev T3:=Int × Int × Int
structure M5 where
 x:Int
 t:Int
 s:Int
 before:Int
 action:Int
deriving Inhabited,DecidableEq
def tri (m:M5):T3:=(m.x,m.t,m.s)
def Ys (m:M5):Mt:=⟨m.s,m.t,m.before,m.action⟩
def JW (mm:List (T3 × Bool)) (l:List T3):Prop:=∀p,bP mm p=if p∈l then some true else none
def JX (x:aA) (t s:SS) (p:T3):Prop:=∃o∈acc s p.2.2.toNat,bQ (bK x p.1.toNat) o∉acc t p.2.1.toNat
def nx3 (t s:SS) (p:T3) (e:PP):T3:=(e.2,ix (nxt t p.2.1.toNat) e.1.toNat,ix (nxt s p.2.2.toNat) e.1.toNat)
inductive FN (x:aA) (t s:SS):T3→Prop
 |zero:FN x t s (0,0,0)
 |step {p:T3} {e:PP}:FN x t s p→¬JX x t s p→e∈edg x p.1.toNat→0≤ix (nxt s p.2.2.toNat) e.1.toNat→FN x t s (nx3 t s p e)
def Re (x:aA) (t s:SS):Prop:=∀p,FN x t s p→¬JX x t s p
variable {x:aA} {t s:SS}
structure QF (x:aA) (t s:SS) (q:List M5):Prop where
 ne:0<q.length
 hd:ix q 0=⟨0,0,0,-1,0⟩
 nd:(q.map tri).Nodup
 rch:∀m∈q,FN x t s (tri m)
 back:∀k,0<k→k<q.length→∃(b:Nat) (e:PP),(ix q k).before=(b:Int)∧(ix q k).action=e.1∧b<k∧¬JX x t s (tri (ix q b))∧e∈edg x (ix q b).x.toNat∧0≤ix (nxt s (ix q b).s.toNat) e.1.toNat∧tri (ix q k)=nx3 t s (tri (ix q b)) e
def Xs (x:aA) (t s:SS) (q:List M5) (k:Nat):Prop:=
 ¬JX x t s (tri (ix q k))∧∀e∈edg x (ix q k).x.toNat,0≤ix (nxt s (ix q k).s.toNat) e.1.toNat→nx3 t s (tri (ix q k)) e∈q.map tri
theorem El (a b c:Nat) (l:List T3) (hnd:l.Nodup) (hb:∀p∈l,0≤p.1∧p.1<(a:Int)∧0≤p.2.1∧p.2.1<(b:Int)∧0≤p.2.2∧p.2.2<(c:Int)):l.length≤a*(b*c):=by
 have hf:∀p∈l,0≤p.1∧p.1<(a:Int)∧0≤((p.2.1.toNat*c+p.2.2.toNat:Nat):Int)∧((p.2.1.toNat*c+p.2.2.toNat:Nat):Int)<((b*c:Nat):Int):=fun p hp=>by
  have:=hb p hp
  have h2:(p.2.1.toNat+1)*c≤b*c:=Nat.mul_le_mul_right c O
  rw[Nat.add_mul] at h2
  omega
 have h1:=pR a (b*c) (l.map fun p=>(p.1,((p.2.1.toNat*c+p.2.2.toNat:Nat):Int))) ?_ (fun p hp=>by
  obtain⟨p',hp',rfl⟩:=List.mem_map.1 hp
  exact hf p' hp')
 ·simpa using h1
 ·rw[List.nodup_iff_pairwise_ne,List.pairwise_map]
  refine List.Pairwise.imp_of_mem ?_ hnd
  intro u v hu hv hne e
  have b1:=hb u hu
  have b2:=hb v hv
  simp only [Prod.mk.injEq] at e
  have hc:0<c:=by omega
  have e0:u.2.1.toNat*c+u.2.2.toNat=v.2.1.toNat*c+v.2.2.toNat:=by omega
  have e1:u.2.1.toNat=v.2.1.toNat:=by
   have:=congrArg (· /c) e0
   simp only [Nat.mul_comm _ c] at this
   rw[Nat.mul_add_div hc,Nat.mul_add_div hc,Nat.div_eq_of_lt O,Nat.div_eq_of_lt O] at this
   omega
  have e2:u.2.2.toNat=v.2.2.toNat:=by rw[e1] at e0;omega
  exact hne (Prod.ext e.1 (Prod.ext O O))
structure YK (x:aA) (t s:SS) (q:List M5) (i k:Nat) (q2:List M5) (mm2:List (T3 × Bool)):Prop where
 qi:QF x t s q2
 sm:JW mm2 (q2.map tri)
 pre:q<+:q2
 dn:∀j,j<i→Xs x t s q2 j
 al:∀e∈(edg x (ix q i).x.toNat).take k,0≤ix (nxt s (ix q i).s.toNat) e.1.toNat→nx3 t s (tri (ix q i)) e∈q2.map tri
variable {q q2:List M5} {i k:Nat} {mm mm2:List (T3 × Bool)}
abbrev Rf (q:List M5) (k:Nat):List Int:=mE (q.map Ys) k
structure YB (x:aA) (t s:SS) (z:List Int × Int × Bool):Prop where
 none:z.2.2=false→z.1= []∧z.2.1=0∧Re x t s
 some:z.2.2=true→∃q i,QF x t s q∧i<q.length∧z.1=Rf q i∧z.2.1∈acc s (ix q i).s.toNat∧bQ (bK x (ix q i).x.toNat) z.2.1∉acc t (ix q i).t.toNat
end FailM
end
section
namespace DivM
open ref01 ref03 ref04 ref06 Part Rungs LeftM TrimM RoundM MergeM BisM BisM2 BisM4 BisM5 BisM6 WalkM WitM JudgM JudgM2 LevM divr divs divd dive divg divw divv refj sysw ChsM BisS TrimI ValidM WitSat WitVal QuoM
theorem BQ {n a:Nat} (v:Int) (h:a<n):ix (List.replicate n v) a=v:=by rw[aD (by simpa using h)];simp
noncomputable def VB (t s:SS):SS × Bool:=
 if ix (hOl s) 0=true then(pZ t.aC,true)
 else if (qL t (tR s).1).length≤500 then((tR (Yr t (tR s).1)).1,true) else(⟨[],[]⟩,false)
noncomputable def JY (t s:SS):SS × Int:=
 if Eu t s=0 then(if (VB t s).2=true then((VB t s).1,0) else(⟨[],[]⟩,2)) else(⟨[],[]⟩,Eu t s)
structure YL (t s D:SS):Prop where
 acts:D.aC=t.aC
 hol:ix (hOl s) 0=true→D=pZ t.aC
 num:ix (hOl s) 0=false→∃l,pF (qA t (tR s).1) (qN t (tR s).1) t.aC.length (0,0) l D∧l.length≤t.sT.length*s.sT.length+1
structure Same (q D:SS):Prop where
 ok:oK q
 few:q.sT.length≤500
 acts:q.aC=D.aC
 trim:(tR q).1=q
 r1:mX q D
 r2:mX D q
theorem OJ {m:aA} {q D:SS} (h:Same q D) (hD:oK D):eW m q↔eW m D:=by
 have hs:=(rG h.ok hD h.acts).1 ⟨h.r1,h.r2⟩
 unfold eW
 rw[nJ h.ok (sD m),nJ hD (sD m)]
 exact⟨fun g=>rH g hs,fun g=>rH g hs.symm⟩
structure YC (t s:SS) (z:aA × Int):Prop where
 no:(JY t s).2≠0→z=(⟨[],[]⟩,(JY t s).2)
 yes:(JY t s).2=0→Vy (JY t s).1 z
theorem JZ {q D:SS} (h:Same q D) (hD:oK D):ix (hOl q) 0=ix (hOl D) 0:=by
 have f1:=h.ok.few0
 have f2:=hD.few0
 have hs:=(rG h.ok hD h.acts).1 ⟨h.r1,h.r2⟩
 cases h1:ix (hOl q) 0<;>cases h2:ix (hOl D) 0
 ·rfl
 ·exact absurd hs.symm (yZ O O h2 h1)
 ·exact absurd hs (yZ O O h1 h2)
 ·rfl
end DivM
end
end Go.Proofs.YtnlfjojfgghchaaGreatDoor
