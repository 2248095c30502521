/- The walks of the functions and the plain laws. Own texts of this claim, packed: MkLawP, MkJudgM, Mksysw, Mkdivr, Mkdivs, MkLevM, Mkdivd, MkJudgM2, Mkrefj, Mkdive, MkLevM2, Mkdivg, MkWitSat, MkWitVal, MkBisS, Mkdivw, Mkdivv, Mkdivf, MkChsM, MkValidM, MkTrimI, MkQuoM, MkFailM, MkDivM. -/
import Derived.Test.YtnlfjojfgghchaaGreatDoorX04
import Derived.Test.YtnlfjojfgghchaaGreatDoorX12
import Derived.Test.YtnlfjojfgghchaaGreatDoorX13
import Derived.Test.YtnlfjojfgghchaaGreatDoorRows
import Derived.ProofKit
import Derived.LaidMore
import Derived.Lib.LaidTab
import Derived.Lib.SmallJoins
import Derived.OpenShut
import Derived.Stop.Joined
import Derived.Test.YtnlfjojfgghchaaGreatDoorX10
import Derived.Test.YtnlfjojfgghchaaGreatDoorX06
import Derived.Test.YtnlfjojfgghchaaGreatDoorX08
set_option linter.all false
namespace Go.Proofs.YtnlfjojfgghchaaGreatDoor
open AL Go
set_option maxRecDepth 100000
section
open ref01 ref03 ref04 ref06 prog prog2 prog6 Itoa
open Go.ChangeShapes Go.WideShapes Go.ChangeAt Go.WideElems Go.RowKit
namespace LawOpen
theorem laidOut:laidOutB Tryz.prog=true:=by kernel_rfl
theorem own:ownKnob Tryz.prog.godebug=none:=by kernel_rfl
theorem uG {H:Type} {P:Program} {t:TypeId} {fs:Array Field} {ps:List (DataW H)} (h:P.underlying t=some (.struct fs)):(DataW.agg ps:DataW H).weights P t=DataW.weightsEach P (fs.toList.map (·.type)) ps:=by
 simp[DataW.weights,h]
section
variable {H:Type} {enc:TypeId × Value→H} {W:World}
attribute [local semireducible] agg in
theorem Ir {m:Nat} {cs:List Value} {y:DataW H × List MemPlace} (h:DataW.trod enc Tryz.prog W 0 (fun _=>true) true m 79 cs=some y) (hz:∀k∈y.1.weights Tryz.prog 79,k≤reachBytes) (hl:cs.length=2):
 ∃x:SA,All2 W (kX W) (sE x) cs∧∀t∈x.aP,t<2^63:=by
 obtain⟨y0,y1,n,hx,_,h0,h1⟩:=trod_struct2 Tryz.underlying79 h
 subst hx
 have hz:∀k∈y0.1.weights Tryz.prog 66++(y1.1.weights Tryz.prog 66++ []),k≤reachBytes:=by
  have e:(DataW.agg [y0.1,y1.1]:DataW H).weights Tryz.prog 79=y0.1.weights Tryz.prog 66++(y1.1.weights Tryz.prog 66++ []):=by
   rw[uG Tryz.underlying79]
   simp[DataW.weightsEach]
  rw[←e];exact hz
 have c28:Tryz.prog.cellsOf 66=1:=by kernel_rfl
 have c3:Tryz.prog.cellsOf 3=1:=by kernel_rfl
 have b3:1≤Tryz.prog.bytesOf 3:=by have:Tryz.prog.bytesOf 3=8:=kR;omega
 match cs,hl with
 | [v0,v1],_=>
   have h0:DataW.trod enc Tryz.prog W 0 (fun _=>true) true n 66 (([v0,v1].drop 0).take (Tryz.prog.cellsOf 66))=some y0:=h0
   have h1:DataW.trod enc Tryz.prog W 0 (fun _=>true) true n 66 (([v0,v1].drop 1).take (Tryz.prog.cellsOf 66))=some y1:=h1
   rw[c28] at h0 h1
   obtain⟨ys,g1,g2⟩:=Cq Tryz.underlying66 Tryz.underlying3 c3 b3 h0 (fun k hk=>hz k (List.mem_append.2 (.inl hk)))
   obtain⟨zs,g3,_⟩:=Cq Tryz.underlying66 Tryz.underlying3 c3 b3 h1 (fun k hk=>hz k (List.mem_append.2 (.inr (List.mem_append.2 (.inl hk)))))
   exact⟨⟨ys,zs⟩,⟨g1,g3,tV⟩,fun t ht=>by have:=g2 t ht;omega⟩
attribute [local semireducible] agg in
theorem Cs {r:Reach} {b0:Nat} {v:Value} {d:DataW H} {p:List MemPlace} (hv:Value.okWide Tryz.prog W r b0 28 v) (h:DataW.Trod enc Tryz.prog W 0 (fun _=>true) true 28 v d p) (hz:∀k∈d.weights Tryz.prog 28,k≤reachBytes):
 ∃s:SS,(spec s).p W (kX W) v∧dH s:=by
 obtain⟨v0,v1,y0,y1,n,rfl,rfl,rfl,h0,h1⟩:=Go.Joins.open_agg2 Tryz.underlying28 kR kR hv h
 have hz:∀k∈y0.1.weights Tryz.prog 22++(y1.1.weights Tryz.prog 26++ []),k≤reachBytes:=by
  have e:(DataW.agg [y0.1,y1.1]:DataW H).weights Tryz.prog 28=y0.1.weights Tryz.prog 22++(y1.1.weights Tryz.prog 26++ []):=by
   rw[uG Tryz.underlying28]
   simp[DataW.weightsEach]
  rw[←e];exact hz
 have c9:Tryz.prog.cellsOf 9=1:=by kernel_rfl
 have b9:1≤Tryz.prog.bytesOf 9:=by have:Tryz.prog.bytesOf 9=16:=kR;omega
 have c69:Tryz.prog.cellsOf 79=2:=by kernel_rfl
 have b69:1≤Tryz.prog.bytesOf 79:=by have:Tryz.prog.bytesOf 79=48:=kR;omega
 obtain⟨al,g1⟩:=Cr Tryz.underlying22 Tryz.underlying9 c9 b9 h0 (fun k hk=>hz k (List.mem_append.2 (.inl hk)))
 obtain⟨xs,g2,g3⟩:=sI (n:=2) (E:=sE) Tryz.underlying26 c69 (by decide) b69 h1 (fun k hk=>hz k (List.mem_append.2 (.inr (List.mem_append.2 (.inl hk))))) (fun x=> ∀t∈x.aP,t<2^63) (fun m cs y hy hw hl=>Ir hy hw hl)
 refine⟨⟨al,xs⟩,⟨[v0,v1],rfl,g1,g2,tV⟩,fun k hk i hi=> ?_⟩
 have hk:k<xs.length:=hk
 have hi:i<(ix xs k).aP.length:=hi
 exact g3 (ix xs k) (Rungs.aO hk) _ (Rungs.gO hi)
end
abbrev Cu:List (String × DataW Unit):= [("math/bits.deBruijn32tab",Rows.laid_math_bits_deBruijn32tab),("math/bits.deBruijn64tab",Rows.laid_math_bits_deBruijn64tab),("internal/strconv.uint64pow10",Rows.laid_internal_strconv_uint64pow10)]
theorem Iu {W:World} (h:laidMetH Tryz.prog Cu W) (v:Value):tab.p W (kX W) v:=by
 rw[MakeChecks.laidMetH_plain _ _ _ kR] at h
 obtain⟨ps,⟨g0,t0,cs0,f0,p0,q0,hg0,ht0,hv0,hd0,⟨g1,t1,cs1,f1,p1,q1,hg1,ht1,hv1,hd1,⟨g2,t2,cs2,f2,p2,q2,hg2,ht2,hv2,hd2,_,_⟩,_⟩,_⟩,_,_⟩:=h
 have e0:g2=0:=Option.some.inj (hg2.symm.trans (show Tryz.prog.globalNamed "internal/strconv.uint64pow10" =some 0 by kernel_rfl))
 subst e0
 have e1:t2=267:=Option.some.inj (ht2.symm.trans (show(Tryz.prog.globals[0]?).map (·.type)=some 267 by kernel_rfl))
 subst e1
 have hc:=Lib.cells_of_tab (zs:=Lib.pow10Tab) (k:= .u64) Tryz.underlying267 Tryz.underlying219 kR kR hd2
 refine⟨0,by kernel_rfl,?_,?_⟩
 ·have h2:=hv2
  unfold World.var? at h2
  rw[show Tryz.prog.globalNamed "internal/strconv.uint64pow10" =some 0 by kernel_rfl] at h2
  simp only [Option.bind_some] at h2
  show 0<W.heap.size
  cases hh:W.heap[0]? with
  |none=>rw[hh] at h2;cases h2
  |some o=>exact(Array.getElem?_eq_some_iff.1 hh).1
 ·unfold Lib.TabIs Df
  rw[hv2,←hc]
end LawOpen
open LawOpen
namespace LawOpen2
theorem PF (os:Os) (args:Array Value):laidMetH Tryz.prog Cu ((World.doorLaid Tryz.prog 400 os).forCall (fun _ _=>0) ⟨#[],args,[]⟩).memory:=
 laidMetH_of_parts3 (fuel:=8) (laidMet_of_run' 8 kR kR) kR kR
end LawOpen2
open LawOpen2 WitM wit
namespace LawOpen3
section
variable {H:Type} {enc:TypeId × Value→H} {W:World}
attribute [local semireducible] eqv in
theorem KG {m:Nat} {cs:List Value} {y:DataW H × List MemPlace} (h:DataW.trod enc Tryz.prog W 0 (fun _=>true) true m 94 cs=some y) (hl:cs.length=2):
 ∃x:Int × Int,All2 W (kX W) (pE x) cs∧True:=by
 obtain⟨y0,y1,n,_,_,h0,h1⟩:=trod_struct2 Tryz.underlying94 h
 match cs,hl with
 | [v0,v1],_=>
   have h0:DataW.trod enc Tryz.prog W 0 (fun _=>true) true n 3 [v0]=some y0:=h0
   have h1:DataW.trod enc Tryz.prog W 0 (fun _=>true) true n 3 [v1]=some y1:=h1
   obtain⟨a,ea,_,_⟩:=DataW.trod_int Tryz.underlying3 h0
   obtain⟨b,eb,_,_⟩:=DataW.trod_int Tryz.underlying3 h1
   simp at ea eb
   subst ea;subst eb
   exact⟨(a,b),⟨(show(int a).p W (kX W) (.int .i64 a) from rfl),(show(int b).p W (kX W) (.int .i64 b) from rfl),tV⟩,tV⟩
theorem Iw {m:Nat} {cs:List Value} {y:DataW H × List MemPlace} (h:DataW.trod enc Tryz.prog W 0 (fun _=>true) true m 87 cs=some y) (hz:∀k∈y.1.weights Tryz.prog 87,k≤reachBytes) (hl:cs.length=1):
 ∃x:List (Int × Int),All2 W (kX W) (gE x) cs∧True:=by
 match cs,hl with
 | [v],_=>
   obtain⟨ys,g,_⟩:=sI (n:=2) (E:=pE) Tryz.underlying87 kR (by decide) (by have:Tryz.prog.bytesOf 94=16:=kR;omega) h hz (fun _=>True) (fun m cs y hy _ hl=>KG hy hl)
   exact⟨ys,⟨g,tV⟩,tV⟩
attribute [local semireducible] agg in
theorem Ev {r:Reach} {b0:Nat} {v:Value} {d:DataW H} {p:List MemPlace} (hv:Value.okWide Tryz.prog W r b0 25 v) (h:DataW.Trod enc Tryz.prog W 0 (fun _=>true) true 25 v d p) (hz:∀k∈d.weights Tryz.prog 25,k≤reachBytes):
 ∃m:aA,(sys m).p W (kX W) v:=by
 obtain⟨v0,v1,y0,y1,n,rfl,rfl,rfl,h0,h1⟩:=Go.Joins.open_agg2 Tryz.underlying25 kR kR hv h
 have hz:∀k∈y0.1.weights Tryz.prog 22++(y1.1.weights Tryz.prog 23++ []),k≤reachBytes:=by
  have e:(DataW.agg [y0.1,y1.1]:DataW H).weights Tryz.prog 25=y0.1.weights Tryz.prog 22++(y1.1.weights Tryz.prog 23++ []):=by
   rw[uG Tryz.underlying25]
   simp[DataW.weightsEach]
  rw[←e];exact hz
 have b9:1≤Tryz.prog.bytesOf 9:=by have:Tryz.prog.bytesOf 9=16:=kR;omega
 have b85:1≤Tryz.prog.bytesOf 87:=by have:Tryz.prog.bytesOf 87=24:=kR;omega
 obtain⟨al,g1⟩:=Cr Tryz.underlying22 Tryz.underlying9 kR b9 h0 (fun k hk=>hz k (List.mem_append.2 (.inl hk)))
 obtain⟨xs,g2,_⟩:=sI (n:=1) (E:=gE) Tryz.underlying23 kR (by decide) b85 h1 (fun k hk=>hz k (List.mem_append.2 (.inr (List.mem_append.2 (.inl hk))))) (fun _=>True) (fun m cs y hy hw hl=>Iw hy hw hl)
 exact⟨⟨al,xs⟩,⟨[v0,v1],rfl,g1,g2,tV⟩⟩
end
end LawOpen3
end
section
open ref01 ref03 ref04 ref06 prog15 starts Part Rungs LeftM TrimM RoundM BisM BisM5 BisM6 WalkM StepM WitM
namespace JudgM
def cX (es:List PP):Int:=aV (es.map fun e=>((2^e.1.toNat:Nat):Int))
abbrev edg (m:aA) (x:Nat):List PP:=ix m.sT x
abbrev bR (m:aA) (x:Nat):Int:=cX (edg m x)
def edM (m:aA) (x:Nat):List (Nat × Nat):=(edg m x).map fun e=>(e.1.toNat,e.2.toNat)
theorem Jn (a b:Nat):has ((2^a:Nat):Int) (b:Int)=decide (a=b):=by
 unfold has;rw[Int.toNat_natCast,Int.toNat_natCast,Nat.testBit_two_pow]
theorem gQ {es:List PP} {a:Nat}:has (cX es) (a:Int)=true↔∃e∈es,e.1.toNat=a:=by
 unfold cX
 rw[cO]
 constructor
 ·rintro⟨u,hu,hh⟩
  obtain⟨e,he,rfl⟩:=List.mem_map.1 hu
  rw[Jn] at hh
  exact⟨e,he,by simpa using hh⟩
 ·rintro⟨e,he,rfl⟩
  exact⟨_,List.mem_map.2 ⟨e,he,rfl⟩,by rw[Jn];simp⟩
theorem qF (m:aA):Fc (bR m) (edM m):=fun x a=>by
 rw[gQ]
 unfold edM
 constructor
 ·rintro⟨e,he,h⟩;exact⟨_,List.mem_map.2 ⟨e,he,rfl⟩,h⟩
 ·rintro⟨e,he,h⟩
  obtain⟨e',he',rfl⟩:=List.mem_map.1 he
  exact⟨e',he',h⟩
structure bC (m:aA):Prop where
 acts:cZ m.aC=true
 n8:m.aC.length≤8
 few0:1≤m.sT.length
 few1:m.sT.length≤10000
 ed:∀x,x<m.sT.length→∀e∈edg m x,0≤e.1∧e.1<(m.aC.length:Int)∧0≤e.2∧e.2<(m.sT.length:Int)
 many:∀x,x<m.sT.length→(edg m x).length≤400000
def eR (m:aA) (t:SS):Prop:=Sat (bR m) (edM m) t 0 0
structure QJ (m:aA) (t:SS) (q:List Mt):Prop where
 ne:0<q.length
 hd:ix q 0=⟨0,0,-1,0⟩
 bd:∀p∈q,0≤p.s∧p.s<(m.sT.length:Int)∧0≤p.t∧p.t<(t.sT.length:Int)
 nd:(q.map dF).Nodup
 back:∀k,0<k→k<q.length→∃(b:Nat) (e:PP),(ix q k).before=(b:Int)∧(ix q k).action=e.1∧b<k∧e∈edg m (ix q b).s.toNat∧(ix q k).s=e.2∧(ix q k).t=ix (nxt t (ix q b).t.toNat) e.1.toNat∧bR m (ix q b).s.toNat∈acc t (ix q b).t.toNat
 all:∀R,KD (bR m) (edM m) t R→R 0 0→∀p∈q,R p.s.toNat p.t.toNat
def kN (m:aA) (t:SS) (q:List Mt) (k:Nat):Prop:=
 bR m (ix q k).s.toNat∈acc t (ix q k).t.toNat∧∀e∈edg m (ix q k).s.toNat,(e.2,ix (nxt t (ix q k).t.toNat) e.1.toNat)∈q.map dF
theorem Tb {m:aA} {t:SS} (hm:bC m) (ht:oK t):QJ m t [⟨0,0,-1,0⟩]:=by
 have f1:=hm.few0
 have f2:=ht.few0
 refine⟨by simp,rfl,fun p hp=> ?_,by simp,fun k h1 h2=> ?_,fun R hR h p hp=> ?_⟩
 ·have:p=⟨0,0,-1,0⟩:=by simpa using hp
  subst this
  show 0≤(0:Int)∧(0:Int)<_∧0≤(0:Int)∧(0:Int)<_
  omega
 ·simp at h2;omega
 ·have:p=⟨0,0,-1,0⟩:=by simpa using hp
  subst this;exact h
theorem zO {m:aA} {t:SS} (hm:bC m) (ht:oK t) {x y:Nat} (hx:x<m.sT.length) (hy:y<t.sT.length) (ha:bR m x∈acc t y) {e:PP} (he:e∈edg m x):
 e.1.toNat<t.aC.length∧0≤ix (nxt t y) e.1.toNat∧ix (nxt t y) e.1.toNat<(t.sT.length:Int):=by
 have:=oD ht hy (a:=e.1.toNat) ((cO _ _).2 ⟨_,ha,gQ.2 ⟨e,he,rfl⟩⟩)
 exact this
theorem Tc {m:aA} {t:SS} (hm:bC m) (ht:oK t) {q:List Mt} (h:QJ m t q) {i:Nat} (hi:i<q.length) (ha:bR m (ix q i).s.toNat∈acc t (ix q i).t.toNat) {e:PP} (he:e∈edg m (ix q i).s.toNat)
 (hn:(e.2,ix (nxt t (ix q i).t.toNat) e.1.toNat)∉q.map dF):QJ m t (q++ [⟨e.2,ix (nxt t (ix q i).t.toNat) e.1.toNat,(i:Int),e.1⟩]):=by
 have hb:=h.bd _ (aO hi)
 have g1:=hm.ed (ix q i).s.toNat O e he
 have g2:=zO hm ht (x:=(ix q i).s.toNat) (y:=(ix q i).t.toNat) O O ha he
 refine⟨by simp,by rw[oY h.ne];exact h.hd,fun p hp=> ?_,?_,fun k h1 h2=> ?_,fun R hR h0 p hp=> ?_⟩
 ·rcases List.mem_append.1 hp with hp|hp
  ·exact h.bd p hp
  ·have:p=_:=List.mem_singleton.1 hp
   subst this
   exact⟨g1.2.2.1,g1.2.2.2,g2.2.1,g2.2.2⟩
 ·rw[List.map_append,List.nodup_append]
  exact⟨h.nd,by simp,fun p hp p' hp' e'=>hn (by
   have:p'=_:=List.mem_singleton.1 hp'
   rw[e',this] at hp;exact hp)⟩
 ·simp at h2
  by_cases e':k=q.length
  ·subst e'
   refine⟨i,e,?_⟩
   rw[Pi,oY hi]
   exact⟨rfl,rfl,hi,he,rfl,rfl,ha⟩
  ·obtain⟨b,a',p1,p2,p3,p4⟩:=h.back k h1 O
   refine⟨b,a',?_⟩
   rw[oY O,oY O]
   exact⟨p1,p2,p3,p4⟩
 ·rcases List.mem_append.1 hp with hp|hp
  ·exact h.all R hR h0 p hp
  ·have:p=_:=List.mem_singleton.1 hp
   subst this
   have:=(hR.nxt (h.all R hR h0 _ (aO hi)) (e.1.toNat,e.2.toNat) (List.mem_map.2 ⟨e,he,rfl⟩)).2
   exact this
theorem KH {m:aA} {t:SS} {q:List Mt} {p:Mt} {k:Nat} (hk:k<q.length) (h:kN m t q k):kN m t (q++ [p]) k:=by
 unfold kN
 rw[oY hk]
 exact⟨h.1,fun e he=>by rw[List.map_append];exact List.mem_append_left _ (h.2 e he)⟩
theorem Td {m:aA} {t:SS} {q:List Mt} (h:QJ m t q):uZ q:=fun k hk h0=>by
 rcases Nat.eq_zero_or_pos k with e|e
 ·subst e;rw[h.hd] at h0
  have h0:(0:Int)≤ -1:=h0
  omega
 ·obtain⟨b,a,e1,e2,e3,_⟩:=h.back k e hk
  rw[e1];omega
theorem pW:∀(n m:Nat) (l:List (Int × Int)),l.Nodup→(∀p∈l,0≤p.1∧p.1<(n:Int)∧0≤p.2∧p.2<(m:Int))→l.length≤n*m:=by
 intro n m l hnd hb
 have h1:(l.map fun p=>p.1.toNat*m+p.2.toNat).Nodup:=by
  rw[List.nodup_iff_pairwise_ne,List.pairwise_map]
  refine List.Pairwise.imp_of_mem ?_ hnd
  intro a b ha hb' hne e
  have b1:=hb a ha
  have b2:=hb b hb'
  have hm:0<m:=by omega
  have e1:a.1.toNat=b.1.toNat:=by
   have:=congrArg (· /m) e
   simp only [Nat.mul_comm _ m] at this
   rw[Nat.mul_add_div hm,Nat.mul_add_div hm,Nat.div_eq_of_lt O,Nat.div_eq_of_lt O] at this
   omega
  have e2:a.2.toNat=b.2.toNat:=by rw[e1] at e;omega
  exact hne (Prod.ext O O)
 have h2:∀x∈(l.map fun p=>p.1.toNat*m+p.2.toNat),x∈List.range (n*m):=fun x hx=>by
  obtain⟨p,hp,rfl⟩:=List.mem_map.1 hx
  have b1:=hb p hp
  rw[List.mem_range]
  have:(p.1.toNat+1)*m≤n*m:=Nat.mul_le_mul_right m O
  rw[Nat.add_mul] at this
  omega
 have h3:=List.Nodup.length_le_of_subset h1 h2
 simpa using h3
theorem MJ {m:aA} {t:SS} {q:List Mt} (h:QJ m t q):q.length≤m.sT.length*t.sT.length:=by
 have:=pW m.sT.length t.sT.length (q.map dF) h.nd (fun p hp=>by
  obtain⟨m,hm,rfl⟩:=List.mem_map.1 hp
  exact h.bd m hm)
 simpa using this
structure sJ (m:aA) (t:SS) (q:List Mt) (i:Nat) (k:Nat) (q2:List Mt) (mm2:List ((Int × Int) × Bool)):Prop where
 qi:QJ m t q2
 sm:qR mm2 q2
 pre:q<+:q2
 dn:∀k,k<i→kN m t q2 k
 al:∀e∈(edg m (ix q i).s.toNat).take k,(e.2,ix (nxt t (ix q i).t.toNat) e.1.toNat)∈q2.map dF
theorem Jo {q r:List Mt} {k:Nat} (h:q<+:r) (hk:k<q.length):ix r k=ix q k:=by
 obtain⟨u,rfl⟩:=h
 exact oY hk
theorem MK {m:aA} {t:SS} {q:List Mt} {i:Nat} {mm:List ((Int × Int) × Bool)} (h:QJ m t q) (hs:qR mm q) (hd:∀k,k<i→kN m t q k):sJ m t q i 0 q mm:=⟨h,hs,List.prefix_rfl,hd,fun e he=>by simp at he⟩
theorem ML {m:aA} {t:SS} (hm:bC m) (ht:oK t) {q:List Mt} {i k:Nat} {q2:List Mt} {mm2:List ((Int × Int) × Bool)} (h:sJ m t q i k q2 mm2) (hi:i<q.length) (ha:bR m (ix q i).s.toNat∈acc t (ix q i).t.toNat) (hk:k<(edg m (ix q i).s.toNat).length) {e:PP} (he:ix (edg m (ix q i).s.toNat) k=e)
 {y:Int} (hy:ix (nxt t (ix q i).t.toNat) e.1.toNat=y) (hn:(bJ mm2 (e.2,y)).getD false=false):sJ m t q i (k+1) (q2++ [⟨e.2,y,(i:Int),e.1⟩]) (bQ mm2 (e.2,y) true):=by
 subst hy
 have hl:=h.pre.length_le
 have hqi:=Jo h.pre hi
 have hem:e∈edg m (ix q i).s.toNat:=by rw[←he];exact aO hk
 have hn':(e.2,ix (nxt t (ix q i).t.toNat) e.1.toNat)∉q2.map dF:=by
  rw[Gb h.sm] at hn
  simpa using hn
 have hp:=Tc hm ht h.qi (i:=i) O (by rw[hqi];exact ha) (e:=e) (by rw[hqi];exact hem) (by rw[hqi];exact hn')
 rw[hqi] at hp
 refine⟨hp,Es h.sm ⟨e.2,ix (nxt t (ix q i).t.toNat) e.1.toNat,(i:Int),e.1⟩,h.pre.trans (List.prefix_append _ _),fun k hk=>KH O (h.dn k hk),fun b hb=> ?_⟩
 rw[List.map_append,List.mem_append]
 rw[bN hk,he,List.mem_append] at hb
 rcases hb with h1|h1
 ·exact .inl (h.al b h1)
 ·have:b=e:=by simpa using h1
  subst this
  exact .inr (List.mem_singleton.2 rfl)
theorem MM {m:aA} {t:SS} {q:List Mt} {i k:Nat} {q2:List Mt} {mm2:List ((Int × Int) × Bool)} (h:sJ m t q i k q2 mm2) (hk:k<(edg m (ix q i).s.toNat).length) {e:PP} (he:ix (edg m (ix q i).s.toNat) k=e)
 {y:Int} (hy:ix (nxt t (ix q i).t.toNat) e.1.toNat=y) (hn:(bJ mm2 (e.2,y)).getD false=true):sJ m t q i (k+1) q2 mm2:=by
 subst hy
 refine⟨h.qi,h.sm,h.pre,h.dn,fun b hb=> ?_⟩
 rw[bN hk,he,List.mem_append] at hb
 rcases hb with h1|h1
 ·exact h.al b h1
 ·have:b=e:=by simpa using h1
  subst this
  rw[Gb h.sm] at hn
  simpa using hn
theorem PG {m:aA} {t:SS} {q:List Mt} {i k:Nat} {q2:List Mt} {mm2:List ((Int × Int) × Bool)} (h:sJ m t q i k q2 mm2) (hi:i<q.length) (ha:bR m (ix q i).s.toNat∈acc t (ix q i).t.toNat) (hk:(edg m (ix q i).s.toNat).length≤k):
 QJ m t q2∧qR mm2 q2∧i+1≤q2.length∧∀k,k<i+1→kN m t q2 k:=by
 have hl:=h.pre.length_le
 refine⟨h.qi,h.sm,O,fun j hj=> ?_⟩
 by_cases e:j=i
 ·subst e
  have hqi:=Jo h.pre hi
  have hal:=h.al
  rw[List.take_of_length_le hk] at hal
  unfold kN
  rw[hqi]
  exact⟨ha,hal⟩
 ·exact h.dn j O
theorem Te {m:aA} {t:SS} (hm:bC m) (ht:oK t) {q:List Mt} (h:QJ m t q) (hd:∀k,k<q.length→kN m t q k):eR m t:=by
 have hat:∀{x y:Nat},((x:Int),(y:Int))∈q.map dF→∃k,k<q.length∧(ix q k).s=(x:Int)∧(ix q k).t=(y:Int):=fun {x y} hm=>by
  obtain⟨m,hm,e⟩:=List.mem_map.1 hm
  obtain⟨k,hk,rfl⟩:=List.getElem_of_mem hm
  unfold dF at e
  simp only [Prod.mk.injEq] at e
  exact⟨k,hk,by rw[aG hk];exact e.1,by rw[aG hk];exact e.2⟩
 refine⟨fun x y=>((x:Int),(y:Int))∈q.map dF,⟨fun {x y} hm=> ?_,fun {x y} hm=> ?_,fun {x y} hxy e he=> ?_,fun {x y} hxy e he=> ?_⟩,?_⟩
 ·obtain⟨k,hk,e1,e2⟩:=hat hm
  have:=h.bd _ (aO hk)
  omega
 ·obtain⟨k,hk,e1,e2⟩:=hat hm
  have:=(hd k hk).1
  rw[e1,e2,Int.toNat_natCast,Int.toNat_natCast] at this
  exact this
 ·obtain⟨k,hk,e1,e2⟩:=hat hxy
  have hb:=h.bd _ (aO hk)
  have ha:=(hd k hk).1
  rw[e1,e2,Int.toNat_natCast,Int.toNat_natCast] at ha
  obtain⟨e',he',rfl⟩:=List.mem_map.1 he
  have:=(zO hm ht (x:=x) (y:=y) O O ha he').1
  show e'.1.toNat<_
  rw[(ht.st y O).len];exact this
 ·obtain⟨k,hk,e1,e2⟩:=hat hxy
  have hb:=h.bd _ (aO hk)
  obtain⟨ha,hed⟩:=hd k hk
  rw[e1,e2,Int.toNat_natCast,Int.toNat_natCast] at ha
  rw[e1,e2,Int.toNat_natCast,Int.toNat_natCast] at hed
  obtain⟨e',he',rfl⟩:=List.mem_map.1 he
  have g1:=(zO hm ht (x:=x) (y:=y) O O ha he').2.1
  have g2:=hm.ed x O e' he'
  have g3:=hed e' he'
  refine⟨g1,?_⟩
  show(((e'.2.toNat:Nat):Int),_)∈_
  rw[show((e'.2.toNat:Nat):Int)=e'.2 by omega,show(((ix (nxt t y) e'.1.toNat).toNat:Nat):Int)=ix (nxt t y) e'.1.toNat by omega]
  exact g3
 ·have:=aO (l:=q) h.ne
  rw[h.hd] at this
  exact List.mem_map.2 ⟨_,this,rfl⟩
theorem VK {m:aA} {t:SS} {q:List Mt} (h:QJ m t q) {i:Nat} (hi:i<q.length) (hn:bR m (ix q i).s.toNat∉acc t (ix q i).t.toNat):¬eR m t:=fun⟨R,hR,h0⟩=>hn (hR.acc (h.all R hR h0 _ (aO hi)))
structure VJ where
 holds:Bool
 pairs:List PP
 word:List Int
 state:Int
structure zP (m:aA) (t:SS) (v:VJ):Prop where
 yes:v.holds=true→eR m t∧v.word= []∧v.state=0∧∃q,QJ m t q∧(∀k,k<q.length→kN m t q k)∧v.pairs=bT (q.map dF)
 no:v.holds=false→¬eR m t∧v.pairs= []∧∃q i,QJ m t q∧i<q.length∧v.word=fX q i∧v.state=(ix q i).s∧(∀k,k<i→kN m t q k)∧bR m (ix q i).s.toNat∉acc t (ix q i).t.toNat
theorem Ew {m:aA} {t:SS} {v:VJ} (h:zP m t v):v.holds=true↔eR m t:=by
 constructor
 ·exact fun e=>(h.yes e).1
 ·intro hs
  cases e:v.holds with
  |true=>rfl
  |false=>exact absurd hs (h.no e).1
end JudgM
end
section
open ref01 ref03 ref04 ref06 prog prog2 prog3 prog6 prog13 prog15 starts search Part Rungs LeftM TrimM RoundM BisM BisM5 WalkM StepM WitM JudgM refw judg wit
def pG (d e:Int × Int):Int:=if d.1=e.1 then d.2- e.2 else d.1- e.1
theorem Tf {d e:Int × Int} (h:¬0≤pG d e):d.1<e.1∨(d.1=e.1∧d.2<e.2):=by
 unfold pG at h
 split at h<;>omega
theorem Tg {d e:Int × Int} (h:0≤pG d e):¬(d.1<e.1∨(d.1=e.1∧d.2<e.2)):=by
 unfold pG at h
 split at h<;>omega
def kZ (A N:Nat) (e:Int × Int):Bool:=decide (0≤e.1)&&decide (e.1<(A:Int))&&decide (0≤e.2)&&decide (e.2<(N:Int))
theorem gU {A N:Nat} {e:Int × Int}:kZ A N e=true↔0≤e.1∧e.1<(A:Int)∧0≤e.2∧e.2<(N:Int):=by
 unfold kZ;simp[and_assoc]
def ltP (d e:Int × Int):Bool:=decide (d.1<e.1)||(decide (d.1=e.1)&&decide (d.2<e.2))
theorem pH {d e:Int × Int}:ltP d e=true↔d.1<e.1∨(d.1=e.1∧d.2<e.2):=by unfold ltP;simp
def eW (A N:Nat) (l:List (Int × Int)):Bool:=l.all (kZ A N)&&(List.range (l.length- 1)).all fun i=>ltP (ix l i) (ix l (i+1))
def bP (l:List (List (Int × Int))):Nat:=(l.map List.length).sum
theorem mG (l:List (List (Int × Int))) (x:List (Int × Int)):bP (l++ [x])=bP l+x.length:=by simp[bP]
theorem uH (l:List (List (Int × Int))) (k:Nat):bP (l.take k)≤bP l:=by
 conv=>rhs;rw[←List.take_append_drop k l]
 unfold bP
 rw[List.map_append,List.sum_append];omega
theorem Ex {l:List (List (Int × Int))} {k:Nat} (h:k<l.length):(ix l k).length≤bP l:=by
 have:=uH l (k+1)
 rw[bN h,mG] at this
 omega
def bM (m:aA):Bool:=cZ m.aC&&decide (1≤m.sT.length)&&decide (m.sT.length≤5000)&&m.sT.all (eW m.aC.length m.sT.length)&&decide (bP m.sT≤400000)
def oF (m:aA):Nat:=m.aC.length+m.sT.length+bP m.sT
def yG (m:aA) (n:Int):Bool:=decide ((oF m:Int)≤n)
theorem cU {m:aA} (h:bM m=true):bC m:=by
 unfold bM at h
 simp only [Bool.and_eq_true,decide_eq_true_eq] at h
 obtain⟨⟨⟨⟨h1,h2⟩,h3⟩,h4⟩,h5⟩:=h
 refine⟨h1,iX h1,h2,O,fun x hx e he=> ?_,fun x hx=> ?_⟩
 ·have g:=uW h4 hx
  unfold eW at g
  rw[Bool.and_eq_true] at g
  exact gU.1 (List.all_eq_true.1 g.1 e he)
 ·exact Nat.le_trans (Ex hx) h5
theorem wO {A N:Nat} {l:List (Int × Int)} (h1:∀j,j<l.length→kZ A N (ix l j)=true) (h2:∀j,j+1<l.length→ltP (ix l j) (ix l (j+1))=true):eW A N l=true:=by
 unfold eW
 rw[Bool.and_eq_true]
 refine⟨List.all_eq_true.2 (fun e he=> ?_),List.all_eq_true.2 (fun j hj=>h2 j (by have:=List.mem_range.1 hj;omega))⟩
 obtain⟨j,hj,rfl⟩:=List.getElem_of_mem he
 rw[←aG hj];exact h1 j hj
theorem MN {A N:Nat} {l:List (Int × Int)} {j:Nat} (hj:j<l.length) (h:kZ A N (ix l j)=false):eW A N l=false:=by
 cases g:eW A N l with
 |false=>rfl
 |true=>
  unfold eW at g
  rw[Bool.and_eq_true] at g
  rw[uW g.1 hj] at h;cases h
theorem MO {A N:Nat} {l:List (Int × Int)} {j:Nat} (hj:j<l.length) (h0:0<j) (h:ltP (ix l (j- 1)) (ix l j)=false):eW A N l=false:=by
 cases g:eW A N l with
 |false=>rfl
 |true=>
  unfold eW at g
  rw[Bool.and_eq_true] at g
  have:=List.all_eq_true.1 g.2 (j- 1) (List.mem_range.2 O)
  rw[show j- 1+1=j by omega,h] at this;cases this
theorem cJ {m:aA} (h:Inh (sys m)):m.aC.length≤140737488355328∧m.sT.length≤140737488355328∧∀k,k<m.sT.length→(ix m.sT k).length≤140737488355328:=
 ⟨(h.agg 0 rfl).len,(h.agg 1 rfl).len,fun _ hk=>((h.agg 1 rfl).el (gK hk) 0 rfl).len⟩
namespace T
theorem eE:cS Tryz.prog 94 0 0:=bZ kR
theorem eY:cS Tryz.prog 94 1 1:=bZ kR
theorem dU:IsSlice Tryz.prog 87 94 2:=eL kR
theorem dP:gS Tryz.prog 94 2:=fU kR
theorem z94:dM Tryz.prog 94 [.int .i64 0,.int .i64 0]:=cE kR
theorem gY:IsSlice Tryz.prog 23 87 1:=eL kR
theorem hU:cS Tryz.prog 25 0 0:=bZ kR
theorem VL:Ent Tryz.prog 114:=aR kR
end T
namespace sysw
theorem PK (d e:Int × Int) (hd:bdP d) (he:bdP e):
 Fn0 Tryz.prog 114 [agg [int d.1,int d.2],agg [int e.1,int e.2]] (int (pG d e)):=by
 refine fnI Tryz.func114 rfl rfl (fun w0 F0=> ?_)
 unfold bdP at hd he
 refine sq (rg (bx (key:=2) (cs:= [int d.1,int d.2]) J fun b2=>(bx (key:=3) (cs:= [int e.1,int e.2]) J fun b3=>(ag (nl (th (sq (sq (rg (fP J T.eE (lP J J J T.aH (fP J T.eE (lP J J J T.aH (bi J J fV (nl (th ?_))))))))))))))))
 refine cd J (fun hc0=> ?_) (fun hc0=> ?_)
 ·try simp at hc0
  refine sq (rg (fP J T.eE (lP J J J T.aH (fP J T.eE (lP J J J T.aH (bi J J (mI i6) (ag (nl (th (rt (rt_ ?_)))))))))))
  have hr0:((d.1- e.1):Int)=(pG d e):=by
   unfold pG;rw[if_neg hc0]
  exact rE () [.tmp 4] J [int (d.1- e.1)] ⟨.tmp J,tV⟩ (cA1 (fun x0=>rV [int x0]) hr0) trivial eX
 ·try simp at hc0
  refine sk (th (sq (rg (fP J T.eY (lP J J J T.aH (fP J T.eY (lP J J J T.aH (bi J J (mI i6) (ag (nl (th (rt ?_))))))))))))
  have hr0:((d.2- e.2):Int)=(pG d e):=by
   unfold pG;rw[if_pos hc0]
  exact rE () [.tmp 4] J [int (d.2- e.2)] ⟨.tmp J,tV⟩ (cA1 (fun x0=>rV [int x0]) hr0) trivial eX
theorem tU (l:List (Int × Int)) (hl:∀e∈l,0≤e.1∧e.1<8):
 Fn0 Tryz.prog 98 [sl 2 pE l] (int (cX l)):=by
 refine fnI Tryz.func98 rfl rfl (fun w0 F0=> ?_)
 refine fcC (bL 0 J) (fun hm0=> ?_)
 refine sq (rg (ag (nl (th (sq (rg (ag (nl (th (sq (sq (rg (mv (lnF J T.dU (mv (nl (th (bk ?_))))))))))))))))))
 have hI0_0:0≤l.length:=by
  first|omega|simp
 have hI0_1:(0:Int)=cX (l.take 0)∧0≤(0:Int)∧(0:Int)<256:=by
  exact⟨rfl,O,O⟩
 refine lp (κ:=Nat × Int) (fun p=> [(2,int 0),(3,int p.2),(6,sl 2 pE l),(7,int (l.length:Int)),(8,int (p.1:Int))]) (fun p=> []) (fun p=>(p.1≤l.length)∧(p.2=cX (l.take p.1)∧0≤p.2∧p.2<256)) (fun p=>l.length- p.1) ⟨0,(0:Int)⟩ ⟨hI0_0,hI0_1⟩ ⟨id,id,id,id,id,tV⟩ trivial ?_
 intro⟨k,u⟩ hG0
 obtain⟨hk0,⟨hu,hu0,hu1⟩⟩:(k≤l.length)∧(u=cX (l.take k)∧0≤u∧u<256):=hG0
 show Ct _ _ _ _ [(2,int 0),(3,int u),(6,sl 2 pE l),(7,int (l.length:Int)),(8,int (k:Int))] [] _
 refine sq (rg (bi J J aZ (nl (th (sq ?_)))))
 refine cd J (fun hc0=> ?_) (fun hc0=> ?_)
 ·try simp at hc0
  have hek:=hl _ (aO hc0)
  have hp:2^ ((ix l k).1).toNat≤2^7:=Nat.pow_le_pow_right O O
  have hp0:0≤((2^ ((ix l k).1).toNat:Nat):Int):=Int.natCast_nonneg _
  refine sk (th (sq (bk (sq (rg (iF J J T.dU O gB (lFA J T.dP (Nat.le_of_ble_eq_true J) (al (key:=5) T.z94 (eC (eC eZ)) fun b5=>(sPA (cs':= [int ((ix l k).1),int ((ix l k).2)]) J J J T.dP J J (nl (th (rg (mv (fP J T.eE (lP J J J T.aH (bi J J (Bu O O) (bi J J (Bw O O O O) (ag (nl (eb (th (rg (bi J J (aM i6) (mv (nl ?_)))))))))))))))))))))))))
  have hN0:(k+1)≤l.length:=by
   first|omega|simp_all
  have hN1:((u.toNat|||(2^ ((ix l k).1).toNat):Nat):Int)=cX (l.take (k+1))∧0≤((u.toNat|||(2^ ((ix l k).1).toNat):Nat):Int)∧((u.toNat|||(2^ ((ix l k).1).toNat):Nat):Int)<256:=by
   refine⟨?_,O,oR (b:=((2^ ((ix l k).1).toNat:Nat):Int)) hu1 O⟩
   rw[bN hc0]
   unfold cX
   rw[List.map_append,List.map_cons,List.map_nil,jP,hu];rfl
  exact ln (⟨k+1,((u.toNat|||(2^ ((ix l k).1).toNat):Nat):Int)⟩:Nat × Int) ⟨hN0,hN1⟩ dO ⟨id,id,id,id,id,tV⟩ trivial
 ·try simp at hc0
  refine ex (xt_ (xt_ (xb (th (sq (rg (mv (ag (nl (th (rt ?_)))))))))))
  have hr0:(u:Int)=(cX l):=by
   rw[hu,show k=l.length by omega,List.take_length]
  exact rE () [.tmp 2] J [int u] ⟨.tmp J,tV⟩ (cA1 (fun x0=>rV [int x0]) hr0) trivial eX
theorem iB (m:aA):
 Fn0 Tryz.prog 66 [sys m] (bl (bM m)):=by
 refine fnI Tryz.func66 rfl rfl (fun w0 F0=> ?_)
 refine fcC (bW 0 J) (fun hS0=> ?_)
 obtain⟨hma0,hms0,hme0⟩:=cJ hS0
 refine sq (rg (bx (key:=1) (cs:= [sl 1 rE_ m.aC,sl 1 gE m.sT]) J fun b1=>(ag (nl (th (sq (rg (fP J T.bY (lP J J J T.dA (fc (bL 10 J) fun hm10=>(lnF J T.gY (ag (nl (th (sq (sq (rg (fP J T.hU (lP J J J T.dE (bI (φs:= [sl 1 rE_ m.aC]) (φ:=bl (cZ m.aC)) ⟨J,tV⟩ (prog.Eh _) T.LW (no J (mv ?_))))))))))))))))))))))
 apply gOr (t:=16) (pd:=19) rfl
 rotate_left
 ·intro hg0 fin
  have hg0':=hg0
  try simp at hg0'
  exact gy J J J hg0 (mv (gy J J J hg0 (bi J J aZ (pkF J hg0 J (drp (X:= [(18,_),(17,_)]) ⟨J,J,tV⟩ fin)))))
 ·intro hg0 fin
  exact gn J J J hg0 J J (gn J J J hg0 J J (pkT J hg0 J (drp (X:= [(18,_),(17,_)]) ⟨J,J,tV⟩ fin)))
 refine mv ?_
 apply gOr (t:=20) (pd:=23) rfl
 rotate_left
 ·intro hg1 fin
  have hg1':=hg1
  try simp at hg1'
  exact gy J J J hg1 (mv (gy J J J hg1 (bi J J jA (pkF J hg1 J (drp (X:= [(22,_),(21,_)]) ⟨J,J,tV⟩ fin)))))
 ·intro hg1 fin
  exact gn J J J hg1 J J (gn J J J hg1 J J (pkT J hg1 J (drp (X:= [(22,_),(21,_)]) ⟨J,J,tV⟩ fin)))
 refine nl (th ?_)
 refine cd J (fun hc0=> ?_) (fun hc0=> ?_)
 ·try simp at hc0
  refine sq (rg (ag (nl (th (rt (rt_ ?_))))))
  have hr0:false=(bM m):=by
   unfold bM
   by_cases h:cZ m.aC=true
   ·simp[h] at hc0 ⊢
    omega
   ·simp[h]
  exact rE () [.tmp 2] J [bl false] ⟨.tmp J,tV⟩ (cA1 (fun x0=>rV [bl x0]) hr0) trivial eX
 ·try simp at hc0
  have hact:=iX (l:=m.aC) (by simp_all)
  refine sk (th (sq (rg (ag (nl (th (sq (sq (rg (fP J T.bY (lP J J J T.dA (lnF J T.gY (mv (nl (th (bk ?_))))))))))))))))
  have hI0_0:0≤m.sT.length:=by
   first|omega|simp
  have hI0_1:(0:Int)=(bP (m.sT.take 0):Int)∧(m.sT.take 0).all (eW m.aC.length m.sT.length)=true∧(0:Int)≤400000:=by
   exact⟨rfl,by simp,O⟩
  refine lp (κ:=Nat × Int) (fun p=> [(1,ptr 1 b1 0),(3,int (m.sT.length:Int)),(4,int p.2),(25,sl 1 gE m.sT),(26,int (m.sT.length:Int)),(27,int (p.1:Int))]) (fun p=> [(1,cell b1 [sl 1 rE_ m.aC,sl 1 gE m.sT])]) (fun p=>(p.1≤m.sT.length)∧(p.2=(bP (m.sT.take p.1):Int)∧(m.sT.take p.1).all (eW m.aC.length m.sT.length)=true∧p.2≤400000)) (fun p=>m.sT.length- p.1) ⟨0,(0:Int)⟩ ⟨hI0_0,hI0_1⟩ ⟨id,id,id,id,id,id,tV⟩ ⟨rI,tV⟩ ?_
  intro⟨k,n⟩ hG0
  obtain⟨hk0,⟨hn,hal,hn4⟩⟩:(k≤m.sT.length)∧(n=(bP (m.sT.take k):Int)∧(m.sT.take k).all (eW m.aC.length m.sT.length)=true∧n≤400000):=hG0
  show Ct _ _ _ _ [(1,ptr 1 b1 0),(3,int (m.sT.length:Int)),(4,int n),(25,sl 1 gE m.sT),(26,int (m.sT.length:Int)),(27,int (k:Int))] [(1,cell b1 [sl 1 rE_ m.aC,sl 1 gE m.sT])] _
  have hmk:=hme0 k
  refine sq (rg (bi J J aZ (nl (th (sq ?_)))))
  refine cd J (fun hc1=> ?_) (fun hc1=> ?_)
  ·try simp at hc1
   refine sk (th (sq (bk (sq (rg (iF J J T.gY O gB (lF J J T.fK (ag (nl (th (sq (rg (mv (mv (fc (bL 32 J) fun hm32=>(lnF J T.dU (bi J J (aM i6) (ag (nl (th (sq (sq (rg (mv (bi J J jA (nl (th ?_)))))))))))))))))))))))))))
   refine cd J (fun hc2=> ?_) (fun hc2=> ?_)
   ·try simp at hc2
    refine sq (rg (ag (nl (th (rt (rt_ (rb (rt_ (rt_ (rb (rt_ ?_)))))))))))
    have hr0:false=(bM m):=by
     unfold bM
     rw[decide_eq_false (p:=bP m.sT≤400000) (by have:=uH m.sT (k+1);rw[bN O,mG] at this;omega)]
     simp
    exact rE () [.tmp 2] J [bl false] ⟨.tmp J,tV⟩ (cA1 (fun x0=>rV [bl x0]) hr0) trivial eX
   ·try simp at hc2
    refine sk (th (sq (rg (mv (lnF J T.dU (mv (nl (th (bk ?_)))))))))
    have hI1_0:0≤(ix m.sT k).length:=by
     first|omega|simp
    have hI1_1:(∀j,j<0→kZ m.aC.length m.sT.length (ix (ix m.sT k) j)=true)∧∀j,j+1<0→ltP (ix (ix m.sT k) j) (ix (ix m.sT k) (j+1))=true:=by
     exact⟨fun j hj=>by omega,fun j hj=>by omega⟩
    refine lp (κ:=Nat) (fun p=> [(1,ptr 1 b1 0),(3,int (m.sT.length:Int)),(4,int (n+((ix m.sT k).length:Int))),(6,sl 2 pE (ix m.sT k)),(25,sl 1 gE m.sT),(26,int (m.sT.length:Int)),(27,int (k:Int)),(37,sl 2 pE (ix m.sT k)),(38,int ((ix m.sT k).length:Int)),(39,int (p:Int))]) (fun p=> [(1,cell b1 [sl 1 rE_ m.aC,sl 1 gE m.sT])]) (fun p=>(p≤(ix m.sT k).length)∧((∀j,j<p→kZ m.aC.length m.sT.length (ix (ix m.sT k) j)=true)∧∀j,j+1<p→ltP (ix (ix m.sT k) j) (ix (ix m.sT k) (j+1))=true)) (fun p=>(ix m.sT k).length- p) 0 ⟨hI1_0,hI1_1⟩ ⟨id,id,id,id,id,id,id,id,id,id,tV⟩ ⟨rI,tV⟩ ?_
    intro k1 hG1
    obtain⟨hk1,hI1⟩:(k1≤(ix m.sT k).length)∧((∀j,j<k1→kZ m.aC.length m.sT.length (ix (ix m.sT k) j)=true)∧∀j,j+1<k1→ltP (ix (ix m.sT k) j) (ix (ix m.sT k) (j+1))=true):=hG1
    refine sq (rg (bi J J aZ (nl (th (sq ?_)))))
    refine cd J (fun hc3=> ?_) (fun hc3=> ?_)
    ·try simp at hc3
     refine sk (th (sq (bk (sq (rg (mv (iF J J T.dU O gB (lFA J T.dP (Nat.le_of_ble_eq_true J) (al (key:=8) T.z94 (eC (eC eZ)) fun b8=>(ag (sPA (cs':= [int ((ix (ix m.sT k) k1).1),int ((ix (ix m.sT k) k1).2)]) J J J T.dP J J (nl (th (sq (dr (nh:=36) [0,1,3,7,15,31,15,79,207,511,1023,2047,4095,8191,16383,32767,65535,131071,262143,131071,1048575,2097151,4194303,8388607,16777215,33554431,67108863,67108863,201326591,536870911,1073741823,67108863,4294967295,8589934591,17179869183,34359738367] T.mixed kR ?_)))))))))))))))
     refine st_ J (fun _ _ _ gq kq=>fP (gq.1.trans J) T.eE kq) ?_
     refine st_ J (fun _ _ _ gq kq=>lP (gq.1.trans J) J J T.aH kq) ?_
     refine st_ J (fun _ _ _ gq kq=>bi (gq.1.trans J) J aZ kq) ?_
     refine st_ J (fun _ _ _ gq kq=>mv' (gq.1.trans J) kq) ?_
     refine sg_ (φ:=ptr 8 b8 0) J J J J (List.mem_of_elem_eq_true J) (fun hgd=> ?_) ?_
     ·have hgd':=hgd
      try simp at hgd'
      exact fun _ _ _ gq kq=>fP (gq.1.trans J) T.eE kq
     refine sg_ (φ:=int ((ix (ix m.sT k) k1).1)) J J J J (List.mem_of_elem_eq_true J) (fun hgd=> ?_) ?_
     ·have hgd':=hgd
      try simp at hgd'
      exact fun _ _ _ gq kq=>lP (gq.1.trans (fH hgd)) J J T.aH kq
     refine sg_ (φ:=ptr 1 b1 0) J J J J (List.mem_of_elem_eq_true J) (fun hgd=> ?_) ?_
     ·have hgd':=hgd
      try simp at hgd'
      exact fun _ _ _ gq kq=>fP (gq.1.trans J) T.hU kq
     refine sg_ (φ:=sl 1 rE_ m.aC) J J J J (List.mem_of_elem_eq_true J) (fun hgd=> ?_) ?_
     ·have hgd':=hgd
      try simp at hgd'
      exact fun _ _ _ gq kq=>lP (gq.1.trans (fH hgd)) J J T.dE kq
     refine sg_ (φ:=int (m.aC.length:Int)) J J J J (List.mem_of_elem_eq_true J) (fun hgd=> ?_) ?_
     ·have hgd':=hgd
      try simp at hgd'
      exact fun _ _ _ gq kq=>lnF (gq.1.trans (fH hgd)) T.iL kq
     refine sg_ (φ:=bl (decide ((m.aC.length:Int)≤((ix (ix m.sT k) k1).1)))) J J J J (List.mem_of_elem_eq_true J) (fun hgd=> ?_) ?_
     ·have hgd':=hgd
      try simp at hgd'
      exact fun _ _ _ gq kq=>bi (gq.1.trans (fH hgd)) (gq.2.1.trans (fH hgd)) jG kq
     refine st_ J (fun _ _ _ gq kq=>pk (gq.1.trans J) (EW (x:= .tmp 47) (gq.1.trans J) (gq.2.1.trans J) J) kq) ?_
     refine st_ J (fun _ _ _ gq kq=>mv' (gq.1.trans J) kq) ?_
     refine sg_ (φ:=ptr 8 b8 1) J J J J (List.mem_of_elem_eq_true J) (fun hgd=> ?_) ?_
     ·have hgd':=hgd
      try simp at hgd'
      exact fun _ _ _ gq kq=>fP (gq.1.trans J) T.eY kq
     refine sg_ (φ:=int ((ix (ix m.sT k) k1).2)) J J J J (List.mem_of_elem_eq_true J) (fun hgd=> ?_) ?_
     ·have hgd':=hgd
      try simp at hgd'
      exact fun _ _ _ gq kq=>lP (gq.1.trans (fH hgd)) J J T.aH kq
     refine sg_ (φ:=bl (decide (((ix (ix m.sT k) k1).2)<0))) J J J J (List.mem_of_elem_eq_true J) (fun hgd=> ?_) ?_
     ·have hgd':=hgd
      try simp at hgd'
      exact fun _ _ _ gq kq=>bi (gq.1.trans (fH hgd)) J aZ kq
     refine st_ J (fun _ _ _ gq kq=>pk (gq.1.trans J) (EW (x:= .tmp 55) (gq.1.trans J) (gq.2.1.trans J) J) kq) ?_
     refine st_ J (fun _ _ _ gq kq=>mv' (gq.1.trans J) kq) ?_
     refine sg_ (φ:=ptr 8 b8 1) J J J J (List.mem_of_elem_eq_true J) (fun hgd=> ?_) ?_
     ·have hgd':=hgd
      try simp at hgd'
      exact fun _ _ _ gq kq=>fP (gq.1.trans J) T.eY kq
     refine sg_ (φ:=int ((ix (ix m.sT k) k1).2)) J J J J (List.mem_of_elem_eq_true J) (fun hgd=> ?_) ?_
     ·have hgd':=hgd
      try simp at hgd'
      exact fun _ _ _ gq kq=>lP (gq.1.trans (fH hgd)) J J T.aH kq
     refine sg_ (φ:=int (m.sT.length:Int)) J J J J (List.mem_of_elem_eq_true J) (fun hgd=> ?_) ?_
     ·have hgd':=hgd
      try simp at hgd'
      exact fun _ _ _ gq kq=>mv' (gq.1.trans J) kq
     refine sg_ (φ:=bl (decide ((m.sT.length:Int)≤((ix (ix m.sT k) k1).2)))) J J J J (List.mem_of_elem_eq_true J) (fun hgd=> ?_) ?_
     ·have hgd':=hgd
      try simp at hgd'
      exact fun _ _ _ gq kq=>bi (gq.1.trans (fH hgd)) (gq.2.1.trans (fH hgd)) jG kq
     refine st_ J (fun _ _ _ gq kq=>pk (gq.1.trans J) (EW (x:= .tmp 60) (gq.1.trans J) (gq.2.1.trans J) J) kq) ?_
     refine st_ J (fun _ _ _ gq kq=>mv' (gq.1.trans J) kq) ?_
     refine sg_ (φ:=int (k1:Int)) J J J J (List.mem_of_elem_eq_true J) (fun hgd=> ?_) ?_
     ·have hgd':=hgd
      try simp at hgd'
      exact fun _ _ _ gq kq=>mv' (gq.1.trans J) kq
     refine sg_ (φ:=bl (decide (0<(k1:Int)))) J J J J (List.mem_of_elem_eq_true J) (fun hgd=> ?_) ?_
     ·have hgd':=hgd
      try simp at hgd'
      exact fun _ _ _ gq kq=>bi (gq.1.trans (fH hgd)) J jA kq
     refine sg_ (φ:=bl (decide (0<(k1:Int)))) J J J J (List.mem_of_elem_eq_true J) (fun hgd=> ?_) ?_
     ·have hgd':=hgd
      try simp at hgd'
      exact fun _ _ _ gq kq=>mv' (gq.1.trans (fH hgd)) kq
     refine xL (φ:=sl 2 pE (ix m.sT k)) rfl rfl rfl rfl (List.mem_of_elem_eq_true rfl) (fun hgd hgd2=> ?_) ?_
     ·have hgd':=hgd
      try simp at hgd'
      have hgd2':=hgd2
      try simp at hgd2'
      exact fun _ _ _ gq kq=>mv' (gq.1.trans J) kq
     refine xL (φ:=int (k1:Int)) rfl rfl rfl rfl (List.mem_of_elem_eq_true rfl) (fun hgd hgd2=> ?_) ?_
     ·have hgd':=hgd
      try simp at hgd'
      have hgd2':=hgd2
      try simp at hgd2'
      exact fun _ _ _ gq kq=>mv' (gq.1.trans J) kq
     refine xL (φ:=int ((k1:Int)- 1)) rfl rfl rfl rfl (List.mem_of_elem_eq_true rfl) (fun hgd hgd2=> ?_) ?_
     ·have hgd':=hgd
      try simp at hgd'
      have hgd2':=hgd2
      try simp at hgd2'
      exact fun _ _ _ gq kq=>bi (gq.1.trans (rO hgd hgd2)) J (mI i6) kq
     refine xL (φ:=fp [int ((ix (ix m.sT k) ((k1:Int)- 1).toNat).1),int ((ix (ix m.sT k) ((k1:Int)- 1).toNat).2)]) rfl rfl rfl rfl (List.mem_of_elem_eq_true rfl) (fun hgd hgd2=> ?_) ?_
     ·have hgd':=hgd
      try simp at hgd'
      have hgd2':=hgd2
      try simp at hgd2'
      exact fun _ _ _ gq kq=>iF (gq.1.trans (rO hgd hgd2)) (gq.2.1.trans (rO hgd hgd2)) T.dU O gB kq
     refine xL (φ:=agg [int ((ix (ix m.sT k) ((k1:Int)- 1).toNat).1),int ((ix (ix m.sT k) ((k1:Int)- 1).toNat).2)]) rfl rfl rfl rfl (List.mem_of_elem_eq_true rfl) (fun hgd hgd2=> ?_) ?_
     ·have hgd':=hgd
      try simp at hgd'
      have hgd2':=hgd2
      try simp at hgd2'
      exact fun _ _ _ gq kq=>lFA (gq.1.trans (rO hgd hgd2)) T.dP (Nat.le_of_ble_eq_true J) kq
     refine xL (φ:=agg [int ((ix (ix m.sT k) k1).1),int ((ix (ix m.sT k) k1).2)]) rfl rfl rfl rfl (List.mem_of_elem_eq_true rfl) (fun hgd hgd2=> ?_) ?_
     ·have hgd':=hgd
      try simp at hgd'
      have hgd2':=hgd2
      try simp at hgd2'
      exact fun _ _ _ gq kq=>lPA (gq.1.trans J) J T.dP J kq
     refine xL (φ:=int (pG ((ix (ix m.sT k) ((k1:Int)- 1).toNat).1,(ix (ix m.sT k) ((k1:Int)- 1).toNat).2) ((ix (ix m.sT k) k1).1,(ix (ix m.sT k) k1).2))) rfl rfl rfl rfl (List.mem_of_elem_eq_true rfl) (fun hgd hgd2=> ?_) ?_
     ·have hgd':=hgd
      try simp at hgd'
      have hgd2':=hgd2
      try simp at hgd2'
      have hp1:=gU.1 (hI1.1 ((k1:Int)- 1).toNat O)
      have hb1:bdP ((ix (ix m.sT k) ((k1:Int)- 1).toNat).1,(ix (ix m.sT k) ((k1:Int)- 1).toNat).2):=by unfold bdP;dsimp only;omega
      have hb2:bdP ((ix (ix m.sT k) k1).1,(ix (ix m.sT k) k1).2):=by unfold bdP;dsimp only;omega
      exact fun _ _ _ gq kq=>bI (φs:= [agg [int ((ix (ix m.sT k) ((k1:Int)- 1).toNat).1),int ((ix (ix m.sT k) ((k1:Int)- 1).toNat).2)],agg [int ((ix (ix m.sT k) k1).1),int ((ix (ix m.sT k) k1).2)]]) (φ:=int (pG ((ix (ix m.sT k) ((k1:Int)- 1).toNat).1,(ix (ix m.sT k) ((k1:Int)- 1).toNat).2) ((ix (ix m.sT k) k1).1,(ix (ix m.sT k) k1).2))) ⟨(gq.1.trans (rO hgd hgd2)),(gq.2.1.trans (rO hgd hgd2)),tV⟩ (sysw.PK ((ix (ix m.sT k) ((k1:Int)- 1).toNat).1,(ix (ix m.sT k) ((k1:Int)- 1).toNat).2) ((ix (ix m.sT k) k1).1,(ix (ix m.sT k) k1).2) aS aS) T.VL kq
     refine xL (φ:=bl (decide (0≤(pG ((ix (ix m.sT k) ((k1:Int)- 1).toNat).1,(ix (ix m.sT k) ((k1:Int)- 1).toNat).2) ((ix (ix m.sT k) k1).1,(ix (ix m.sT k) k1).2))))) rfl rfl rfl rfl (List.mem_of_elem_eq_true rfl) (fun hgd hgd2=> ?_) ?_
     ·have hgd':=hgd
      try simp at hgd'
      have hgd2':=hgd2
      try simp at hgd2'
      exact fun _ _ _ gq kq=>bi (gq.1.trans (rO hgd hgd2)) J jG kq
     refine sg_ (φ:=bl ((decide (0<(k1:Int)))&&(decide (0≤(pG ((ix (ix m.sT k) ((k1:Int)- 1).toNat).1,(ix (ix m.sT k) ((k1:Int)- 1).toNat).2) ((ix (ix m.sT k) k1).1,(ix (ix m.sT k) k1).2)))))) J J J J (List.mem_of_elem_eq_true J) (fun hgd=> ?_) ?_
     ·have hgd':=hgd
      try simp at hgd'
      exact fun _ _ _ gq kq=>pk (gq.1.trans (fH hgd)) (LG (x:= .tmp 69) (gq.1.trans (fH hgd)) (gq.2.1.trans (Sm hgd)) J) kq
     refine st_ J (fun _ _ _ gq kq=>pk (gq.1.trans J) (EW (x:= .tmp 66) (gq.1.trans J) (gq.2.1.trans J) J) kq) ?_
     refine pn (nl (th ?_))
     refine cd J (fun hc4=> ?_) (fun hc4=> ?_)
     ·skip
      simp only [Bool.or_eq_true,Bool.and_eq_true,decide_eq_true_eq] at hc4
      refine sq (rg (ag (nl (th (rt (rb (rt_ (rt_ (rb (rb (rt_ (rt_ (rb (rt_ ?_))))))))))))))
      have hr0:false=(bM m):=by
       unfold bM
       rw[mT (xs:=m.sT) (k:=k) O ?_];simp
       have hno:∀{p:Prop},(kZ m.aC.length m.sT.length (ix (ix m.sT k) k1)=true→¬p)→p→eW m.aC.length m.sT.length (ix m.sT k)=false:=fun hh hp=>MN hc3 (by cases g:kZ m.aC.length m.sT.length (ix (ix m.sT k) k1) with|false=>rfl|true=>exact absurd hp (hh g))
       rcases hc4 with(((h|h)|h)|h)|h
       ·exact hno (fun g=>by have:=gU.1 g;omega) h
       ·exact hno (fun g=>by have:=gU.1 g;omega) h
       ·exact hno (fun g=>by have:=gU.1 g;omega) h
       ·exact hno (fun g=>by have:=gU.1 g;omega) h
       ·have h5:=Tg h.2
        rw[show((k1:Int)- 1).toNat=k1- 1 by omega] at h5
        refine MO hc3 O ?_
        cases g:ltP (ix (ix m.sT k) (k1- 1)) (ix (ix m.sT k) k1) with
        |false=>rfl
        |true=>exact absurd (pH.1 g) h5
      exact rE () [.tmp 2] J [bl false] ⟨.tmp J,tV⟩ (cA1 (fun x0=>rV [bl x0]) hr0) trivial eX
     ·skip
      simp only [Bool.or_eq_false_iff,Bool.and_eq_false_iff,decide_eq_false_iff_not] at hc4
      obtain⟨⟨⟨⟨h41,h42⟩,h43⟩,h44⟩,h45⟩:=hc4
      refine sk (eb (th (rg (bi J J (aM i6) (mv (nl ?_))))))
      have hN0:(k1+1)≤(ix m.sT k).length:=by
       first|omega|simp_all
      have hN1:(∀j,j<(k1+1)→kZ m.aC.length m.sT.length (ix (ix m.sT k) j)=true)∧∀j,j+1<(k1+1)→ltP (ix (ix m.sT k) j) (ix (ix m.sT k) (j+1))=true:=by
       refine⟨fun j hj=> ?_,fun j hj=> ?_⟩
       ·by_cases e:j=k1
        ·subst e;exact gU.2 ⟨O,O,O,O⟩
        ·exact hI1.1 j O
       ·by_cases e:j+1=k1
        ·subst e
         rcases h45 with h|h
         ·exact absurd O h
         ·rw[show(((j+1:Nat):Int)- 1).toNat=j by omega] at h
          exact pH.2 (Tf h)
        ·exact hI1.2 j O
      exact ln (k1+1) ⟨hN0,hN1⟩ dO ⟨id,id,id,id,id,id,id,id,id,id,tV⟩ ⟨rI,tV⟩
    ·try simp at hc3
     refine ex (xt_ (xt_ (xb (eb (th (rg (bi J J (aM i6) (mv (nl ?_)))))))))
     have hN0:(k+1)≤m.sT.length:=by
      first|omega|simp_all
     have hN1:(n+((ix m.sT k).length:Int))=(bP (m.sT.take (k+1)):Int)∧(m.sT.take (k+1)).all (eW m.aC.length m.sT.length)=true∧(n+((ix m.sT k).length:Int))≤400000:=by
      refine⟨?_,?_,O⟩
      ·rw[bN O,mG];omega
      ·rw[mJ O,hal,wO (fun j hj=>hI1.1 j O) (fun j hj=>hI1.2 j O)];rfl
     exact ln (⟨k+1,n+((ix m.sT k).length:Int)⟩:Nat × Int) ⟨hN0,hN1⟩ dO ⟨id,id,id,id,id,id,tV⟩ ⟨rI,tV⟩
  ·try simp at hc1
   refine ex (xt_ (xt_ (xb (th (sq (rg (ag (nl (th (rt ?_))))))))))
   have hr0:true=(bM m):=by
    have hkk:k=m.sT.length:=by omega
    rw[hkk,List.take_length] at hal hn
    unfold bM
    rw[hal,hc0.1.1]
    simp;omega
   exact rE () [.tmp 2] J [bl true] ⟨.tmp J,tV⟩ (cA1 (fun x0=>rV [bl x0]) hr0) trivial eX
theorem FK (m:aA) (most:Int) (hm:most≤1000000):
 Fn0 Tryz.prog 45 [sys m,int most] (bl (yG m most)):=by
 refine fnI Tryz.func45 rfl rfl (fun w0 F0=> ?_)
 refine fcC (bW 0 J) (fun hS0=> ?_)
 obtain⟨hma0,hms0,hme0⟩:=cJ hS0
 refine sq (rg (bx (key:=2) (cs:= [sl 1 rE_ m.aC,sl 1 gE m.sT]) J fun b2=>(ag (nl (th (sq (rg (fP J T.hU (lP J J J T.dE (fc (bL 8 J) fun hm8=>(lnF J T.iL (fP J T.bY (lP J J J T.dA (fc (bL 11 J) fun hm11=>(lnF J T.gY (bi J J (aM i6) (ag (nl (th (sq (sq (rg (ag (nl (th (bk ?_))))))))))))))))))))))))))
 have hI0_0:((m.aC.length+m.sT.length:Nat):Int)=((m.aC.length+m.sT.length+bP (m.sT.take 0):Nat):Int)∧0≤m.sT.length:=by
  exact⟨by simp[bP],Nat.zero_le _⟩
 refine lp (κ:=Nat × Int) (fun p=> [(1,int most),(2,ptr 2 b2 0),(4,bl false),(5,int p.2),(6,int (p.1:Int))]) (fun p=> [(2,cell b2 [sl 1 rE_ m.aC,sl 1 gE m.sT])]) (fun p=>p.2=((m.aC.length+m.sT.length+bP (m.sT.take p.1):Nat):Int)∧p.1≤m.sT.length) (fun p=>m.sT.length- p.1) ⟨0,((m.aC.length+m.sT.length:Nat):Int)⟩ hI0_0 ⟨id,id,id,id,id,tV⟩ ⟨rI,tV⟩ ?_
 intro⟨i,n⟩ hG0
 obtain⟨hn,hil⟩:n=((m.aC.length+m.sT.length+bP (m.sT.take i):Nat):Int)∧i≤m.sT.length:=hG0
 show Ct _ _ _ _ [(1,int most),(2,ptr 2 b2 0),(4,bl false),(5,int n),(6,int (i:Int))] [(2,cell b2 [sl 1 rE_ m.aC,sl 1 gE m.sT])] _
 refine sq (sq (rg (mv (fP J T.bY (lP J J J T.dA (lnF J T.gY (bi J J aZ (mv ?_))))))))
 apply fT (t:=19) (pd:=23) rfl
 rotate_left
 ·intro hg0 fin
  have hg0':=hg0
  try simp at hg0'
  exact gy J J J hg0 (mv (gy J J J hg0 (mv (gy J J J hg0 (bi J J tD (pkT J hg0 J (drp (X:= [(22,_),(21,_),(20,_)]) ⟨J,J,J,tV⟩ fin)))))))
 ·intro hg0 fin
  exact gn J J J hg0 J J (gn J J J hg0 J J (gn J J J hg0 J J (pkF J hg0 J (drp (X:= [(22,_),(21,_),(20,_)]) ⟨J,J,J,tV⟩ fin))))
 refine nl (th ?_)
 refine cd J (fun hc0=> ?_) (fun hc0=> ?_)
 ·try simp at hc0
  refine sk (th (sq (bk (rg (mv (fP J T.bY (lP J J J T.dA (mv (iF J J T.gY O gB (lF J J T.fK (fc (bL 31 J) fun hm31=>(lnF J T.dU (bi J J (aM i6) (ag (nl (eb (th (rg (mv (bi J J (aM i6) (ag (nl ?_))))))))))))))))))))))
  have hN0:(n+((ix m.sT i).length:Int))=((m.aC.length+m.sT.length+bP (m.sT.take (i+1)):Nat):Int)∧(i+1)≤m.sT.length:=by
   refine⟨?_,O⟩
   rw[bN O,mG];omega
  exact ln (⟨i+1,n+((ix m.sT i).length:Int)⟩:Nat × Int) hN0 dO ⟨id,id,id,id,id,tV⟩ ⟨rI,tV⟩
 ·try simp at hc0
  refine ex (xt_ (xt_ (xb (th (sq (rg (mv (mv (bi J J tD (ag (nl (th (rt ?_)))))))))))))
  have hr0:(decide (n≤most))=(yG m most):=by
   unfold yG oF
   have h1:=uH m.sT i
   by_cases h2:i<m.sT.length
   ·rw[decide_eq_false O,decide_eq_false O]
   ·rw[hn,show i=m.sT.length by omega,List.take_length]
  exact rE () [.tmp 4] J [bl (decide (n≤most))] ⟨.tmp J,tV⟩ (cA1 (fun x0=>rV [bl x0]) hr0) trivial eX
theorem eV (m:aA) (hs:oF m≤100000000):
 AL.Fn Tryz.prog 17 [sys m] [] (ι:=Unit) (fun N _=>Pw N m) (fun _=> []):=by
 refine fnI Tryz.func17 rfl rfl (fun w0 F0=> ?_)
 have hsz:=hs;unfold oF at hsz
 refine fcC (bW 0 J) (fun hS0=> ?_)
 obtain⟨hma0,hms0,hme0⟩:=cJ hS0
 refine sq (rg (bx (key:=1) (cs:= [sl 1 rE_ m.aC,sl 1 gE m.sT]) J fun b1=>(al (key:=2) T.z25 (eC (eC eZ)) fun b2=>(nl (th (sq (rg (fP J T.hU (lP J J J T.dE (uT (enc:=rE_) (ys:=m.aC) J J T.Db mL flat (bd (css:= [(0,_)]) T.mW (eC (eC eZ)) ⟨J,J,p1 (φ:=fre w0.heap.size (sl 1 rE_ m.aC)) J,tV⟩ (al (key:=3) T.z25 (eC (eC eZ)) fun b3=>(sPA (cs':= [fre w0.heap.size (sl 1 rE_ m.aC),eqv (.slice none 0 0)]) J J J T.aU J J (nl (th (sq (sq (rg (fP J T.bY (lP J J J T.dA (fc (bL 11 J) fun hm11=>(lnF J T.gY (mv (nl (th (bk ?_))))))))))))))))))))))))))
 refine nwC 30 87 1 (fN w0.heap.size) (nS 3 1 (osl 30 (.slice none 0 0)) rfl rfl dR ?_)
 have hI0_0:0≤m.sT.length:=by
  first|omega|simp
 have hI0_1:([]:List (List (Int × Int)))=m.sT.take 0:=by
  rfl
 refine lp (κ:=Nat × Value × (List (List (Int × Int)))) (fun p=> [(2,ptr 2 b2 0),(3,ptr 3 b3 0),(11,sl 1 gE m.sT),(12,int (m.sT.length:Int)),(13,int (p.1:Int))]) (fun p=> [(1,cell b1 [sl 1 rE_ m.aC,sl 1 gE m.sT]),(2,cell b2 [eqv (.slice none 0 0),eqv (.slice none 0 0)]),(3,cell b3 [fre w0.heap.size (sl 1 rE_ m.aC),osl 30 p.2.1]),(30,own p.2.1 87 1 (fN w0.heap.size) p.2.2)]) (fun p=>(p.1≤m.sT.length)∧(p.2.2=m.sT.take p.1)) (fun p=>m.sT.length- p.1) ⟨0,(.slice none 0 0),([]:List (List (Int × Int)))⟩ ⟨hI0_0,hI0_1⟩ ⟨id,id,id,id,id,tV⟩ ⟨rI,rI,rI,rI,tV⟩ ?_
 intro⟨k,v,acc⟩ hG0
 obtain⟨hk0,hI0⟩:(k≤m.sT.length)∧(acc=m.sT.take k):=hG0
 show Ct _ _ _ _ [(2,ptr 2 b2 0),(3,ptr 3 b3 0),(11,sl 1 gE m.sT),(12,int (m.sT.length:Int)),(13,int (k:Int))] [(1,cell b1 [sl 1 rE_ m.aC,sl 1 gE m.sT]),(2,cell b2 [eqv (.slice none 0 0),eqv (.slice none 0 0)]),(3,cell b3 [fre w0.heap.size (sl 1 rE_ m.aC),osl 30 v]),(30,own v 87 1 (fN w0.heap.size) acc)] _
 have hlen:acc.length≤k:=by rw[hI0];simp;omega
 refine sq (rg (bi J J aZ (nl (th (sq ?_)))))
 refine cd J (fun hc0=> ?_) (fun hc0=> ?_)
 ·try simp at hc0
  have hb2:=Ex hc0
  refine sk (th (sq (bk (sq (rg (iF J J T.gY O gB (lF J J T.fK (ag (nl (th (dr (nh:=5) [0,1,0,4,12,31,63,127] T.mixed kR ?_)))))))))))
  refine st_ J (fun _ _ _ gq kq=>fP (gq.1.trans J) T.bY kq) ?_
  refine st_ J (fun _ _ _ gq kq=>lP (gq.1.trans J) J J T.dA kq) ?_
  refine st_ J (fun _ _ _ gq kq=>mv' (gq.1.trans J) kq) ?_
  refine st_ J (fun _ _ _ gq kq=>uT (enc:=pE) (ys:=ix m.sT k) J (gq.1.trans J) T.kW mL flat kq) ?_
  refine st_ J (fun _ _ _ gq kq=>bsE (enc:=fN w0.heap.size) (xs:= [(ix m.sT k)]) (css:= [[fre w0.heap.size (sl 2 pE (ix m.sT k))]]) T.pF ⟨J,J,p1 (φ:=fre w0.heap.size (sl 2 pE (ix m.sT k))) (by exact(gq.1.trans J)),tV⟩ J J J J kq) ?_
  refine pn (ap (key:=30) (zs:= [(ix m.sT k)]) cB J J J T.pF (by unfold aN at*;simp;omega) (by unfold aN at*;simp;omega) fun v22=>(fP J T.bY (cK J J J J T.dA J (nl (eb (th (rg (bi J J (aM i6) (mv (nl ?_))))))))))
  have hN0:(k+1)≤m.sT.length:=by
   first|omega|simp_all
  have hN1:(acc++ [(ix m.sT k)])=m.sT.take (k+1):=by
   rw[hI0,bN hc0]
  exact ln (⟨k+1,v22,acc++ [(ix m.sT k)]⟩:Nat × Value × (List (List (Int × Int)))) ⟨hN0,hN1⟩ dO ⟨id,id,id,id,id,tV⟩ ⟨rI,rI,rI,rI,tV⟩
 ·try simp at hc0
  refine ex (xt_ (xt_ (xb (th (sq (rg (Ke gE 3 30 1 noM (fun _=>J) J J J (by decide) (lPA J J T.aU J (sPA (cs':= [fre w0.heap.size (sl 1 rE_ m.aC),fre w0.heap.size (sl 1 gE acc)]) J J J T.aU J J (nl (th (rt ?_))))))))))))
  have hr0:acc=m.sT:=by
   rw[hI0,show k=m.sT.length by omega,List.take_length]
  exact rE () [.cell 2 25] J [agg [fre w0.heap.size (sl 1 rE_ m.aC),fre w0.heap.size (sl 1 gE acc)]] ⟨.agg J J T.aU J J,tV⟩ (cA1 (fun x0=>rV [agg [fre w0.heap.size (sl 1 rE_ m.aC),fre w0.heap.size (sl 1 gE x0)]]) hr0) trivial eX
end sysw
end
section
open ref01 ref03 ref04 ref06 prog prog2 prog3 prog6 Part Rungs LeftM TrimM RoundM BisM BisM5
def qG (l:List ByteArray):SS:=⟨l,[⟨(List.range (2^l.length)).map fun(x:Nat)=>(x:Int),List.replicate l.length 0⟩]⟩
namespace divr
end divr
end
section
open ref01 ref03 ref04 ref06 prog prog2 prog3 prog6 prog13 Part Rungs LeftM TrimM RoundM BisM BisM5 WalkM StepM WitM JudgM refw judg wit sysw divr
def bS (u o:Int):Int:=((u.toNat&&&o.toNat:Nat):Int)
def Xt (x y:SA) (u:Int):Bool:=y.aP.all fun o=>decide (bS u o∈x.aP)
namespace divs
end divs
end
section
namespace LevM
open ref01 ref03 ref04 ref06 Part Rungs LeftM TrimM BisM BisM5 WitM
inductive Rch (B:PP→Prop) (S:PP→PP→Prop):PP→Prop
 |zero:Rch B S (0,0)
 |step {p q:PP}:Rch B S p→¬B p→S p q→Rch B S q
def Fin (B:PP→Prop) (S:PP→PP→Prop) (vis:List PP) (p:PP):Prop:=¬B p∧∀q,S p q→q∈vis
structure LI (B:PP→Prop) (S:PP→PP→Prop) (vis op:List PP):Prop where
 nd:vis.Nodup
 z:((0,0):PP)∈vis
 rch:∀p∈vis,Rch B S p
 opn:∀p∈op,p∈vis
 dn:∀p∈vis,p∈op∨Fin B S vis p
variable {B:PP→Prop} {S:PP→PP→Prop} {vis op:List PP}
def AH (T:SS):Prop:=∀x,x<T.sT.length→∀a,a<T.aC.length→(0≤ix (nxt T x) a↔has (aV (acc T x)) (a:Int)=true)
end LevM
end
section
open ref01 ref03 ref04 ref06 prog prog2 prog3 prog6 prog13 Part Rungs LeftM TrimM RoundM MergeM BisM BisM4 BisM5 WalkM StepM WitM JudgM refw judg wit sysw divr divs LevM
theorem nN {s:SS} (hs:oK s):oK (tR s).1:=by
 cases h:ix (hOl s) 0 with
 |true=>rw[fB h];exact wF hs.acts
 |false=>rw[dC h];exact Rw hs
theorem qI (s:SS):(tR s).1.aC=s.aC:=by
 cases h:ix (hOl s) 0 with
 |true=>rw[fB h];rfl
 |false=>rw[dC h]
theorem MP {s:SS} (hs:oK s):AH (tR s).1:=by
 cases h:ix (hOl s) 0 with
 |true=>
  rw[fB h]
  intro x hx a ha
  have hx:x=0:=by have hx:x<1:=hx;omega
  subst hx
  have ha:a<s.aC.length:=ha
  have e:ix (nxt (nothing s.aC) 0) a= -1:=by
   show ix (List.replicate s.aC.length (-1)) a= -1
   rw[aG (by simpa using ha)];simp
  rw[e]
  constructor
  ·intro h;omega
  ·intro h
   have h:has (aV []) (a:Int)=true:=h
   rw[AC] at h;cases h
 |false=>
  rw[dC h]
  intro x hx a ha
  have hx:x<(aJ s).length:=by simpa using hx
  have ha:a<s.aC.length:=ha
  have e1:ix (nxt (tS s) x) a=_:=EY hx ha
  have e2:acc (tS s) x=_:=qD hx
  show 0≤ix (nxt (tS s) x) a↔has (aV (acc (tS s) x)) (a:Int)=true
  rw[e1,e2]
  by_cases g:has (aV (keep s (ix (aJ s) x).toNat)) (a:Int)=true
  ·rw[if_pos g];exact⟨fun _=>g,fun _=>(fZ _ _).1⟩
  ·rw[if_neg g];exact⟨fun h=>absurd h (by decide),fun h=>absurd h g⟩
namespace divd
end divd
end
section
open ref01 ref03 ref04 ref06 prog6 prog15 starts Part Rungs LeftM TrimM RoundM MergeM BisM BisM5 BisM6 WalkM StepM WitM JudgM
namespace JudgM2
theorem RB {s:SS} (hs:oK s) (h0:ix (hOl s) 0=false) {x:Nat} (hx:x<(tS s).sT.length):0<(acc (tS s) x).length:=by
 rw[kA] at hx
 rw[qD hx]
 exact List.length_pos_iff.2 (zC (by have:=gW hs hx;omega) (yB hs h0 hx))
structure VR where
 holds:Bool
 ladder:List Int
 pairs:List PP
 wit:aA
structure Yu (s t:SS) (v:VR):Prop where
 yes:v.holds=true→rZ s t∧v.ladder=eP s∧v.wit=⟨[],[]⟩∧(ix (hOl s) 0=true→v.pairs= [])∧(ix (hOl s) 0=false→∃q,KA (tS s) t q∧(∀k,k<q.length→Ph (tS s) t q k)∧v.pairs=q.map fun m=>(ix (aJ s) m.s.toNat,m.t))
 no:v.holds=false→¬rZ s t∧v.ladder= []∧v.pairs= []∧ix (hOl s) 0=false∧∃q i u,KA (tS s) t q∧i<q.length∧u∈acc (tS s) (ix q i).s.toNat∧u∉acc t (ix q i).t.toNat∧zM (tS s) (kM (tS s) (fX q i) u) v.wit
end JudgM2
end
section
open ref01 ref03 ref04 ref06 prog prog2 prog3 prog4 prog5 prog6 prog13 prog15 starts search Part Rungs LeftM TrimM RoundM MergeM BisM BisM5 WalkM StepM WitM JudgM JudgM2 refw judg wit
theorem oK.small {s:SS} (h:oK s):dH s:=fun k hk i hi=>by
 have:=(h.st k hk).ac i hi
 omega
theorem Dp {s t:SS} (h:hO s t=0):cC s=true∧cC t=true∧s.aC=t.aC:=by
 unfold hO at h
 split at h
 ·next g=>
  split at h
  ·next g2=>exact⟨g.1,g.2,g2⟩
  ·exact absurd h (by decide)
 ·exact absurd h (by decide)
namespace refj
end refj
end
section
open ref01 ref03 ref04 ref06 prog prog2 prog3 prog6 prog13 Part Rungs LeftM TrimM RoundM MergeM BisM BisM4 BisM5 WalkM StepM WitM JudgM refw judg wit refj sysw divr divs divd LevM
namespace dive
end dive
end
section
namespace LevM2
open ref01 ref03 ref04 ref06 Part Rungs LeftM TrimM BisM BisM5 BisM6 WitM JudgM LevM
end LevM2
end
section
open ref01 ref03 ref04 ref06 prog prog2 prog3 prog6 prog13 Part Rungs LeftM TrimM RoundM MergeM BisM BisM4 BisM5 WalkM StepM WitM JudgM refw judg wit refj sysw divr divs divd dive LevM LevM2
theorem Yg {m:aA} (hm:bC m) {x:Nat} (hx:x<m.sT.length):∀e∈ix m.sT x,0≤e.1∧e.1<8:=fun e he=>by
 have:=hm.ed x hx e he
 have:=hm.n8
 omega
namespace divg
end divg
end
section
namespace WitSat
open ref01 ref03 ref04 ref06 Part Rungs LeftM TrimM BisM BisM5 BisM6 WalkM StepM WitM JudgM
variable {T:SS} {want:List PP} {ss:List (List Int)} {q:List PP} {mm:List (PP × Int)} {m:aA}
end WitSat
end
section
namespace WitVal
open ref01 ref03 ref04 ref06 Part Rungs LeftM TrimM BisM BisM5 BisM6 WalkM StepM WitM JudgM WitSat sysw
variable {T:SS} {want:List PP} {ss:List (List Int)} {q:List PP} {mm:List (PP × Int)} {m:aA}
theorem Gs {l:List (List PP)} {K:Nat}:(∀x∈l,x.length≤K)→bP l≤l.length*K:=by
 induction l with
 |nil=>intro _;simp[bP]
 |cons a l ih=>
  intro h
  have:=ih fun x hx=>h x (List.mem_cons_of_mem _ hx)
  have h0:=h a List.mem_cons_self
  rw[List.length_cons,Nat.succ_mul]
  unfold bP at this ⊢
  rw[List.map_cons,List.sum_cons]
  omega
end WitVal
end
section
namespace BisS
open ref01 ref03 ref04 ref06 Part Rungs LeftM TrimM MergeM RoundM BisM BisM4 BisM5 BisM6
structure BB (S D:SS) (R:Nat→Nat→Prop):Prop where
 bis:Bis S D R
 bd:∀{x y},R x y→x<S.sT.length∧y<D.sT.length
structure yH {α:Type} [DecidableEq α] [Inhabited α] (A:α→List Int) (N:α→Nat→α) (n:Nat) (z:α) (l:List α) (D:SS):Prop where
 len:D.sT.length=l.length
 nd:l.Nodup
 ne:0<l.length
 hd:ix l 0=z
 acc:∀i,i<l.length→acc D i=A (ix l i)
 nl:∀i,i<l.length→(nxt D i).length=n
 nx:∀i,i<l.length→∀a,a<n→ix (nxt D i) a=if has (aV (A (ix l i))) (a:Int)=true then(l.idxOf (N (ix l i) a):Int) else-1
 cl:∀i,i<l.length→∀a,a<n→has (aV (A (ix l i))) (a:Int)=true→N (ix l i) a∈l
end BisS
end
section
open ref01 ref03 ref04 ref06 prog prog2 prog3 prog6 prog13 Part Rungs LeftM TrimM RoundM MergeM BisM BisM4 BisM5 WalkM StepM WitM JudgM JudgM2 refw judg wit refj sysw divr divs divd dive divg LevM LevM2
structure VM (s:SS) (z:aA × Int):Prop where
 bad:cC s=false→z=(⟨[],[]⟩,30)
 hol:cC s=true→ix (hOl s) 0=true→z=(⟨[],[]⟩,3)
 fit:cC s=true→ix (hOl s) 0=false→z.2=0∧zM (tS s) [] z.1
namespace divw
end divw
end
section
open ref01 ref03 ref04 ref06 prog prog2 prog3 prog6 prog13 Part Rungs LeftM TrimM RoundM MergeM BisM BisM4 BisM5 WalkM StepM WitM JudgM JudgM2 refw judg wit refj sysw divr divs divd dive divg divw LevM LevM2
noncomputable def eF (x:aA) (t s:SS):Int:=if bM x=true then(if hO t s=0 then(if x.aC=t.aC then 0 else 10) else hO t s) else 20
namespace T
theorem wP:Ent Tryz.prog 66:=aR kR
theorem Xu:Ent Tryz.prog 83:=aR kR
end T
namespace divv
theorem Dp (x:aA) (t s:SS) (ht:dH t) (hs:dH s):
 Fn0 Tryz.prog 86 [sys x,spec t,spec s] (int (eF x t s)):=by
 refine fnI Tryz.func86 rfl rfl (fun w0 F0=> ?_)
 refine fcC (bW 0 J) (fun hS0=> ?_)
 obtain⟨hma0,hms0,hme0⟩:=cJ hS0
 refine fcC (bW 1 J) (fun hS1=> ?_)
 obtain⟨hsa1,hss1,hse1⟩:=sLn hS1
 refine fcC (bW 2 J) (fun hS2=> ?_)
 obtain⟨hsa2,hss2,hse2⟩:=sLn hS2
 refine sq (rg (bx (key:=3) (cs:= [sl 1 rE_ x.aC,sl 1 gE x.sT]) J fun b3=>(bx (key:=4) (cs:= [sl 1 rE_ t.aC,sl 2 sE t.sT]) J fun b4=>(bx (key:=5) (cs:= [sl 1 rE_ s.aC,sl 2 sE s.sT]) J fun b5=>(ag (nl (th (sq (sq (rg (lPA J J T.aU J (bI (φs:= [agg [sl 1 rE_ x.aC,sl 1 gE x.sT]]) (φ:=bl (bM x)) ⟨J,tV⟩ (sysw.iB x) T.wP (no J (nl (th ?_)))))))))))))))
 refine cd J (fun hc0=> ?_) (fun hc0=> ?_)
 ·skip
  have hno:¬bM x=true:=by simpa using hc0
  refine sq (rg (ag (nl (th (rt (rt_ ?_))))))
  have hr0:(20:Int)=(eF x t s):=by
   unfold eF;rw[if_neg hno]
  exact rE () [.tmp 6] J [int 20] ⟨.tmp J,tV⟩ (cA1 (fun x0=>rV [int x0]) hr0) trivial eX
 ·skip
  have hyes:bM x=true:=by simpa using hc0
  refine sk (th (sq (sq (rg (lPA J J T.bA J (lPA J J T.bA J (bI (φs:= [agg [sl 1 rE_ t.aC,sl 2 sE t.sT],agg [sl 1 rE_ s.aC,sl 2 sE s.sT]]) (φ:=int (hO t s)) ⟨J,J,tV⟩ (judg.vA t s aS aS) T.Xu (ag (nl (th (sq (rg (mv (bi J J fV (nl (th ?_))))))))))))))))
  refine cd J (fun hc1=> ?_) (fun hc1=> ?_)
  ·skip
   have h1:¬hO t s=0:=by simpa using hc1
   refine sq (rg (mv (ag (nl (th (rt (rt_ ?_)))))))
   have hr0:((hO t s):Int)=(eF x t s):=by
    unfold eF;rw[if_pos hyes,if_neg h1]
   exact rE () [.tmp 6] J [int (hO t s)] ⟨.tmp J,tV⟩ (cA1 (fun x0=>rV [int x0]) hr0) trivial eX
  ·skip
   have h1:hO t s=0:=by simpa using hc1
   refine sk (th (sq (sq (rg (fP J T.hU (lP J J J T.dE (fP J T.eD (lP J J J T.dE (bI (φs:= [sl 1 rE_ x.aC,sl 1 rE_ t.aC]) (φ:=bl (decide (x.aC=t.aC))) ⟨J,J,tV⟩ (prog.iY _ _) T.zI (no J (nl (th ?_))))))))))))
   refine cd J (fun hc2=> ?_) (fun hc2=> ?_)
   ·skip
    have h2:¬x.aC=t.aC:=by simpa using hc2
    refine sq (rg (ag (nl (th (rt (rt_ ?_))))))
    have hr0:(10:Int)=(eF x t s):=by
     unfold eF;rw[if_pos hyes,if_pos h1,if_neg h2]
    exact rE () [.tmp 6] J [int 10] ⟨.tmp J,tV⟩ (cA1 (fun x0=>rV [int x0]) hr0) trivial eX
   ·skip
    have h2:x.aC=t.aC:=by simpa using hc2
    refine sk (th (sq (rg (ag (nl (th (rt ?_)))))))
    have hr0:(0:Int)=(eF x t s):=by
     unfold eF;rw[if_pos hyes,if_pos h1,if_pos h2]
    exact rE () [.tmp 6] J [int 0] ⟨.tmp J,tV⟩ (cA1 (fun x0=>rV [int x0]) hr0) trivial eX
theorem PL (l:List ByteArray) (hl:l.length≤8):
 Fn0 Tryz.prog 91 [strs l] (spec (qG l)):=by
 refine fnI Tryz.func91 rfl rfl (fun w0 F0=> ?_)
 have h2n:2^l.length≤2^8:=Nat.pow_le_pow_right O hl
 refine fcC (bL 0 J) (fun hm0=> ?_)
 refine sq (rg (al (key:=2) T.z28 (eC (eC eZ)) fun b2=>(nl (th (sq (rg (mv (lnF J T.iL (mk (key:=7) (m:=l.length) (enc:=nE) (y:=(0:Int)) J J T.cQ (eC eZ) (by unfold aN at*;omega) (by unfold aN at*;omega) fun v7=>(fz 7 7 J J (bd (css:= [(1,_)]) T.Aq (eC (eC eZ)) ⟨J,J,p1 (φ:=sl 1 nE (List.replicate l.length (0:Int))) J,tV⟩ (al (key:=3) T.z79 (eC (eC eZ)) fun b3=>(sPA (cs':= [eqv (.slice none 0 0),sl 1 nE (List.replicate l.length (0:Int))]) J J J T.eO J J (nl (th (sq (sq (rg (mv (lnF J T.iL (bi J J (Bu O O) (mv (nl (th (bk ?_)))))))))))))))))))))))))
 refine nwC 30 3 1 nE (nS 3 0 (osl 30 (.slice none 0 0)) rfl rfl dR ?_)
 have hI0_0:0≤2^l.length:=by
  first|omega|simp
 have hI0_1:([]:List Int)=(List.range 0).map fun(x:Nat)=>(x:Int):=by
  rfl
 refine lp (κ:=Nat × Value × (List Int)) (fun p=> [(0,sl 1 rE_ l),(2,ptr 2 b2 0),(3,ptr 3 b3 0),(11,int ((2^l.length:Nat):Int)),(12,int (p.1:Int))]) (fun p=> [(2,cell b2 [eqv (.slice none 0 0),eqv (.slice none 0 0)]),(3,cell b3 [osl 30 p.2.1,sl 1 nE (List.replicate l.length 0)]),(30,own p.2.1 3 1 nE p.2.2)]) (fun p=>(p.1≤2^l.length)∧(p.2.2=(List.range p.1).map fun(x:Nat)=>(x:Int))) (fun p=>2^l.length- p.1) ⟨0,(.slice none 0 0),([]:List Int)⟩ ⟨hI0_0,hI0_1⟩ ⟨id,id,id,id,id,tV⟩ ⟨rI,rI,rI,tV⟩ ?_
 intro⟨k,v,acc⟩ hG0
 obtain⟨hk0,hI0⟩:(k≤2^l.length)∧(acc=(List.range k).map fun(x:Nat)=>(x:Int)):=hG0
 show Ct _ _ _ _ [(0,sl 1 rE_ l),(2,ptr 2 b2 0),(3,ptr 3 b3 0),(11,int ((2^l.length:Nat):Int)),(12,int (k:Int))] [(2,cell b2 [eqv (.slice none 0 0),eqv (.slice none 0 0)]),(3,cell b3 [osl 30 v,sl 1 nE (List.replicate l.length 0)]),(30,own v 3 1 nE acc)] _
 have hlen:acc.length=k:=by rw[hI0];simp
 refine sq (rg (bi J J aZ (nl (th (sq ?_)))))
 refine cd J (fun hc0=> ?_) (fun hc0=> ?_)
 ·try simp at hc0
  have hkk:k<2^l.length:=by exact_mod_cast hc0
  refine sk (th (sq (bk (sq (rg (mv (ag (nl (th (rg (fP J T.cY (lP J J J T.bF (mv (bsE (enc:=nE) (xs:= [(k:Int)]) (css:= [[int (k:Int)]]) T.cQ ⟨J,J,p1 (φ:=int (k:Int)) J,tV⟩ J J J J (ap (key:=30) (zs:= [(k:Int)]) cB J J J T.cQ (by unfold aN at*;simp;omega) (by unfold aN at*;simp;omega) fun v19=>(fP J T.cY (cK J J J J T.bF J (nl (eb (th (rg (bi J J (aM i6) (mv (nl ?_))))))))))))))))))))))))
  have hN0:(k+1)≤2^l.length:=by
   first|omega|simp_all
  have hN1:(acc++ [(k:Int)])=(List.range (k+1)).map fun(x:Nat)=>(x:Int):=by
   rw[hI0,List.range_succ,List.map_append];rfl
  exact ln (⟨k+1,v19,acc++ [(k:Int)]⟩:Nat × Value × (List Int)) ⟨hN0,hN1⟩ dO ⟨id,id,id,id,id,tV⟩ ⟨rI,rI,rI,tV⟩
 ·try simp at hc0
  have hkk:2^l.length≤k:=by first|exact_mod_cast hc0|exact Nat.le_of_not_lt (by exact_mod_cast hc0)
  refine ex (xt_ (xt_ (xb (th (sq (Oz 3 30 0 J J J J (dr (nh:=5) [0,1,0,4,15,31] T.mixed kR ?_)))))))
  refine st_ J (fun _ _ _ gq kq=>mv' (gq.1.trans J) kq) ?_
  refine st_ J (fun _ _ _ gq kq=>eI (φs:= [sl 1 rE_ l]) (φ:=sl 1 rE_ l) ⟨(gq.1.trans J),tV⟩ (prog.fI _ O) T.rA (fun N hN=>fun h=>bV h) kq) ?_
  refine st_ J (fun _ _ _ gq kq=>lPA (gq.1.trans J) J T.eO J kq) ?_
  refine st_ J (fun _ _ _ gq kq=>bsE (enc:=sE) (xs:= [(⟨acc,List.replicate l.length 0⟩)]) (css:= [[sl 1 nE acc,sl 1 nE (List.replicate l.length 0)]]) T.rP ⟨J,J,pA (cs:= [sl 1 nE acc,sl 1 nE (List.replicate l.length 0)]) (by exact(gq.1.trans J)),tV⟩ J J J J kq) ?_
  refine st_ J (fun _ _ _ gq kq=>bd (css:= [(0,_),(1,_)]) T.uB (eC (eC eZ)) ⟨J,J,p1 (φ:=sl 1 rE_ l) (by exact(gq.1.trans J)),⟨J,J,p1 (φ:=sl 2 sE [(⟨acc,List.replicate l.length 0⟩)]) (by exact(gq.2.1.trans J)),tV⟩⟩ kq) ?_
  refine pn (sPA (cs':= [sl 1 rE_ l,sl 2 sE [(⟨acc,List.replicate l.length 0⟩)]]) J J J T.bA J J (nl (th (rt ?_))))
  have hr0:l=(qG l).aC:=by
   rfl
  have hr1: [(⟨acc,List.replicate l.length 0⟩)]=(qG l).sT:=by
   unfold qG;rw[hI0,show k=2^l.length by omega]
  exact rE () [.cell 2 28] J [agg [sl 1 rE_ l,sl 2 sE [(⟨acc,List.replicate l.length 0⟩)]]] ⟨.agg J J T.bA J J,tV⟩ (cA2 (fun x0 x1=>rV [agg [sl 1 rE_ x0,sl 2 sE x1]]) hr0 hr1) trivial eX
end divv
end
section
open ref01 ref03 ref04 ref06 prog prog2 prog3 prog6 prog13 Part Rungs LeftM TrimM RoundM MergeM BisM BisM4 BisM5 WalkM StepM WitM JudgM JudgM2 refw judg wit refj sysw divr divs divd dive divg divw divv LevM LevM2
namespace divf
end divf
end
section
namespace ChsM
open ref01 ref03 divs divf
end ChsM
end
section
open ref01 ref03 ref04 ref06 Part Rungs LeftM TrimM
namespace ValidM
theorem Dq {u n:Nat} (h:∀a,u.testBit a=true→a<n):u<2^n:=
 Nat.lt_pow_two_of_testBit u (fun i hi=>by
  cases hb:u.testBit i with
  |false=>rfl
  |true=>exact absurd (h i hb) O)
theorem KI {x:SA} {N n:Nat} (h:okState x N n):iK x (N:Int) n=true:=by
 unfold iK
 simp only [Bool.and_eq_true,decide_eq_true_eq]
 refine⟨⟨⟨by rw[h.len],h.rise⟩,List.all_eq_true.2 (fun j hj=> ?_)⟩,List.all_eq_true.2 (fun u hu=> ?_)⟩
 ·obtain⟨a,ha,rfl⟩:=mD hj
  have:=h.nx a (by rw[←h.len];exact ha)
  simp;omega
 ·obtain⟨i,hi,rfl⟩:=mD hu
  have h1:=h.ac i hi
  have h2:=h.go i hi
  unfold jH
  rw[Bool.and_eq_true]
  constructor
  ·unfold fR
   have:(ix x.aP i).toNat<2^n:=Dq (fun a ha=>(h2 a (by unfold has;rw[Int.toNat_natCast];exact ha)).1)
   simp only [Bool.and_eq_true,decide_eq_true_eq,Int.toNat_natCast]
   omega
  ·refine List.all_eq_true.2 (fun a ha=> ?_)
   obtain⟨b,rfl,hb,hh⟩:=dZ.1 ha
   have:=(h2 b hh).2
   rw[Int.toNat_natCast];simpa using this
theorem MQ {s:SS} (h:oK s) (h5:s.sT.length≤500):cC s=true:=by
 unfold cC
 simp only [Bool.and_eq_true,decide_eq_true_eq]
 exact⟨⟨⟨h.acts,h.few0⟩,h5⟩,List.all_eq_true.2 (fun x hx=>by
  obtain⟨k,hk,rfl⟩:=List.getElem_of_mem hx
  have:=KI (h.st k hk)
  rwa [aG hk] at this)⟩
theorem KJ {s:SS} (h:cC s=true):s.sT.length≤500:=by
 unfold cC at h
 simp only [Bool.and_eq_true,decide_eq_true_eq] at h
 exact h.1.2
end ValidM
end
section
namespace TrimI
open ref01 ref03 ref04 ref06 Part Rungs LeftM TrimM RoundM MergeM BisM BisM2 BisM3 BisM4 BisM5 BisM6 divr divd
theorem AJ:∀m,visit [] (rg m)=rg m
 |0=>rfl
 |m+1=>by rw[SH,tP,AJ m,wE O (fun h=>by have:=(Vs.1 h).2;omega)]
theorem Jp {s:SS} {m:Nat} (hm:m≤(aJ s).length):((aJ s).take m).map (dN (aJ s))=rg m:=by
 apply List.ext_getElem
 ·simp[BisM3.rg];omega
 ·intro i h1 h2
  simp only [List.length_map,List.length_take] at h1
  rw[List.getElem_map,List.getElem_take]
  have hi:i<(aJ s).length:=by omega
  have:=IW (uE (aQ s)) hi
  rw[aG hi] at this
  rw[←aG h2,EX O]
  exact this
theorem Ti {s:SS} (hs:oK s) {i:Nat} (hi:i<(aJ s).length):((ix (aQ s).sT (ix (aJ s) i).toNat).next.map fun k=>if 0≤k then dN (aJ s) k else k)=(ix (tS s).sT i).next:=by
 have hbd:=gW hs hi
 have hx:(ix (aJ s) i).toNat<s.sT.length:=by omega
 have hl:=(hs.st _ hx).len
 rw[mM hi,fW hx]
 show(cut (ix s.sT _) (aV (keep s _))).map _=iQ s _
 unfold cut iQ
 rw[List.map_map,hl]
 refine List.map_congr_left (fun a ha=> ?_)
 show(if 0≤(if _ then _ else _:Int) then dN _ (if _ then _ else _) else(if _ then _ else _))=(if _ then _ else _)
 by_cases hh:has (aV (keep s (ix (aJ s) i).toNat)) (a:Int)=true
 ·rw[if_pos hh]
  have hg:=kS hs hx hh
  rw[if_pos hg.2.1,if_pos hh]
 ·rw[if_neg hh,if_neg hh];rfl
theorem VN {s:SS} (hs:oK s) {i:Nat} (hi:i<(aJ s).length):rg (qn s (i+1))=visit (rg (qn s i)) (ix (tS s).sT i).next:=by
 have hol:=nZ hs
 have hgt:=Rz hs hi
 have hix:ix (bq (aQ s) i) i=ix (aJ s) i:=(nH (mU hs (i:=i) O) hgt).symm
 have hstep:bq (aQ s) (i+1)=visit (bq (aQ s) i) (ix (aQ s).sT (ix (aJ s) i).toNat).next:=by
  show(if i<(bq (aQ s) i).length then _ else _)=_
  rw[if_pos hgt,hix]
 rw[←AJ (qn s (i+1)),←AJ (qn s i),←Jp (Ry hs (i:=i+1) O),←Jp (Ry hs (i:=i) O),←Jb hs (i:=i+1) O,←Jb hs (i:=i) O,hstep,
  Ac (g:=dN (aJ s)) (fun k=>(fZ _ k).1),Ti hs hi]
theorem VO {s:SS} (hs:oK s):∀i,i≤(aJ s).length→bq (tS s) i=rg (qn s i)
 |0,_=>rfl
 |i+1,hi=>by
  have ih:=VO hs i O
  have hgt:=Rz hs (i:=i) O
  show(if i<(bq (tS s) i).length then _ else _)=_
  rw[ih,yD,if_pos hgt,EX hgt,Int.toNat_natCast,VN hs O]
theorem Jq {s:SS} (hs:oK s):order (tS s)=rg (aJ s).length:=by
 have hol:=nZ hs
 have e:bq (aQ s) (aJ s).length=aJ s:=by
  refine Ca hs ?_ hol
  exact(mU hs hol).length_le
 unfold order
 rw[kA,VO hs _ (Nat.le_refl _)]
 show rg (bq (aQ s) (aJ s).length).length=_
 rw[e]
theorem Xv {s:SS} (hs:oK s) (h0:ix (hOl s) 0=false):tS (tS s)=tS s:=by
 have ho:aJ (tS s)=rg (aJ s).length:=by
  show order (aQ (tS s))=_
  rw[FZ hs h0,Jq hs]
 have hT:=Rw hs
 show(⟨s.aC,(aJ (tS s)).map (fM (tS s))⟩:SS)=⟨s.aC,(aJ s).map (fM s)⟩
 congr 1
 rw[ho]
 apply List.ext_getElem
 ·simp[BisM3.rg]
 ·intro i h1 h2
  simp only [List.length_map,yD] at h1
  have hi:i<(aJ s).length:=h1
  have e1:(rg (aJ s).length)[i]'(by rw[yD];exact h1)=(i:Int):=by rw[←aG (by rw[yD];exact h1)];exact EX h1
  rw[List.getElem_map,e1]
  have e2:(List.map (fM s) (aJ s))[i]=ix (tS s).sT i:=(aG (by rw[kA];exact hi)).symm
  rw[e2]
  have hk:=Ja hs h0 hi
  unfold fM iQ
  rw[Int.toNat_natCast,hk,ho]
  have e3:ix (tS s).sT i=⟨keep s (ix (aJ s) i).toNat,iQ s (ix (aJ s) i)⟩:=mM hi
  rw[e3]
  congr 1
  unfold iQ
  refine List.map_congr_left fun a ha=> ?_
  have ha:a<s.aC.length:=List.mem_range.1 ha
  by_cases hh:has (aV (keep s (ix (aJ s) i).toNat)) (a:Int)=true
  ·rw[if_pos hh,if_pos hh,cG ha,if_pos hh]
   obtain⟨p1,_⟩:=kD (oC hs hi hh)
   have p0:=(fZ (aJ s) (ix (ix s.sT (ix (aJ s) i).toNat).next a)).1
   have hnd:(rg (aJ s).length).Nodup:=by
    have:=uE (tS s)
    rwa [Jq hs] at this
   have hq:=IW hnd (i:=(dN (aJ s) (ix (ix s.sT (ix (aJ s) i).toNat).next a)).toNat) (by rw[yD];omega)
   rw[EX O,Int.toNat_of_nonneg p0] at hq
   exact hq
  ·rw[if_neg hh,if_neg hh]
theorem MR {s:SS} (hs:oK s):(tR (tR s).1).1=(tR s).1:=by
 cases h:ix (hOl s) 0 with
 |true=>rw[fB h];show(tR (nothing s.aC)).1=_;rw[fB (uY _)];rfl
 |false=>
  rw[dC h]
  show(tR (tS s)).1=tS s
  rw[dC (yC hs h 0)]
  exact Xv hs h
theorem pI {s:SS} (hs:oK s):Sim2 (aQ (tR s).1) (aQ s) 0 0:=by
 cases h:ix (hOl s) 0 with
 |true=>
  rw[fB h]
  have f:=hs.few0
  have g:=(wF hs.acts).few0
  exact Jc (wF hs.acts) hs rfl O O (uY _) h
 |false=>
  rw[dC h]
  have hop:=kT s
  have:=Vr hs h (i:=0) O
  show Sim2 (aQ (tS s)) (aQ s) 0 0
  rw[FZ hs h]
  rw[rX] at this
  exact this
theorem Gt {s:SS} (hs:oK s):rZ s s:=((zF hs hs rfl).2 (Pg _ _)).1
theorem PM {s d:SS} (hs:oK s) (hd:oK d) (ha:s.aC=d.aC) (h:rZ s d∧rZ d s):rZ (tR s).1 d∧rZ d (tR s).1:=
 (zF (nN hs) hd ((qI s).trans ha)).2 ((pI hs).trans ((zF hs hd ha).1 h))
theorem AK {s:SS} (hs:oK s):(tR s).1.sT.length≤s.sT.length:=by
 cases h:ix (hOl s) 0 with
 |true=>rw[fB h];have:=hs.few0;show 1≤_;omega
 |false=>rw[dC h];show((aJ s).map _).length≤_;rw[List.length_map];exact nZ hs
end TrimI
end
section
namespace QuoM
open ref01 ref03 ref04 ref06 Part Rungs LeftM TrimM RoundM MergeM BisM BisM4 BisM5 WitM JudgM LevM divr divs divd divf ChsM BisS TrimI
section
variable {α:Type} [DecidableEq α] [Inhabited α]
def eS (l:List α) (p:α):List α:=if p∈l then l else l++ [p]
def jS (A:α→List Int) (N:α→Nat→α) (p:α) (ks:List Int) (l:List α):List α:=ks.foldl (fun l a=>eS l (N p a.toNat)) l
def dQ (A:α→List Int) (p:α):List Int:=aL 63 (aV (A p))
def jR (A:α→List Int) (N:α→Nat→α) (l:List α) (p:α):List α:=jS A N p (dQ A p) l
def iU (A:α→List Int) (N:α→Nat→α):Nat→Nat→List α→List α
 |0,_,l=>l
 |f+1,i,l=>if i<l.length then iU A N f (i+1) (jR A N l (ix l i)) else l
theorem uI (l:List α) (p:α):l<+:eS l p:=by
 unfold eS
 split
 ·exact List.prefix_rfl
 ·exact List.prefix_append _ _
theorem AO (l:List α) (p:α):p∈eS l p:=by
 unfold eS
 split
 ·assumption
 ·simp
theorem iJ (A:α→List Int) (N:α→Nat→α) (p:α):∀(ks:List Int) (l:List α),l<+:jS A N p ks l
 | [],l=>List.prefix_rfl
 |a::ks,l=>(uI l _).trans (iJ A N p ks _)
theorem MS (A:α→List Int) (N:α→Nat→α) (p:α) (ks:List Int) (a:Int) (l:List α):jS A N p (ks++ [a]) l=eS (jS A N p ks l) (N p a.toNat):=by
 unfold jS;rw[List.foldl_append];rfl
theorem Gu (A:α→List Int) (N:α→Nat→α) (p:α):∀(ks:List Int) (l:List α) (a:Int),a∈ks→N p a.toNat∈jS A N p ks l
 | [],l,a,h=>nomatch h
 |b::ks,l,a,h=>by
  rcases List.mem_cons.1 h with rfl|h
  ·exact(iJ A N p ks _).subset (AO l _)
  ·exact Gu A N p ks _ a h
theorem Cv (A:α→List Int) (N:α→Nat→α):∀(f i:Nat) (l:List α),l<+:iU A N f i l
 |0,i,l=>List.prefix_rfl
 |f+1,i,l=>by
  unfold iU
  split
  ·exact(iJ A N _ _ l).trans (Cv A N f (i+1) _)
  ·exact List.prefix_rfl
structure sK (A:α→List Int) (N:α→Nat→α) (ok:α→Prop) (z:α) (i:Nat) (l:List α):Prop where
 nd:l.Nodup
 ne:0<l.length
 hd:ix l 0=z
 ok:∀p∈l,ok p
 dn:∀j,j<i→j<l.length→∀a∈dQ A (ix l j),N (ix l j) a.toNat∈l
theorem sL {l m:List α} (h:l<+:m) {j:Nat} (hj:j<l.length):ix m j=ix l j:=by
 obtain⟨t,rfl⟩:=h
 unfold ix
 rw[List.getD_eq_getElem?_getD,List.getD_eq_getElem?_getD,List.getElem?_append_left hj]
theorem Dr {l:List α} {p:α} (h:l.Nodup):(eS l p).Nodup:=by
 unfold eS
 split
 ·exact h
 ·next g=>
  rw[List.nodup_append]
  refine⟨h,by simp,fun a ha b hb e=> ?_⟩
  rw[List.mem_singleton.1 hb] at e
  subst e;exact g ha
theorem Jr {l:List α} {p q:α} (h:q∈eS l p):q∈l∨q=p:=by
 unfold eS at h
 split at h
 ·exact .inl h
 ·rcases List.mem_append.1 h with h|h
  ·exact .inl h
  ·exact .inr (List.mem_singleton.1 h)
theorem Js (A:α→List Int) (N:α→Nat→α) (p:α):∀(ks:List Int) (l:List α),l.Nodup→(jS A N p ks l).Nodup
 | [],l,h=>h
 |a::ks,l,h=>Js A N p ks _ (Dr h)
theorem Jt (A:α→List Int) (N:α→Nat→α) (p:α):∀(ks:List Int) (l:List α) (q:α),q∈jS A N p ks l→q∈l∨∃a∈ks,q=N p a.toNat
 | [],l,q,h=> .inl h
 |a::ks,l,q,h=>by
  rcases Jt A N p ks _ q h with h|⟨b,hb,e⟩
  ·rcases Jr h with h|h
   ·exact .inl h
   ·exact .inr ⟨a,List.mem_cons_self,h⟩
  ·exact .inr ⟨b,List.mem_cons_of_mem _ hb,e⟩
variable {A:α→List Int} {N:α→Nat→α} {ok:α→Prop} {z:α}
theorem MU (hok:∀p,ok p→∀a∈dQ A p,ok (N p a.toNat)) {i:Nat} {l:List α} (h:sK A N ok z i l) (hi:i<l.length):sK A N ok z (i+1) (jR A N l (ix l i)):=by
 have hp:=iJ A N (ix l i) (dQ A (ix l i)) l
 refine⟨Js A N _ _ l h.nd,Nat.lt_of_lt_of_le h.ne hp.length_le,(sL hp h.ne).trans h.hd,fun p hq=> ?_,fun j hj hl a ha=> ?_⟩
 ·rcases Jt A N _ _ l p hq with g|⟨a,ha,rfl⟩
  ·exact h.ok p g
  ·exact hok _ (h.ok _ (aO hi)) a ha
 ·have hjl:j<l.length:=by omega
  have e:ix (jR A N l (ix l i)) j=ix l j:=sL hp hjl
  rw[e] at ha ⊢
  by_cases g:j<i
  ·exact hp.subset (h.dn j g hjl a ha)
  ·have:j=i:=by omega
   subst this
   exact Gu A N _ _ l a ha
theorem Gv (hok:∀p,ok p→∀a∈dQ A p,ok (N p a.toNat)):∀(f i:Nat) (l:List α),i≤l.length→sK A N ok z i l→∃j,j≤(iU A N f i l).length∧sK A N ok z j (iU A N f i l)∧(j=(iU A N f i l).length∨j=i+f)
 |0,i,l,hi,h=>⟨i,hi,h,.inr O⟩
 |f+1,i,l,hi,h=>by
  unfold iU
  split
  ·next g=>
   have hp:=iJ A N (ix l i) (dQ A (ix l i)) l
   obtain⟨j,h1,h2,h3⟩:=Gv hok f (i+1) _ (by have:=hp.length_le;show _≤(jR A N l (ix l i)).length;unfold jR;omega) (MU hok h g)
   exact⟨j,h1,h2,O⟩
  ·next g=>exact⟨i,hi,h,.inl O⟩
theorem PO (hok:∀p,ok p→∀a∈dQ A p,ok (N p a.toNat)) {B:Nat} (hB:∀l:List α,l.Nodup→(∀p∈l,ok p)→l.length≤B) {l:List α} (h:sK A N ok z 0 l) {f:Nat} (hf:B≤f):sK A N ok z (iU A N f 0 l).length (iU A N f 0 l):=by
 obtain⟨j,h1,h2,h3⟩:=Gv hok f 0 l O h
 have:=hB _ h2.nd h2.ok
 have e:j=(iU A N f 0 l).length:=by omega
 rwa [e] at h2
def ofL (A:α→List Int) (N:α→Nat→α) (n:Nat) (L:List α) (p:α):SA:=⟨A p,(List.range n).map fun(a:Nat)=>if has (aV (A p)) (a:Int)=true then(L.idxOf (N p a):Int) else-1⟩
theorem Tj (hn:∀p,ok p→∀a:Nat,has (aV (A p)) (a:Int)=true→a<63) {n:Nat} {L:List α} (h:sK A N ok z L.length L) (acts:List ByteArray):yH A N n z L ⟨acts,L.map (ofL A N n L)⟩:=by
 have hat:∀i,i<L.length→ix (L.map (ofL A N n L)) i=ofL A N n L (ix L i):=fun i hi=>TurnM.zE hi
 refine⟨by simp,h.nd,h.ne,h.hd,fun i hi=> ?_,fun i hi=> ?_,fun i hi a ha=> ?_,fun i hi a ha hh=> ?_⟩
 ·show(ix (L.map (ofL A N n L)) i).aP=_
  rw[hat i hi];rfl
 ·show(ix (L.map (ofL A N n L)) i).next.length=_
  rw[hat i hi];simp[ofL]
 ·show ix (ix (L.map (ofL A N n L)) i).next a=_
  rw[hat i hi]
  exact cG ha
 ·have:=h.dn i hi hi (a:Int) (dZ.2 ⟨a,rfl,hn _ (h.ok _ (aO hi)) a hh,hh⟩)
  rwa [Int.toNat_natCast] at this
theorem Tk {n:Nat} {L:List α} {D:SS} (hD:yH A N n z L D) (hact:cZ D.aC=true) (hn:D.aC.length=n) (hl:L.length≤10000) (hb:∀p∈L,∀u∈A p,0≤u∧u<256) (hg:∀p∈L,∀a:Nat,has (aV (A p)) (a:Int)=true→a<n) (hr:∀p∈L,rising (A p)=true):oK D:=by
 have n8:=iX hact
 refine⟨hact,n8,by rw[hD.len];exact hD.ne,by rw[hD.len];exact hl,fun k hk=> ?_⟩
 rw[hD.len] at hk
 have hm:ix L k∈L:=aO hk
 have ea:(ix D.sT k).aP=A (ix L k):=hD.acc k hk
 have en:(ix D.sT k).next.length=n:=hD.nl k hk
 have ex:∀a,a<n→ix (ix D.sT k).next a=if has (aV (A (ix L k))) (a:Int)=true then(L.idxOf (N (ix L k) a):Int) else-1:=hD.nx k hk
 refine⟨by rw[en,hn],fun a ha=> ?_,fun i hi=> ?_,fun i hi a ha=> ?_,by rw[ea];exact hr _ hm⟩
 ·rw[ex a O]
  by_cases hh:has (aV (A (ix L k))) (a:Int)=true
  ·rw[if_pos hh]
   have:=List.idxOf_lt_length_of_mem (hD.cl k hk a O hh)
   rw[hD.len];omega
  ·rw[if_neg hh];omega
 ·rw[ea] at hi ⊢
  exact hb _ hm _ (aO hi)
 ·rw[ea] at hi ha
  have hh:has (aV (A (ix L k))) (a:Int)=true:=(cO _ _).2 ⟨_,aO hi,ha⟩
  have:=hg _ hm a hh
  rw[ex a this,if_pos hh]
  omega
end
abbrev pix (l:List PP) (p:PP):Nat:= @List.idxOf PP instBEqOfDecidableEq p l
theorem yI {α:Type} [DecidableEq α] {l:List α} {p:α} (h:p∈l):l.idxOf p<l.length:=List.idxOf_lt_length_of_mem h
theorem vD {α:Type} [DecidableEq α] [Inhabited α] {l:List α} {p:α} (h:p∈l):ix l (l.idxOf p)=p:=by rw[aG (yI h)];exact List.getElem_idxOf _
theorem Tl {α:Type} [DecidableEq α] {l r:List α} {p:α} (h:p∈l):(l++r).idxOf p=l.idxOf p:=by rw[List.idxOf_append,if_pos h]
theorem Tm {α:Type} [DecidableEq α] {l:List α} {p:α} (h:p∉l):(l++ [p]).idxOf p=l.length:=by rw[List.idxOf_append,if_neg h];simp
theorem MV {α:Type} [DecidableEq α] [Inhabited α] {l:List α} {p:α} {k:Nat} (hk:k<l.length) (h:ix l k=p):l.idxOf p≤k:=by
 rcases Nat.lt_or_ge k (l.idxOf p) with g|g
 ·have hf:=List.not_of_lt_findIdx (p:=(· ==p)) (xs:=l) (i:=k) (by unfold List.idxOf at g;exact g)
  rw[aG hk] at h
  simp[h] at hf
 ·exact g
def bes:PP:=(-1,-1)
def cH (n:Nat):List Int:=(List.range (2^n)).map fun(x:Nat)=>(x:Int)
def qA (t s:SS) (p:PP):List Int:=if p=bes then cH t.aC.length else(cH t.aC.length).filter (Xt (ix t.sT p.1.toNat) (ix s.sT p.2.toNat))
def qN (t s:SS) (p:PP) (a:Nat):PP:=if p≠bes∧0≤ix (nxt s p.2.toNat) a then(ix (nxt t p.1.toNat) a,ix (nxt s p.2.toNat) a) else bes
def qOk (t s:SS) (p:PP):Prop:=p=bes∨(0≤p.1∧p.1<(t.sT.length:Int)∧0≤p.2∧p.2<(s.sT.length:Int))
theorem wQ {n:Nat} {u:Int}:u∈cH n↔0≤u∧u<((2^n:Nat):Int):=by
 unfold cH
 rw[List.mem_map]
 constructor
 ·rintro⟨k,hk,rfl⟩
  have:=List.mem_range.1 hk
  omega
 ·rintro⟨h0,h1⟩
  exact⟨u.toNat,List.mem_range.2 O,O⟩
theorem MW (n:Nat):(cH n).Pairwise (· < ·):=by
 unfold cH
 rw[List.pairwise_map]
 exact List.pairwise_lt_range.imp fun h=>by omega
theorem Tn {n:Nat} {u:Int} (h:u∈cH n) {a:Nat} (ha:has u (a:Int)=true):a<n:=by
 have hu:=wQ.1 h
 unfold has at ha
 rw[Int.toNat_natCast] at ha
 have h7:2^a≤u.toNat:=Nat.ge_two_pow_of_testBit ha
 exact(Nat.pow_lt_pow_iff_right (a:=2) O).1 O
theorem oV {u o:Int} {a:Nat}:has (bS u o) (a:Int)=(has u (a:Int)&&has o (a:Int)):=by
 unfold has bS
 rw[Int.toNat_natCast,Int.toNat_natCast,Nat.testBit_and]
def qL (t s:SS):List PP:=iU (qA t s) (qN t s) (t.sT.length*s.sT.length+1) 0 [(0,0)]
def Yh (t s:SS):SS:=⟨t.aC,(qL t s).map (ofL (qA t s) (qN t s) t.aC.length (qL t s))⟩
end QuoM
end
section
namespace FailM
open ref01 ref03 ref04 ref06 prog15 starts Part Rungs LeftM TrimM RoundM BisM BisM5 BisM6 WalkM StepM WitM JudgM LevM divs QuoM
abbrev T3:=Int × Int × Int
structure M5 where
 x:Int
 t:Int
 s:Int
 before:Int
 action:Int
deriving Inhabited,DecidableEq
def tri (m:M5):T3:=(m.x,m.t,m.s)
def jJ (m:M5):Mt:=⟨m.s,m.t,m.before,m.action⟩
def lT (mm:List (T3 × Bool)) (l:List T3):Prop:=∀p,bJ mm p=if p∈l then some true else none
theorem Ey {mm:List (T3 × Bool)} {l:List T3} (h:lT mm l) (p:T3):(bJ mm p).getD false=decide (p∈l):=by
 rw[h p]
 by_cases hp:p∈l
 ·rw[if_pos hp,decide_eq_true hp];rfl
 ·rw[if_neg hp,decide_eq_false hp];rfl
theorem Cw {mm:List (T3 × Bool)} {l:List T3} (h:lT mm l) (k:T3):lT (bQ mm k true) (l++ [k]):=by
 intro p
 rw[kO,h p]
 by_cases e:k=p
 ·rw[if_pos e,if_pos (by rw[e];simp)]
 ·rw[if_neg e]
  have:p∈l++ [k]↔p∈l:=by
   rw[List.mem_append]
   exact⟨fun h=>h.resolve_right (fun h=>e (List.mem_singleton.1 h).symm),.inl⟩
  by_cases hp:p∈l
  ·rw[if_pos hp,if_pos (this.2 hp)]
  ·rw[if_neg hp,if_neg (fun h=>hp (this.1 h))]
theorem KL:lT (bQ ([]:List (T3 × Bool)) (0,0,0) true) [(0,0,0)]:=Cw (l:= []) (fun p=>by rw[if_neg (by simp)];rfl) (0,0,0)
def wR (x:aA) (t s:SS) (p:T3):Prop:=∃o∈acc s p.2.2.toNat,bS (bR x p.1.toNat) o∉acc t p.2.1.toNat
def nx3 (t s:SS) (p:T3) (e:PP):T3:=(e.2,ix (nxt t p.2.1.toNat) e.1.toNat,ix (nxt s p.2.2.toNat) e.1.toNat)
inductive yJ (x:aA) (t s:SS):T3→Prop
 |zero:yJ x t s (0,0,0)
 |step {p:T3} {e:PP}:yJ x t s p→¬wR x t s p→e∈edg x p.1.toNat→0≤ix (nxt s p.2.2.toNat) e.1.toNat→yJ x t s (nx3 t s p e)
def zQ (x:aA) (t s:SS):Prop:=∀p,yJ x t s p→¬wR x t s p
def KM (x:aA) (t s:SS) (p:T3):Prop:=0≤p.1∧p.1<(x.sT.length:Int)∧0≤p.2.1∧p.2.1<(t.sT.length:Int)∧0≤p.2.2∧p.2.2<(s.sT.length:Int)
variable {x:aA} {t s:SS}
theorem go3 (hx:bC x) (ht:oK t) (hs:oK s) (hu:AH s) {p:T3} (hp:KM x t s p) (hb:¬wR x t s p) {e:PP} (he:e∈edg x p.1.toNat) (h0:0≤ix (nxt s p.2.2.toNat) e.1.toNat) (ha:x.aC.length=s.aC.length):KM x t s (nx3 t s p e):=by
 obtain⟨p0,p1,p2,p3,p4,p5⟩:=hp
 have hed:=hx.ed p.1.toNat O e he
 have hz:p.2.2.toNat<s.sT.length:=by omega
 have hy:p.2.1.toNat<t.sT.length:=by omega
 obtain⟨o,ho1,ho2⟩:=(cO _ _).1 ((hu _ hz e.1.toNat O).1 h0)
 have hin:bS (bR x p.1.toNat) o∈acc t p.2.1.toNat:=Classical.byContradiction fun hn=>hb ⟨o,ho1,hn⟩
 have hg:=LeftM.FX (ht.st _ hy) hin (a:=e.1.toNat) (by rw[QuoM.oV,ho2,gQ.2 ⟨e,he,rfl⟩];rfl)
 exact⟨hed.2.2.1,hed.2.2.2,hg.2,((ht.st _ hy).nx _ hg.1).2,h0,((hs.st _ hz).nx _ O).2⟩
theorem MX (hx:bC x) (ht:oK t) (hs:oK s):KM x t s (0,0,0):=by
 have f1:=hx.few0
 have f2:=ht.few0
 have f3:=hs.few0
 exact⟨by simp,by show(0:Int)<_;omega,by simp,by show(0:Int)<_;omega,by simp,by show(0:Int)<_;omega⟩
theorem AP (hx:bC x) (ht:oK t) (hs:oK s) (hu:AH s) (ha:x.aC.length=s.aC.length) {p:T3} (h:yJ x t s p):KM x t s p:=by
 induction h with
 |zero=>exact MX hx ht hs
 |step h1 h2 h3 h4 ih=>exact go3 hx ht hs hu ih h2 h3 h4 ha
structure QF (x:aA) (t s:SS) (q:List M5):Prop where
 ne:0<q.length
 hd:ix q 0=⟨0,0,0,-1,0⟩
 nd:(q.map tri).Nodup
 rch:∀m∈q,yJ x t s (tri m)
 back:∀k,0<k→k<q.length→∃(b:Nat) (e:PP),(ix q k).before=(b:Int)∧(ix q k).action=e.1∧b<k∧¬wR x t s (tri (ix q b))∧e∈edg x (ix q b).x.toNat∧0≤ix (nxt s (ix q b).s.toNat) e.1.toNat∧tri (ix q k)=nx3 t s (tri (ix q b)) e
def mO (x:aA) (t s:SS) (q:List M5) (k:Nat):Prop:=
 ¬wR x t s (tri (ix q k))∧∀e∈edg x (ix q k).x.toNat,0≤ix (nxt s (ix q k).s.toNat) e.1.toNat→nx3 t s (tri (ix q k)) e∈q.map tri
theorem pJ {l m:List M5} {j:Nat} (h:j<l.length):ix (l++m) j=ix l j:=by
 rw[aG (by simp;omega),aG h,List.getElem_append_left h]
theorem PR {l:List M5} {x:M5}:ix (l++ [x]) l.length=x:=by
 rw[aG (by simp)];simp
theorem Ju {q r:List M5} {k:Nat} (h:q<+:r) (hk:k<q.length):ix r k=ix q k:=by
 obtain⟨u,rfl⟩:=h
 exact pJ hk
theorem Tp:QF x t s [⟨0,0,0,-1,0⟩]:=by
 refine⟨by simp,rfl,by simp,fun m hm=> ?_,fun k h1 h2=>by simp at h2;omega⟩
 rw[List.mem_singleton.1 hm];exact .zero
theorem Tq {q:List M5} (h:QF x t s q) {i:Nat} (hi:i<q.length) (hb:¬wR x t s (tri (ix q i))) {e:PP} (he:e∈edg x (ix q i).x.toNat) (h0:0≤ix (nxt s (ix q i).s.toNat) e.1.toNat) {m:M5} (h1:tri m=nx3 t s (tri (ix q i)) e) (h2:m.before=(i:Int)) (h3:m.action=e.1)
 (hn:tri m∉q.map tri):QF x t s (q++ [m]):=by
 refine⟨by simp,by rw[pJ h.ne];exact h.hd,?_,fun k hk=> ?_,fun k k0 hk=> ?_⟩
 ·rw[List.map_append,List.nodup_append]
  refine⟨h.nd,by simp,fun p hp p' hp' e=>hn ?_⟩
  have:p'=tri m:=List.mem_singleton.1 hp'
  rw[←this,←e];exact hp
 ·rcases List.mem_append.1 hk with g|g
  ·exact h.rch k g
  ·rw[List.mem_singleton.1 g,h1]
   exact .step (h.rch _ (aO hi)) hb he h0
 ·simp at hk
  by_cases g:k=q.length
  ·subst g
   refine⟨i,e,?_⟩
   rw[PR,pJ hi]
   exact⟨h2,h3,hi,hb,he,h0,h1⟩
  ·obtain⟨b,a',p1,p2,p3,p4⟩:=h.back k k0 O
   refine⟨b,a',?_⟩
   rw[pJ O,pJ O]
   exact⟨p1,p2,p3,p4⟩
theorem KN {q:List M5} {m:M5} {k:Nat} (hk:k<q.length) (h:mO x t s q k):mO x t s (q++ [m]) k:=by
 unfold mO
 rw[pJ hk]
 exact⟨h.1,fun e he h0=>by rw[List.map_append];exact List.mem_append_left _ (h.2 e he h0)⟩
theorem ER (a b c:Nat) (l:List T3) (hnd:l.Nodup) (hb:∀p∈l,0≤p.1∧p.1<(a:Int)∧0≤p.2.1∧p.2.1<(b:Int)∧0≤p.2.2∧p.2.2<(c:Int)):l.length≤a*(b*c):=by
 have hf:∀p∈l,0≤p.1∧p.1<(a:Int)∧0≤((p.2.1.toNat*c+p.2.2.toNat:Nat):Int)∧((p.2.1.toNat*c+p.2.2.toNat:Nat):Int)<((b*c:Nat):Int):=fun p hp=>by
  have:=hb p hp
  have h2:(p.2.1.toNat+1)*c≤b*c:=Nat.mul_le_mul_right c O
  rw[Nat.add_mul] at h2
  omega
 have h1:=pW a (b*c) (l.map fun p=>(p.1,((p.2.1.toNat*c+p.2.2.toNat:Nat):Int))) ?_ (fun p hp=>by
  obtain⟨p',hp',rfl⟩:=List.mem_map.1 hp
  exact hf p' hp')
 ·simpa using h1
 ·rw[List.nodup_iff_pairwise_ne,List.pairwise_map]
  refine List.Pairwise.imp_of_mem ?_ hnd
  intro u v hu hv hne e
  have b1:=hb u hu
  have b2:=hb v hv
  simp only [Prod.mk.injEq] at e
  have hc:0<c:=by omega
  have e0:u.2.1.toNat*c+u.2.2.toNat=v.2.1.toNat*c+v.2.2.toNat:=by omega
  have e1:u.2.1.toNat=v.2.1.toNat:=by
   have:=congrArg (· /c) e0
   simp only [Nat.mul_comm _ c] at this
   rw[Nat.mul_add_div hc,Nat.mul_add_div hc,Nat.div_eq_of_lt O,Nat.div_eq_of_lt O] at this
   omega
  have e2:u.2.2.toNat=v.2.2.toNat:=by rw[e1] at e0;omega
  exact hne (Prod.ext e.1 (Prod.ext O O))
theorem Gw (hx:bC x) (ht:oK t) (hs:oK s) (hu:AH s) (ha:x.aC.length=s.aC.length) {q:List M5} (h:QF x t s q):q.length≤x.sT.length*(t.sT.length*s.sT.length):=by
 have:=ER x.sT.length t.sT.length s.sT.length (q.map tri) h.nd (fun p hp=>by
  obtain⟨m,hm,rfl⟩:=List.mem_map.1 hp
  exact AP hx ht hs hu ha (h.rch m hm))
 simpa using this
structure sM (x:aA) (t s:SS) (q:List M5) (i k:Nat) (q2:List M5) (mm2:List (T3 × Bool)):Prop where
 qi:QF x t s q2
 sm:lT mm2 (q2.map tri)
 pre:q<+:q2
 dn:∀j,j<i→mO x t s q2 j
 al:∀e∈(edg x (ix q i).x.toNat).take k,0≤ix (nxt s (ix q i).s.toNat) e.1.toNat→nx3 t s (tri (ix q i)) e∈q2.map tri
variable {q q2:List M5} {i k:Nat} {mm mm2:List (T3 × Bool)}
theorem MY (h:QF x t s q) (hm:lT mm (q.map tri)) (hd:∀j,j<i→mO x t s q j):sM x t s q i 0 q mm:=⟨h,hm,List.prefix_rfl,hd,fun e he=>by simp at he⟩
theorem MZ (h:sM x t s q i k q2 mm2) (hi:i<q.length) (hb:¬wR x t s (tri (ix q i))) (hk:k<(edg x (ix q i).x.toNat).length) {e:PP} (he:ix (edg x (ix q i).x.toNat) k=e)
 (h0:0≤ix (nxt s (ix q i).s.toNat) e.1.toNat) (hn:(bJ mm2 (nx3 t s (tri (ix q i)) e)).getD false=false):
 sM x t s q i (k+1) (q2++ [⟨e.2,ix (nxt t (ix q i).t.toNat) e.1.toNat,ix (nxt s (ix q i).s.toNat) e.1.toNat,(i:Int),e.1⟩]) (bQ mm2 (nx3 t s (tri (ix q i)) e) true):=by
 have hl:=h.pre.length_le
 have hqi:=Ju h.pre hi
 have hem:e∈edg x (ix q i).x.toNat:=by rw[←he];exact aO hk
 have hn':nx3 t s (tri (ix q i)) e∉q2.map tri:=by
  rw[Ey h.sm] at hn
  simpa using hn
 have hp:=Tq h.qi (i:=i) O (by rw[hqi];exact hb) (e:=e) (by rw[hqi];exact hem) (by rw[hqi];exact h0) (m:=⟨e.2,ix (nxt t (ix q i).t.toNat) e.1.toNat,ix (nxt s (ix q i).s.toNat) e.1.toNat,(i:Int),e.1⟩) (by rw[hqi];rfl) rfl rfl hn'
 refine⟨hp,?_,h.pre.trans (List.prefix_append _ _),fun j hj=>KN O (h.dn j hj),fun b hb=> ?_⟩
 ·rw[List.map_append]
  exact Cw h.sm _
 ·intro hb0
  rw[List.map_append,List.mem_append]
  rw[bN hk,he,List.mem_append] at hb
  rcases hb with h1|h1
  ·exact .inl (h.al b h1 hb0)
  ·have:b=e:=by simpa using h1
   subst this
   exact .inr (List.mem_singleton.2 rfl)
theorem Na (h:sM x t s q i k q2 mm2) (hk:k<(edg x (ix q i).x.toNat).length) {e:PP} (he:ix (edg x (ix q i).x.toNat) k=e)
 (hn:ix (nxt s (ix q i).s.toNat) e.1.toNat<0∨(bJ mm2 (nx3 t s (tri (ix q i)) e)).getD false=true):sM x t s q i (k+1) q2 mm2:=by
 refine⟨h.qi,h.sm,h.pre,h.dn,fun b hb b0=> ?_⟩
 rw[bN hk,he,List.mem_append] at hb
 rcases hb with h1|h1
 ·exact h.al b h1 b0
 ·have:b=e:=by simpa using h1
  subst this
  have hn:=hn.resolve_left O
  rw[Ey h.sm] at hn
  simpa using hn
theorem PS (h:sM x t s q i k q2 mm2) (hi:i<q.length) (hb:¬wR x t s (tri (ix q i))) (hk:(edg x (ix q i).x.toNat).length≤k):
 QF x t s q2∧lT mm2 (q2.map tri)∧i+1≤q2.length∧∀j,j<i+1→mO x t s q2 j:=by
 have hl:=h.pre.length_le
 refine⟨h.qi,h.sm,O,fun j hj=> ?_⟩
 by_cases e:j=i
 ·subst e
  have hqi:=Ju h.pre hi
  have hal:=h.al
  rw[List.take_of_length_le hk] at hal
  unfold mO
  rw[hqi]
  exact⟨hb,hal⟩
 ·exact h.dn j O
theorem Nb (h:QF x t s q) (hd:∀k,k<q.length→mO x t s q k):zQ x t s:=fun p hp=>by
 have hat:∀{p:T3},p∈q.map tri→∃k,k<q.length∧tri (ix q k)=p:=fun {p} hm=>by
  obtain⟨m,hm,e⟩:=List.mem_map.1 hm
  obtain⟨k,hk,rfl⟩:=List.getElem_of_mem hm
  exact⟨k,hk,by rw[aG hk];exact e⟩
 have hin:p∈q.map tri:=by
  induction hp with
  |zero=>
   have:=aO (l:=q) h.ne
   rw[h.hd] at this
   exact List.mem_map.2 ⟨_,this,rfl⟩
  |step h1 h2 h3 h4 ih=>
   obtain⟨k,hk,rfl⟩:=hat ih
   exact(hd k hk).2 _ h3 h4
 obtain⟨k,hk,rfl⟩:=hat hin
 exact(hd k hk).1
theorem zR {k:Nat} (hk:k<q.length):ix (q.map jJ) k=jJ (ix q k):=TurnM.zE hk
theorem Dt (h:QF x t s q):uZ (q.map jJ):=fun k hk h0=>by
 rw[List.length_map] at hk
 rw[zR hk] at h0 ⊢
 show(ix q k).before<_
 have h0:0≤(ix q k).before:=h0
 rcases Nat.eq_zero_or_pos k with e|e
 ·subst e;rw[h.hd] at h0
  have h0:(0:Int)≤ -1:=h0
  omega
 ·obtain⟨b,a,e1,e2,e3,_⟩:=h.back k e hk
  rw[e1];omega
abbrev wS (q:List M5) (k:Nat):List Int:=fX (q.map jJ) k
theorem Tr (hx:bC x) (ht:oK t) (hs:oK s) (hu:AH s) (ha:x.aC.length=s.aC.length) (h:QF x t s q):∀k,k<q.length→Runs s (wS q k) (ix q k).s.toNat∧goS t (wS q k)=(ix q k).t:=by
 intro k
 induction k using Nat.strongRecOn with
 |_ k ih=>
  intro hk
  rcases Nat.eq_zero_or_pos k with e|e
  ·subst e
   have e1:ix (q.map jJ) 0=⟨0,0,-1,0⟩:=by rw[zR hk,h.hd];rfl
   unfold wS
   rw[Ch (by rw[e1];show(-1:Int)<0;omega),h.hd]
   exact⟨.nil,rfl⟩
  ·obtain⟨b,ed,e1,e2,e3,e4,e5,e6,e7⟩:=h.back k e hk
   have g0:ix (q.map jJ) k=jJ (ix q k):=zR hk
   have hw:=Ad (Dt h) (k:=k) (by simpa using hk) (by rw[g0];show 0≤(ix q k).before;rw[e1];omega)
   rw[g0] at hw
   have hw:wS q k=fX (q.map jJ) (ix q k).before.toNat++ [(ix q k).action]:=hw
   rw[e1,Int.toNat_natCast,e2] at hw
   obtain⟨g1,g2⟩:=ih b e3 O
   have hb:=AP hx ht hs hu ha (h.rch _ (aO (l:=q) (i:=b) O))
   obtain⟨b0,b1,b2,b3,b4,b5⟩:=hb
   have hed:=hx.ed (ix q b).x.toNat (by show(tri (ix q b)).1.toNat<_;omega) ed e5
   have hn0:((ed.1.toNat:Nat):Int)=ed.1:=by omega
   have e8:(ix q k).s=ix (nxt s (ix q b).s.toNat) ed.1.toNat:=congrArg (fun p:T3=>p.2.2) e7
   have e9:(ix q k).t=ix (nxt t (ix q b).t.toNat) ed.1.toNat:=congrArg (fun p:T3=>p.2.1) e7
   rw[hw,e8,e9,←hn0]
   refine⟨.snoc g1 ?_,?_⟩
   ·exact(hu _ (by show(tri (ix q b)).2.2.toNat<_;omega) ed.1.toNat O).1 e6
   ·show goS t (wS q b++_)=_
    rw[Gh,g2,yE (show 0≤(ix q b).t from b2),Int.toNat_natCast]
structure VP (x:aA) (t s:SS) (z:List Int × Int × Bool):Prop where
 none:z.2.2=false→z.1= []∧z.2.1=0∧zQ x t s
 some:z.2.2=true→∃q i,QF x t s q∧i<q.length∧z.1=wS q i∧z.2.1∈acc s (ix q i).s.toNat∧bS (bR x (ix q i).x.toNat) z.2.1∉acc t (ix q i).t.toNat
end FailM
end
section
namespace DivM
open ref01 ref03 ref04 ref06 Part Rungs LeftM TrimM RoundM MergeM BisM BisM2 BisM4 BisM5 BisM6 WalkM WitM JudgM JudgM2 LevM divr divs divd dive divg divw divv refj sysw ChsM BisS TrimI ValidM WitSat WitVal QuoM
theorem Cx {n a:Nat} (v:Int) (h:a<n):ix (List.replicate n v) a=v:=by rw[aG (by simpa using h)];simp
noncomputable def VQ (t s:SS):SS × Bool:=
 if ix (hOl s) 0=true then(qG t.aC,true)
 else if (qL t (tR s).1).length≤500 then((tR (Yh t (tR s).1)).1,true) else(⟨[],[]⟩,false)
noncomputable def KO (t s:SS):SS × Int:=
 if hO t s=0 then(if (VQ t s).2=true then((VQ t s).1,0) else(⟨[],[]⟩,2)) else(⟨[],[]⟩,hO t s)
structure Yx (t s D:SS):Prop where
 acts:D.aC=t.aC
 hol:ix (hOl s) 0=true→D=qG t.aC
 num:ix (hOl s) 0=false→∃l,yH (qA t (tR s).1) (qN t (tR s).1) t.aC.length (0,0) l D∧l.length≤t.sT.length*s.sT.length+1
structure Same (q D:SS):Prop where
 ok:oK q
 few:q.sT.length≤500
 acts:q.aC=D.aC
 trim:(tR q).1=q
 r1:rZ q D
 r2:rZ D q
structure Ys (t s:SS) (z:aA × Int):Prop where
 no:(KO t s).2≠0→z=(⟨[],[]⟩,(KO t s).2)
 yes:(KO t s).2=0→VM (KO t s).1 z
theorem KP {q D:SS} (h:Same q D) (hD:oK D):ix (hOl q) 0=ix (hOl D) 0:=by
 have f1:=h.ok.few0
 have f2:=hD.few0
 have hs:=(zF h.ok hD h.acts).1 ⟨h.r1,h.r2⟩
 cases h1:ix (hOl q) 0<;>cases h2:ix (hOl D) 0
 ·rfl
 ·exact absurd hs.symm (zD O O h2 h1)
 ·exact absurd hs (zD O O h1 h2)
 ·rfl
end DivM
end
end Go.Proofs.YtnlfjojfgghchaaGreatDoor
