/- The walks of the functions and the plain laws. Own texts of this claim, packed: MkLawP, MkJudgM, Mksysw, Mkdivr, Mkdivs, MkLevM, Mkdivd, MkJudgM2, Mkrefj, Mkdive, MkLevM2, Mkdivg, MkWitSat, MkWitVal, MkBisS, Mkdivw, Mkdivv, Mkdivf, MkChsM, MkValidM. -/
import Derived.Test.YtnlfjojfgghchaaGreatDoorX05
import Derived.Test.YtnlfjojfgghchaaGreatDoorX13
import Derived.Test.YtnlfjojfgghchaaGreatDoorX14
import Derived.Test.YtnlfjojfgghchaaGreatDoorRows
import Derived.ProofKit
import Derived.LaidMore
import Derived.Lib.LaidTab
import Derived.Lib.SmallJoins
import Derived.OpenShut
import Derived.Stop.Joined
import Derived.Test.YtnlfjojfgghchaaGreatDoorX11
import Derived.Test.YtnlfjojfgghchaaGreatDoorX04
import Derived.Test.YtnlfjojfgghchaaGreatDoorX07
import Derived.Test.YtnlfjojfgghchaaGreatDoorX09
set_option linter.all false
namespace Go.Proofs.YtnlfjojfgghchaaGreatDoor
open AL Go
set_option maxRecDepth 100000
section
open ref01 ref03 ref04 ref06 prog prog2 prog6 Itoa
open Go.ChangeShapes Go.WideShapes Go.ChangeAt Go.WideElems Go.RowKit
namespace LawOpen
theorem laidOut:laidOutB Tryz.prog=true:=by kernel_rfl
theorem own:ownKnob Tryz.prog.godebug=none:=by kernel_rfl
theorem uF {H:Type} {P:Program} {t:TypeId} {fs:Array Field} {ps:List (DataW H)} (h:P.underlying t=some (.struct fs)):(DataW.agg ps:DataW H).weights P t=DataW.weightsEach P (fs.toList.map (·.type)) ps:=by
 simp[DataW.weights,h]
section
variable {H:Type} {enc:TypeId × Value→H} {W:World}
attribute [local semireducible] agg in
theorem Hr {m:Nat} {cs:List Value} {y:DataW H × List MemPlace} (h:DataW.trod enc Tryz.prog W 0 (fun _=>true) true m 79 cs=some y) (hz:∀k∈y.1.weights Tryz.prog 79,k≤reachBytes) (hl:cs.length=2):
 ∃x:SA,All2 W (mE W) (sE x) cs∧∀t∈x.aP,t<2^63:=by
 obtain⟨y0,y1,n,hx,_,h0,h1⟩:=trod_struct2 Tryz.underlying79 h
 subst hx
 have hz:∀k∈y0.1.weights Tryz.prog 66++(y1.1.weights Tryz.prog 66++ []),k≤reachBytes:=by
  have e:(DataW.agg [y0.1,y1.1]:DataW H).weights Tryz.prog 79=y0.1.weights Tryz.prog 66++(y1.1.weights Tryz.prog 66++ []):=by
   rw[uF Tryz.underlying79]
   simp[DataW.weightsEach]
  rw[←e];exact hz
 have c28:Tryz.prog.cellsOf 66=1:=by kernel_rfl
 have c3:Tryz.prog.cellsOf 3=1:=by kernel_rfl
 have b3:1≤Tryz.prog.bytesOf 3:=by have:Tryz.prog.bytesOf 3=8:=kR;omega
 match cs,hl with
 | [v0,v1],_=>
   have h0:DataW.trod enc Tryz.prog W 0 (fun _=>true) true n 66 (([v0,v1].drop 0).take (Tryz.prog.cellsOf 66))=some y0:=h0
   have h1:DataW.trod enc Tryz.prog W 0 (fun _=>true) true n 66 (([v0,v1].drop 1).take (Tryz.prog.cellsOf 66))=some y1:=h1
   rw[c28] at h0 h1
   obtain⟨ys,g1,g2⟩:=BF Tryz.underlying66 Tryz.underlying3 c3 b3 h0 (fun k hk=>hz k (List.mem_append.2 (.inl hk)))
   obtain⟨zs,g3,_⟩:=BF Tryz.underlying66 Tryz.underlying3 c3 b3 h1 (fun k hk=>hz k (List.mem_append.2 (.inr (List.mem_append.2 (.inl hk)))))
   exact⟨⟨ys,zs⟩,⟨g1,g3,tV⟩,fun t ht=>by have:=g2 t ht;omega⟩
attribute [local semireducible] agg in
theorem JI {r:Reach} {b0:Nat} {v:Value} {d:DataW H} {p:List MemPlace} (hv:Value.okWide Tryz.prog W r b0 28 v) (h:DataW.Trod enc Tryz.prog W 0 (fun _=>true) true 28 v d p) (hz:∀k∈d.weights Tryz.prog 28,k≤reachBytes):
 ∃s:SS,(spec s).p W (mE W) v∧jE s:=by
 obtain⟨v0,v1,y0,y1,n,rfl,rfl,rfl,h0,h1⟩:=Go.Joins.open_agg2 Tryz.underlying28 kR kR hv h
 have hz:∀k∈y0.1.weights Tryz.prog 22++(y1.1.weights Tryz.prog 26++ []),k≤reachBytes:=by
  have e:(DataW.agg [y0.1,y1.1]:DataW H).weights Tryz.prog 28=y0.1.weights Tryz.prog 22++(y1.1.weights Tryz.prog 26++ []):=by
   rw[uF Tryz.underlying28]
   simp[DataW.weightsEach]
  rw[←e];exact hz
 have c9:Tryz.prog.cellsOf 9=1:=by kernel_rfl
 have b9:1≤Tryz.prog.bytesOf 9:=by have:Tryz.prog.bytesOf 9=16:=kR;omega
 have c69:Tryz.prog.cellsOf 79=2:=by kernel_rfl
 have b69:1≤Tryz.prog.bytesOf 79:=by have:Tryz.prog.bytesOf 79=48:=kR;omega
 obtain⟨al,g1⟩:=BG Tryz.underlying22 Tryz.underlying9 c9 b9 h0 (fun k hk=>hz k (List.mem_append.2 (.inl hk)))
 obtain⟨xs,g2,g3⟩:=sH (n:=2) (E:=sE) Tryz.underlying26 c69 (by decide) b69 h1 (fun k hk=>hz k (List.mem_append.2 (.inr (List.mem_append.2 (.inl hk))))) (fun x=> ∀t∈x.aP,t<2^63) (fun m cs y hy hw hl=>Hr hy hw hl)
 refine⟨⟨al,xs⟩,⟨[v0,v1],rfl,g1,g2,tV⟩,fun k hk i hi=> ?_⟩
 have hk:k<xs.length:=hk
 have hi:i<(ix xs k).aP.length:=hi
 exact g3 (ix xs k) (Rungs.aX hk) _ (Rungs.iK hi)
end
abbrev BH:List (String × DataW Unit):= [("math/bits.deBruijn32tab",Rows.laid_math_bits_deBruijn32tab),("math/bits.deBruijn64tab",Rows.laid_math_bits_deBruijn64tab),("internal/strconv.uint64pow10",Rows.laid_internal_strconv_uint64pow10)]
theorem Hs {W:World} (h:laidMetH Tryz.prog BH W) (v:Value):tab.p W (mE W) v:=by
 rw[MakeChecks.laidMetH_plain _ _ _ kR] at h
 obtain⟨ps,⟨g0,t0,cs0,f0,p0,q0,hg0,ht0,hv0,hd0,⟨g1,t1,cs1,f1,p1,q1,hg1,ht1,hv1,hd1,⟨g2,t2,cs2,f2,p2,q2,hg2,ht2,hv2,hd2,_,_⟩,_⟩,_⟩,_,_⟩:=h
 have e0:g2=0:=Option.some.inj (hg2.symm.trans (show Tryz.prog.globalNamed "internal/strconv.uint64pow10" =some 0 by kernel_rfl))
 subst e0
 have e1:t2=267:=Option.some.inj (ht2.symm.trans (show(Tryz.prog.globals[0]?).map (·.type)=some 267 by kernel_rfl))
 subst e1
 have hc:=Lib.cells_of_tab (zs:=Lib.pow10Tab) (k:= .u64) Tryz.underlying267 Tryz.underlying219 kR kR hd2
 refine⟨0,by kernel_rfl,?_,?_⟩
 ·have h2:=hv2
  unfold World.var? at h2
  rw[show Tryz.prog.globalNamed "internal/strconv.uint64pow10" =some 0 by kernel_rfl] at h2
  simp only [Option.bind_some] at h2
  show 0<W.heap.size
  cases hh:W.heap[0]? with
  |none=>rw[hh] at h2;cases h2
  |some o=>exact(Array.getElem?_eq_some_iff.1 hh).1
 ·unfold Lib.TabIs Cw
  rw[hv2,←hc]
end LawOpen
open LawOpen
namespace LawOpen2
theorem Ot (os:Os) (args:Array Value):laidMetH Tryz.prog BH ((World.doorLaid Tryz.prog 400 os).forCall (fun _ _=>0) ⟨#[],args,[]⟩).memory:=
 laidMetH_of_parts3 (fuel:=8) (laidMet_of_run' 8 kR kR) kR kR
end LawOpen2
open LawOpen2 WitM wit
namespace LawOpen3
section
variable {H:Type} {enc:TypeId × Value→H} {W:World}
attribute [local semireducible] eqv in
theorem JJ {m:Nat} {cs:List Value} {y:DataW H × List MemPlace} (h:DataW.trod enc Tryz.prog W 0 (fun _=>true) true m 94 cs=some y) (hl:cs.length=2):
 ∃x:Int × Int,All2 W (mE W) (pE x) cs∧True:=by
 obtain⟨y0,y1,n,_,_,h0,h1⟩:=trod_struct2 Tryz.underlying94 h
 match cs,hl with
 | [v0,v1],_=>
   have h0:DataW.trod enc Tryz.prog W 0 (fun _=>true) true n 3 [v0]=some y0:=h0
   have h1:DataW.trod enc Tryz.prog W 0 (fun _=>true) true n 3 [v1]=some y1:=h1
   obtain⟨a,ea,_,_⟩:=DataW.trod_int Tryz.underlying3 h0
   obtain⟨b,eb,_,_⟩:=DataW.trod_int Tryz.underlying3 h1
   simp at ea eb
   subst ea;subst eb
   exact⟨(a,b),⟨(show(int a).p W (mE W) (.int .i64 a) from rfl),(show(int b).p W (mE W) (.int .i64 b) from rfl),tV⟩,tV⟩
theorem Ht {m:Nat} {cs:List Value} {y:DataW H × List MemPlace} (h:DataW.trod enc Tryz.prog W 0 (fun _=>true) true m 87 cs=some y) (hz:∀k∈y.1.weights Tryz.prog 87,k≤reachBytes) (hl:cs.length=1):
 ∃x:List (Int × Int),All2 W (mE W) (gE x) cs∧True:=by
 match cs,hl with
 | [v],_=>
   obtain⟨ys,g,_⟩:=sH (n:=2) (E:=pE) Tryz.underlying87 kR (by decide) (by have:Tryz.prog.bytesOf 94=16:=kR;omega) h hz (fun _=>True) (fun m cs y hy _ hl=>JJ hy hl)
   exact⟨ys,⟨g,tV⟩,tV⟩
attribute [local semireducible] agg in
theorem LH {r:Reach} {b0:Nat} {v:Value} {d:DataW H} {p:List MemPlace} (hv:Value.okWide Tryz.prog W r b0 25 v) (h:DataW.Trod enc Tryz.prog W 0 (fun _=>true) true 25 v d p) (hz:∀k∈d.weights Tryz.prog 25,k≤reachBytes):
 ∃m:aB,(sys m).p W (mE W) v:=by
 obtain⟨v0,v1,y0,y1,n,rfl,rfl,rfl,h0,h1⟩:=Go.Joins.open_agg2 Tryz.underlying25 kR kR hv h
 have hz:∀k∈y0.1.weights Tryz.prog 22++(y1.1.weights Tryz.prog 23++ []),k≤reachBytes:=by
  have e:(DataW.agg [y0.1,y1.1]:DataW H).weights Tryz.prog 25=y0.1.weights Tryz.prog 22++(y1.1.weights Tryz.prog 23++ []):=by
   rw[uF Tryz.underlying25]
   simp[DataW.weightsEach]
  rw[←e];exact hz
 have b9:1≤Tryz.prog.bytesOf 9:=by have:Tryz.prog.bytesOf 9=16:=kR;omega
 have b85:1≤Tryz.prog.bytesOf 87:=by have:Tryz.prog.bytesOf 87=24:=kR;omega
 obtain⟨al,g1⟩:=BG Tryz.underlying22 Tryz.underlying9 kR b9 h0 (fun k hk=>hz k (List.mem_append.2 (.inl hk)))
 obtain⟨xs,g2,_⟩:=sH (n:=1) (E:=gE) Tryz.underlying23 kR (by decide) b85 h1 (fun k hk=>hz k (List.mem_append.2 (.inr (List.mem_append.2 (.inl hk))))) (fun _=>True) (fun m cs y hy hw hl=>Ht hy hw hl)
 exact⟨⟨al,xs⟩,⟨[v0,v1],rfl,g1,g2,tV⟩⟩
end
end LawOpen3
end
section
open ref01 ref03 ref04 ref06 prog15 starts Part Rungs LeftM TrimM RoundM BisM BisM5 BisM6 WalkM StepM WitM
namespace JudgM
def dS (es:List PP):Int:=aV (es.map fun e=>((2^e.1.toNat:Nat):Int))
abbrev edg (m:aB) (x:Nat):List PP:=ix m.sT x
abbrev bQ (m:aB) (x:Nat):Int:=dS (edg m x)
def edM (m:aB) (x:Nat):List (Nat × Nat):=(edg m x).map fun e=>(e.1.toNat,e.2.toNat)
theorem Ig (a b:Nat):has ((2^a:Nat):Int) (b:Int)=decide (a=b):=by
 unfold has;rw[Int.toNat_natCast,Int.toNat_natCast,Nat.testBit_two_pow]
theorem iE {es:List PP} {a:Nat}:has (dS es) (a:Int)=true↔∃e∈es,e.1.toNat=a:=by
 unfold dS
 rw[cU]
 constructor
 ·rintro⟨u,hu,hh⟩
  obtain⟨e,he,rfl⟩:=List.mem_map.1 hu
  rw[Ig] at hh
  exact⟨e,he,by simpa using hh⟩
 ·rintro⟨e,he,rfl⟩
  exact⟨_,List.mem_map.2 ⟨e,he,rfl⟩,by rw[Ig];simp⟩
theorem xQ (m:aB):Ew (bQ m) (edM m):=fun x a=>by
 rw[iE]
 unfold edM
 constructor
 ·rintro⟨e,he,h⟩;exact⟨_,List.mem_map.2 ⟨e,he,rfl⟩,h⟩
 ·rintro⟨e,he,h⟩
  obtain⟨e',he',rfl⟩:=List.mem_map.1 he
  exact⟨e',he',h⟩
structure bE (m:aB):Prop where
 acts:bZ m.aC=true
 n8:m.aC.length≤8
 few0:1≤m.sT.length
 few1:m.sT.length≤10000
 ed:∀x,x<m.sT.length→∀e∈edg m x,0≤e.1∧e.1<(m.aC.length:Int)∧0≤e.2∧e.2<(m.sT.length:Int)
 many:∀x,x<m.sT.length→(edg m x).length≤400000
def iA (m:aB) (t:SS):Prop:=Sat (bQ m) (edM m) t 0 0
structure QJ (m:aB) (t:SS) (q:List Mt):Prop where
 ne:0<q.length
 hd:ix q 0=⟨0,0,-1,0⟩
 bd:∀p∈q,0≤p.s∧p.s<(m.sT.length:Int)∧0≤p.t∧p.t<(t.sT.length:Int)
 nd:(q.map dM).Nodup
 back:∀k,0<k→k<q.length→∃(b:Nat) (e:PP),(ix q k).before=(b:Int)∧(ix q k).action=e.1∧b<k∧e∈edg m (ix q b).s.toNat∧(ix q k).s=e.2∧(ix q k).t=ix (nxt t (ix q b).t.toNat) e.1.toNat∧bQ m (ix q b).s.toNat∈acc t (ix q b).t.toNat
 all:∀R,JG (bQ m) (edM m) t R→R 0 0→∀p∈q,R p.s.toNat p.t.toNat
def lA (m:aB) (t:SS) (q:List Mt) (k:Nat):Prop:=
 bQ m (ix q k).s.toNat∈acc t (ix q k).t.toNat∧∀e∈edg m (ix q k).s.toNat,(e.2,ix (nxt t (ix q k).t.toNat) e.1.toNat)∈q.map dM
theorem Sa {m:aB} {t:SS} (hm:bE m) (ht:oK t):QJ m t [⟨0,0,-1,0⟩]:=by
 have f1:=hm.few0
 have f2:=ht.few0
 refine⟨by simp,rfl,fun p hp=> ?_,by simp,fun k h1 h2=> ?_,fun R hR h p hp=> ?_⟩
 ·have:p=⟨0,0,-1,0⟩:=by simpa using hp
  subst this
  show 0≤(0:Int)∧(0:Int)<_∧0≤(0:Int)∧(0:Int)<_
  omega
 ·simp at h2;omega
 ·have:p=⟨0,0,-1,0⟩:=by simpa using hp
  subst this;exact h
theorem yR {m:aB} {t:SS} (hm:bE m) (ht:oK t) {x y:Nat} (hx:x<m.sT.length) (hy:y<t.sT.length) (ha:bQ m x∈acc t y) {e:PP} (he:e∈edg m x):
 e.1.toNat<t.aC.length∧0≤ix (nxt t y) e.1.toNat∧ix (nxt t y) e.1.toNat<(t.sT.length:Int):=by
 have:=pT ht hy (a:=e.1.toNat) ((cU _ _).2 ⟨_,ha,iE.2 ⟨e,he,rfl⟩⟩)
 exact this
theorem Sb {m:aB} {t:SS} (hm:bE m) (ht:oK t) {q:List Mt} (h:QJ m t q) {i:Nat} (hi:i<q.length) (ha:bQ m (ix q i).s.toNat∈acc t (ix q i).t.toNat) {e:PP} (he:e∈edg m (ix q i).s.toNat)
 (hn:(e.2,ix (nxt t (ix q i).t.toNat) e.1.toNat)∉q.map dM):QJ m t (q++ [⟨e.2,ix (nxt t (ix q i).t.toNat) e.1.toNat,(i:Int),e.1⟩]):=by
 have hb:=h.bd _ (aX hi)
 have g1:=hm.ed (ix q i).s.toNat O e he
 have g2:=yR hm ht (x:=(ix q i).s.toNat) (y:=(ix q i).t.toNat) O O ha he
 refine⟨by simp,by rw[oX h.ne];exact h.hd,fun p hp=> ?_,?_,fun k h1 h2=> ?_,fun R hR h0 p hp=> ?_⟩
 ·rcases List.mem_append.1 hp with hp|hp
  ·exact h.bd p hp
  ·have:p=_:=List.mem_singleton.1 hp
   subst this
   exact⟨g1.2.2.1,g1.2.2.2,g2.2.1,g2.2.2⟩
 ·rw[List.map_append,List.nodup_append]
  exact⟨h.nd,by simp,fun p hp p' hp' e'=>hn (by
   have:p'=_:=List.mem_singleton.1 hp'
   rw[e',this] at hp;exact hp)⟩
 ·simp at h2
  by_cases e':k=q.length
  ·subst e'
   refine⟨i,e,?_⟩
   rw[Od,oX hi]
   exact⟨rfl,rfl,hi,he,rfl,rfl,ha⟩
  ·obtain⟨b,a',p1,p2,p3,p4⟩:=h.back k h1 O
   refine⟨b,a',?_⟩
   rw[oX O,oX O]
   exact⟨p1,p2,p3,p4⟩
 ·rcases List.mem_append.1 hp with hp|hp
  ·exact h.all R hR h0 p hp
  ·have:p=_:=List.mem_singleton.1 hp
   subst this
   have:=(hR.nxt (h.all R hR h0 _ (aX hi)) (e.1.toNat,e.2.toNat) (List.mem_map.2 ⟨e,he,rfl⟩)).2
   exact this
theorem JK {m:aB} {t:SS} {q:List Mt} {p:Mt} {k:Nat} (hk:k<q.length) (h:lA m t q k):lA m t (q++ [p]) k:=by
 unfold lA
 rw[oX hk]
 exact⟨h.1,fun e he=>by rw[List.map_append];exact List.mem_append_left _ (h.2 e he)⟩
theorem Sc {m:aB} {t:SS} {q:List Mt} (h:QJ m t q):Lz q:=fun k hk h0=>by
 rcases Nat.eq_zero_or_pos k with e|e
 ·subst e;rw[h.hd] at h0
  have h0:(0:Int)≤ -1:=h0
  omega
 ·obtain⟨b,a,e1,e2,e3,_⟩:=h.back k e hk
  rw[e1];omega
theorem kO:∀(n m:Nat) (l:List (Int × Int)),l.Nodup→(∀p∈l,0≤p.1∧p.1<(n:Int)∧0≤p.2∧p.2<(m:Int))→l.length≤n*m:=by
 intro n m l hnd hb
 have h1:(l.map fun p=>p.1.toNat*m+p.2.toNat).Nodup:=by
  rw[List.nodup_iff_pairwise_ne,List.pairwise_map]
  refine List.Pairwise.imp_of_mem ?_ hnd
  intro a b ha hb' hne e
  have b1:=hb a ha
  have b2:=hb b hb'
  have hm:0<m:=by omega
  have e1:a.1.toNat=b.1.toNat:=by
   have:=congrArg (· /m) e
   simp only [Nat.mul_comm _ m] at this
   rw[Nat.mul_add_div hm,Nat.mul_add_div hm,Nat.div_eq_of_lt O,Nat.div_eq_of_lt O] at this
   omega
  have e2:a.2.toNat=b.2.toNat:=by rw[e1] at e;omega
  exact hne (Prod.ext O O)
 have h2:∀x∈(l.map fun p=>p.1.toNat*m+p.2.toNat),x∈List.range (n*m):=fun x hx=>by
  obtain⟨p,hp,rfl⟩:=List.mem_map.1 hx
  have b1:=hb p hp
  rw[List.mem_range]
  have:(p.1.toNat+1)*m≤n*m:=Nat.mul_le_mul_right m O
  rw[Nat.add_mul] at this
  omega
 have h3:=List.Nodup.length_le_of_subset h1 h2
 simpa using h3
theorem LJ {m:aB} {t:SS} {q:List Mt} (h:QJ m t q):q.length≤m.sT.length*t.sT.length:=by
 have:=kO m.sT.length t.sT.length (q.map dM) h.nd (fun p hp=>by
  obtain⟨m,hm,rfl⟩:=List.mem_map.1 hp
  exact h.bd m hm)
 simpa using this
structure sI (m:aB) (t:SS) (q:List Mt) (i:Nat) (k:Nat) (q2:List Mt) (mm2:List ((Int × Int) × Bool)):Prop where
 qi:QJ m t q2
 sm:qP mm2 q2
 pre:q<+:q2
 dn:∀k,k<i→lA m t q2 k
 al:∀e∈(edg m (ix q i).s.toNat).take k,(e.2,ix (nxt t (ix q i).t.toNat) e.1.toNat)∈q2.map dM
theorem Ih {q r:List Mt} {k:Nat} (h:q<+:r) (hk:k<q.length):ix r k=ix q k:=by
 obtain⟨u,rfl⟩:=h
 exact oX hk
theorem LK {m:aB} {t:SS} {q:List Mt} {i:Nat} {mm:List ((Int × Int) × Bool)} (h:QJ m t q) (hs:qP mm q) (hd:∀k,k<i→lA m t q k):sI m t q i 0 q mm:=⟨h,hs,List.prefix_rfl,hd,fun e he=>by simp at he⟩
theorem LL {m:aB} {t:SS} (hm:bE m) (ht:oK t) {q:List Mt} {i k:Nat} {q2:List Mt} {mm2:List ((Int × Int) × Bool)} (h:sI m t q i k q2 mm2) (hi:i<q.length) (ha:bQ m (ix q i).s.toNat∈acc t (ix q i).t.toNat) (hk:k<(edg m (ix q i).s.toNat).length) {e:PP} (he:ix (edg m (ix q i).s.toNat) k=e)
 {y:Int} (hy:ix (nxt t (ix q i).t.toNat) e.1.toNat=y) (hn:(bO mm2 (e.2,y)).getD false=false):sI m t q i (k+1) (q2++ [⟨e.2,y,(i:Int),e.1⟩]) (cI mm2 (e.2,y) true):=by
 subst hy
 have hl:=h.pre.length_le
 have hqi:=Ih h.pre hi
 have hem:e∈edg m (ix q i).s.toNat:=by rw[←he];exact aX hk
 have hn':(e.2,ix (nxt t (ix q i).t.toNat) e.1.toNat)∉q2.map dM:=by
  rw[FB h.sm] at hn
  simpa using hn
 have hp:=Sb hm ht h.qi (i:=i) O (by rw[hqi];exact ha) (e:=e) (by rw[hqi];exact hem) (by rw[hqi];exact hn')
 rw[hqi] at hp
 refine⟨hp,Du h.sm ⟨e.2,ix (nxt t (ix q i).t.toNat) e.1.toNat,(i:Int),e.1⟩,h.pre.trans (List.prefix_append _ _),fun k hk=>JK O (h.dn k hk),fun b hb=> ?_⟩
 rw[List.map_append,List.mem_append]
 rw[bJ hk,he,List.mem_append] at hb
 rcases hb with h1|h1
 ·exact .inl (h.al b h1)
 ·have:b=e:=by simpa using h1
  subst this
  exact .inr (List.mem_singleton.2 rfl)
theorem LM {m:aB} {t:SS} {q:List Mt} {i k:Nat} {q2:List Mt} {mm2:List ((Int × Int) × Bool)} (h:sI m t q i k q2 mm2) (hk:k<(edg m (ix q i).s.toNat).length) {e:PP} (he:ix (edg m (ix q i).s.toNat) k=e)
 {y:Int} (hy:ix (nxt t (ix q i).t.toNat) e.1.toNat=y) (hn:(bO mm2 (e.2,y)).getD false=true):sI m t q i (k+1) q2 mm2:=by
 subst hy
 refine⟨h.qi,h.sm,h.pre,h.dn,fun b hb=> ?_⟩
 rw[bJ hk,he,List.mem_append] at hb
 rcases hb with h1|h1
 ·exact h.al b h1
 ·have:b=e:=by simpa using h1
  subst this
  rw[FB h.sm] at hn
  simpa using hn
theorem Ou {m:aB} {t:SS} {q:List Mt} {i k:Nat} {q2:List Mt} {mm2:List ((Int × Int) × Bool)} (h:sI m t q i k q2 mm2) (hi:i<q.length) (ha:bQ m (ix q i).s.toNat∈acc t (ix q i).t.toNat) (hk:(edg m (ix q i).s.toNat).length≤k):
 QJ m t q2∧qP mm2 q2∧i+1≤q2.length∧∀k,k<i+1→lA m t q2 k:=by
 have hl:=h.pre.length_le
 refine⟨h.qi,h.sm,O,fun j hj=> ?_⟩
 by_cases e:j=i
 ·subst e
  have hqi:=Ih h.pre hi
  have hal:=h.al
  rw[List.take_of_length_le hk] at hal
  unfold lA
  rw[hqi]
  exact⟨ha,hal⟩
 ·exact h.dn j O
theorem Sg {m:aB} {t:SS} (hm:bE m) (ht:oK t) {q:List Mt} (h:QJ m t q) (hd:∀k,k<q.length→lA m t q k):iA m t:=by
 have hat:∀{x y:Nat},((x:Int),(y:Int))∈q.map dM→∃k,k<q.length∧(ix q k).s=(x:Int)∧(ix q k).t=(y:Int):=fun {x y} hm=>by
  obtain⟨m,hm,e⟩:=List.mem_map.1 hm
  obtain⟨k,hk,rfl⟩:=List.getElem_of_mem hm
  unfold dM at e
  simp only [Prod.mk.injEq] at e
  exact⟨k,hk,by rw[aF hk];exact e.1,by rw[aF hk];exact e.2⟩
 refine⟨fun x y=>((x:Int),(y:Int))∈q.map dM,⟨fun {x y} hm=> ?_,fun {x y} hm=> ?_,fun {x y} hxy e he=> ?_,fun {x y} hxy e he=> ?_⟩,?_⟩
 ·obtain⟨k,hk,e1,e2⟩:=hat hm
  have:=h.bd _ (aX hk)
  omega
 ·obtain⟨k,hk,e1,e2⟩:=hat hm
  have:=(hd k hk).1
  rw[e1,e2,Int.toNat_natCast,Int.toNat_natCast] at this
  exact this
 ·obtain⟨k,hk,e1,e2⟩:=hat hxy
  have hb:=h.bd _ (aX hk)
  have ha:=(hd k hk).1
  rw[e1,e2,Int.toNat_natCast,Int.toNat_natCast] at ha
  obtain⟨e',he',rfl⟩:=List.mem_map.1 he
  have:=(yR hm ht (x:=x) (y:=y) O O ha he').1
  show e'.1.toNat<_
  rw[(ht.st y O).len];exact this
 ·obtain⟨k,hk,e1,e2⟩:=hat hxy
  have hb:=h.bd _ (aX hk)
  obtain⟨ha,hed⟩:=hd k hk
  rw[e1,e2,Int.toNat_natCast,Int.toNat_natCast] at ha
  rw[e1,e2,Int.toNat_natCast,Int.toNat_natCast] at hed
  obtain⟨e',he',rfl⟩:=List.mem_map.1 he
  have g1:=(yR hm ht (x:=x) (y:=y) O O ha he').2.1
  have g2:=hm.ed x O e' he'
  have g3:=hed e' he'
  refine⟨g1,?_⟩
  show(((e'.2.toNat:Nat):Int),_)∈_
  rw[show((e'.2.toNat:Nat):Int)=e'.2 by omega,show(((ix (nxt t y) e'.1.toNat).toNat:Nat):Int)=ix (nxt t y) e'.1.toNat by omega]
  exact g3
 ·have:=aX (l:=q) h.ne
  rw[h.hd] at this
  exact List.mem_map.2 ⟨_,this,rfl⟩
theorem UW {m:aB} {t:SS} {q:List Mt} (h:QJ m t q) {i:Nat} (hi:i<q.length) (hn:bQ m (ix q i).s.toNat∉acc t (ix q i).t.toNat):¬iA m t:=fun⟨R,hR,h0⟩=>hn (hR.acc (h.all R hR h0 _ (aX hi)))
structure VJ where
 holds:Bool
 pairs:List PP
 word:List Int
 state:Int
structure yS (m:aB) (t:SS) (v:VJ):Prop where
 yes:v.holds=true→iA m t∧v.word= []∧v.state=0∧∃q,QJ m t q∧(∀k,k<q.length→lA m t q k)∧v.pairs=cM (q.map dM)
 no:v.holds=false→¬iA m t∧v.pairs= []∧∃q i,QJ m t q∧i<q.length∧v.word=mP q i∧v.state=(ix q i).s∧(∀k,k<i→lA m t q k)∧bQ m (ix q i).s.toNat∉acc t (ix q i).t.toNat
theorem LN {m:aB} {t:SS} {v:VJ} (h:yS m t v):v.holds=true↔iA m t:=by
 constructor
 ·exact fun e=>(h.yes e).1
 ·intro hs
  cases e:v.holds with
  |true=>rfl
  |false=>exact absurd hs (h.no e).1
end JudgM
end
section
open ref01 ref03 ref04 ref06 prog prog2 prog3 prog6 prog13 prog15 starts search Part Rungs LeftM TrimM RoundM BisM BisM5 WalkM StepM WitM JudgM refw judg wit
def oZ (d e:Int × Int):Int:=if d.1=e.1 then d.2- e.2 else d.1- e.1
theorem Si {d e:Int × Int} (h:¬0≤oZ d e):d.1<e.1∨(d.1=e.1∧d.2<e.2):=by
 unfold oZ at h
 split at h<;>omega
theorem Sj {d e:Int × Int} (h:0≤oZ d e):¬(d.1<e.1∨(d.1=e.1∧d.2<e.2)):=by
 unfold oZ at h
 split at h<;>omega
def iB (A N:Nat) (e:Int × Int):Bool:=decide (0≤e.1)&&decide (e.1<(A:Int))&&decide (0≤e.2)&&decide (e.2<(N:Int))
theorem eD {A N:Nat} {e:Int × Int}:iB A N e=true↔0≤e.1∧e.1<(A:Int)∧0≤e.2∧e.2<(N:Int):=by
 unfold iB;simp[and_assoc]
def ltP (d e:Int × Int):Bool:=decide (d.1<e.1)||(decide (d.1=e.1)&&decide (d.2<e.2))
theorem pF {d e:Int × Int}:ltP d e=true↔d.1<e.1∨(d.1=e.1∧d.2<e.2):=by unfold ltP;simp
def dU (A N:Nat) (l:List (Int × Int)):Bool:=l.all (iB A N)&&(List.range (l.length- 1)).all fun i=>ltP (ix l i) (ix l (i+1))
def bU (l:List (List (Int × Int))):Nat:=(l.map List.length).sum
theorem kP (l:List (List (Int × Int))) (x:List (Int × Int)):bU (l++ [x])=bU l+x.length:=by simp[bU]
theorem uG (l:List (List (Int × Int))) (k:Nat):bU (l.take k)≤bU l:=by
 conv=>rhs;rw[←List.take_append_drop k l]
 unfold bU
 rw[List.map_append,List.sum_append];omega
theorem Dw {l:List (List (Int × Int))} {k:Nat} (h:k<l.length):(ix l k).length≤bU l:=by
 have:=uG l (k+1)
 rw[bJ h,kP] at this
 omega
def bL (m:aB):Bool:=bZ m.aC&&decide (1≤m.sT.length)&&decide (m.sT.length≤5000)&&m.sT.all (dU m.aC.length m.sT.length)&&decide (bU m.sT≤400000)
def BI (m:aB):Nat:=m.aC.length+m.sT.length+bU m.sT
def xR (m:aB) (n:Int):Bool:=decide ((BI m:Int)≤n)
theorem eI {m:aB} (h:bL m=true):bE m:=by
 unfold bL at h
 simp only [Bool.and_eq_true,decide_eq_true_eq] at h
 obtain⟨⟨⟨⟨h1,h2⟩,h3⟩,h4⟩,h5⟩:=h
 refine⟨h1,gF h1,h2,O,fun x hx e he=> ?_,fun x hx=> ?_⟩
 ·have g:=uT h4 hx
  unfold dU at g
  rw[Bool.and_eq_true] at g
  exact eD.1 (List.all_eq_true.1 g.1 e he)
 ·exact Nat.le_trans (Dw hx) h5
theorem sJ {A N:Nat} {l:List (Int × Int)} (h1:∀j,j<l.length→iB A N (ix l j)=true) (h2:∀j,j+1<l.length→ltP (ix l j) (ix l (j+1))=true):dU A N l=true:=by
 unfold dU
 rw[Bool.and_eq_true]
 refine⟨List.all_eq_true.2 (fun e he=> ?_),List.all_eq_true.2 (fun j hj=>h2 j (by have:=List.mem_range.1 hj;omega))⟩
 obtain⟨j,hj,rfl⟩:=List.getElem_of_mem he
 rw[←aF hj];exact h1 j hj
theorem Dx {A N:Nat} {l:List (Int × Int)} {j:Nat} (hj:j<l.length) (h:iB A N (ix l j)=false):dU A N l=false:=by
 cases g:dU A N l with
 |false=>rfl
 |true=>
  unfold dU at g
  rw[Bool.and_eq_true] at g
  rw[uT g.1 hj] at h;cases h
theorem Dy {A N:Nat} {l:List (Int × Int)} {j:Nat} (hj:j<l.length) (h0:0<j) (h:ltP (ix l (j- 1)) (ix l j)=false):dU A N l=false:=by
 cases g:dU A N l with
 |false=>rfl
 |true=>
  unfold dU at g
  rw[Bool.and_eq_true] at g
  have:=List.all_eq_true.1 g.2 (j- 1) (List.mem_range.2 O)
  rw[show j- 1+1=j by omega,h] at this;cases this
theorem cQ {m:aB} (h:Inh (sys m)):m.aC.length≤140737488355328∧m.sT.length≤140737488355328∧∀k,k<m.sT.length→(ix m.sT k).length≤140737488355328:=
 ⟨(h.agg 0 rfl).len,(h.agg 1 rfl).len,fun _ hk=>((h.agg 1 rfl).el (gK hk) 0 rfl).len⟩
namespace T
theorem dJ:fD Tryz.prog 94 0 0:=eK kR
theorem dY:fD Tryz.prog 94 1 1:=eK kR
theorem dI:IsSlice Tryz.prog 87 94 2:=gU kR
theorem dA:iU Tryz.prog 94 2:=jJ kR
theorem z94:eW Tryz.prog 94 [.int .i64 0,.int .i64 0]:=cY kR
theorem bX:fD Tryz.prog 25 1 1:=eK kR
theorem cV:eF Tryz.prog 23:=fT kR
theorem eV:IsSlice Tryz.prog 23 87 1:=gU kR
theorem gC:fD Tryz.prog 25 0 0:=eK kR
theorem iG:eF Tryz.prog 87:=fT kR
theorem UX:Ent Tryz.prog 114:=aN kR
theorem z25:eW Tryz.prog 25 [.slice none 0 0,.slice none 0 0]:=cY kR
theorem oM:iZ Tryz.prog 25 [(0,1),(1,1)] [.slice none 0 0,.slice none 0 0]:=jB kR kR
theorem bK:iU Tryz.prog 25 2:=jJ kR
theorem pG:eL Tryz.prog 87 94 2 16 [.int .i64 0,.int .i64 0]:=jK kR kR
theorem sK:eL Tryz.prog 23 87 1 24 [.slice none 0 0]:=jK kR kR
end T
namespace sysw
theorem Ov (d e:Int × Int) (hd:bdP d) (he:bdP e):
 Fn0 Tryz.prog 114 [agg [int d.1,int d.2],agg [int e.1,int e.2]] (int (oZ d e)):=by
 refine fnI Tryz.func114 rfl rfl (fun w0 F0=> ?_)
 unfold bdP at hd he
 refine sq (rg (bx (key:=2) (cs:= [int d.1,int d.2]) J fun b2=>(bx (key:=3) (cs:= [int e.1,int e.2]) J fun b3=>(ag (nl (th (sq (sq (rg (fP J T.dJ (lP J J J T.aH (fP J T.dJ (lP J J J T.aH (bi J J fR (nl (th ?_))))))))))))))))
 refine cd J (fun hc0=> ?_) (fun hc0=> ?_)
 ·try simp at hc0
  refine sq (rg (fP J T.dJ (lP J J J T.aH (fP J T.dJ (lP J J J T.aH (bi J J (kZ i6) (ag (nl (th (rt (rt_ ?_)))))))))))
  have hr0:((d.1- e.1):Int)=(oZ d e):=by
   unfold oZ;rw[if_neg hc0]
  exact rE () [.tmp 4] J [int (d.1- e.1)] ⟨.tmp J,tV⟩ (cA1 (fun x0=>rV [int x0]) hr0) trivial eX
 ·try simp at hc0
  refine sk (th (sq (rg (fP J T.dY (lP J J J T.aH (fP J T.dY (lP J J J T.aH (bi J J (kZ i6) (ag (nl (th (rt ?_))))))))))))
  have hr0:((d.2- e.2):Int)=(oZ d e):=by
   unfold oZ;rw[if_pos hc0]
  exact rE () [.tmp 4] J [int (d.2- e.2)] ⟨.tmp J,tV⟩ (cA1 (fun x0=>rV [int x0]) hr0) trivial eX
theorem xS (l:List (Int × Int)) (hl:∀e∈l,0≤e.1∧e.1<8):
 Fn0 Tryz.prog 98 [sl 2 pE l] (int (dS l)):=by
 refine fnI Tryz.func98 rfl rfl (fun w0 F0=> ?_)
 refine fcC (aT 0 J) (fun hm0=> ?_)
 refine sq (rg (ag (nl (th (sq (rg (ag (nl (th (sq (sq (rg (mv (lnF J T.dI (mv (nl (th (bk ?_))))))))))))))))))
 have hI0_0:0≤l.length:=by
  first|omega|simp
 have hI0_1:(0:Int)=dS (l.take 0)∧0≤(0:Int)∧(0:Int)<256:=by
  exact⟨rfl,O,O⟩
 refine lp (κ:=Nat × Int) (fun p=> [(2,int 0),(3,int p.2),(6,sl 2 pE l),(7,int (l.length:Int)),(8,int (p.1:Int))]) (fun p=> []) (fun p=>(p.1≤l.length)∧(p.2=dS (l.take p.1)∧0≤p.2∧p.2<256)) (fun p=>l.length- p.1) ⟨0,(0:Int)⟩ ⟨hI0_0,hI0_1⟩ ⟨id,id,id,id,id,tV⟩ trivial ?_
 intro⟨k,u⟩ hG0
 obtain⟨hk0,⟨hu,hu0,hu1⟩⟩:(k≤l.length)∧(u=dS (l.take k)∧0≤u∧u<256):=hG0
 show Ct _ _ _ _ [(2,int 0),(3,int u),(6,sl 2 pE l),(7,int (l.length:Int)),(8,int (k:Int))] [] _
 refine sq (rg (bi J J aO (nl (th (sq ?_)))))
 refine cd J (fun hc0=> ?_) (fun hc0=> ?_)
 ·try simp at hc0
  have hek:=hl _ (aX hc0)
  have hp:2^ ((ix l k).1).toNat≤2^7:=Nat.pow_le_pow_right O O
  have hp0:0≤((2^ ((ix l k).1).toNat:Nat):Int):=Int.natCast_nonneg _
  refine sk (th (sq (bk (sq (rg (iF J J T.dI O gB (lFA J T.dA (Nat.le_of_ble_eq_true J) (al (key:=5) T.z94 (eC (eC eZ)) fun b5=>(sPA (cs':= [int ((ix l k).1),int ((ix l k).2)]) J J J T.dA J J (nl (th (rg (mv (fP J T.dJ (lP J J J T.aH (bi J J (pX O O) (bi J J (tA O O O O) (ag (nl (eb (th (rg (bi J J (aG i6) (mv (nl ?_)))))))))))))))))))))))))
  have hN0:(k+1)≤l.length:=by
   first|omega|simp_all
  have hN1:((u.toNat|||(2^ ((ix l k).1).toNat):Nat):Int)=dS (l.take (k+1))∧0≤((u.toNat|||(2^ ((ix l k).1).toNat):Nat):Int)∧((u.toNat|||(2^ ((ix l k).1).toNat):Nat):Int)<256:=by
   refine⟨?_,O,jY (b:=((2^ ((ix l k).1).toNat:Nat):Int)) hu1 O⟩
   rw[bJ hc0]
   unfold dS
   rw[List.map_append,List.map_cons,List.map_nil,gV,hu];rfl
  exact ln (⟨k+1,((u.toNat|||(2^ ((ix l k).1).toNat):Nat):Int)⟩:Nat × Int) ⟨hN0,hN1⟩ dO ⟨id,id,id,id,id,tV⟩ trivial
 ·try simp at hc0
  refine ex (xt_ (xt_ (xb (th (sq (rg (mv (ag (nl (th (rt ?_)))))))))))
  have hr0:(u:Int)=(dS l):=by
   rw[hu,show k=l.length by omega,List.take_length]
  exact rE () [.tmp 2] J [int u] ⟨.tmp J,tV⟩ (cA1 (fun x0=>rV [int x0]) hr0) trivial eX
theorem kB (m:aB):
 Fn0 Tryz.prog 66 [sys m] (bl (bL m)):=by
 refine fnI Tryz.func66 rfl rfl (fun w0 F0=> ?_)
 refine fcC (bV 0 J) (fun hS0=> ?_)
 obtain⟨hma0,hms0,hme0⟩:=cQ hS0
 refine sq (rg (bx (key:=1) (cs:= [sl 1 rE_ m.aC,sl 1 gE m.sT]) J fun b1=>(ag (nl (th (sq (rg (fP J T.bX (lP J J J T.cV (fc (aT 10 J) fun hm10=>(lnF J T.eV (ag (nl (th (sq (sq (rg (fP J T.gC (lP J J J T.cK (aZ (φs:= [sl 1 rE_ m.aC]) (φ:=bl (bZ m.aC)) ⟨J,tV⟩ (prog.Dk _) T.KT (no J (mv ?_))))))))))))))))))))))
 apply gOr (t:=16) (pd:=19) rfl
 rotate_left
 ·intro hg0 fin
  have hg0':=hg0
  try simp at hg0'
  exact gy J J J hg0 (mv (gy J J J hg0 (bi J J aO (pkF J hg0 J (drp (X:= [(18,_),(17,_)]) ⟨J,J,tV⟩ fin)))))
 ·intro hg0 fin
  exact gn J J J hg0 J J (gn J J J hg0 J J (pkT J hg0 J (drp (X:= [(18,_),(17,_)]) ⟨J,J,tV⟩ fin)))
 refine mv ?_
 apply gOr (t:=20) (pd:=23) rfl
 rotate_left
 ·intro hg1 fin
  have hg1':=hg1
  try simp at hg1'
  exact gy J J J hg1 (mv (gy J J J hg1 (bi J J fJ (pkF J hg1 J (drp (X:= [(22,_),(21,_)]) ⟨J,J,tV⟩ fin)))))
 ·intro hg1 fin
  exact gn J J J hg1 J J (gn J J J hg1 J J (pkT J hg1 J (drp (X:= [(22,_),(21,_)]) ⟨J,J,tV⟩ fin)))
 refine nl (th ?_)
 refine cd J (fun hc0=> ?_) (fun hc0=> ?_)
 ·try simp at hc0
  refine sq (rg (ag (nl (th (rt (rt_ ?_))))))
  have hr0:false=(bL m):=by
   unfold bL
   by_cases h:bZ m.aC=true
   ·simp[h] at hc0 ⊢
    omega
   ·simp[h]
  exact rE () [.tmp 2] J [bl false] ⟨.tmp J,tV⟩ (cA1 (fun x0=>rV [bl x0]) hr0) trivial eX
 ·try simp at hc0
  have hact:=gF (l:=m.aC) (by simp_all)
  refine sk (th (sq (rg (ag (nl (th (sq (sq (rg (fP J T.bX (lP J J J T.cV (lnF J T.eV (mv (nl (th (bk ?_))))))))))))))))
  have hI0_0:0≤m.sT.length:=by
   first|omega|simp
  have hI0_1:(0:Int)=(bU (m.sT.take 0):Int)∧(m.sT.take 0).all (dU m.aC.length m.sT.length)=true∧(0:Int)≤400000:=by
   exact⟨rfl,by simp,O⟩
  refine lp (κ:=Nat × Int) (fun p=> [(1,ptr 1 b1 0),(3,int (m.sT.length:Int)),(4,int p.2),(25,sl 1 gE m.sT),(26,int (m.sT.length:Int)),(27,int (p.1:Int))]) (fun p=> [(1,cell b1 [sl 1 rE_ m.aC,sl 1 gE m.sT])]) (fun p=>(p.1≤m.sT.length)∧(p.2=(bU (m.sT.take p.1):Int)∧(m.sT.take p.1).all (dU m.aC.length m.sT.length)=true∧p.2≤400000)) (fun p=>m.sT.length- p.1) ⟨0,(0:Int)⟩ ⟨hI0_0,hI0_1⟩ ⟨id,id,id,id,id,id,tV⟩ ⟨rI,tV⟩ ?_
  intro⟨k,n⟩ hG0
  obtain⟨hk0,⟨hn,hal,hn4⟩⟩:(k≤m.sT.length)∧(n=(bU (m.sT.take k):Int)∧(m.sT.take k).all (dU m.aC.length m.sT.length)=true∧n≤400000):=hG0
  show Ct _ _ _ _ [(1,ptr 1 b1 0),(3,int (m.sT.length:Int)),(4,int n),(25,sl 1 gE m.sT),(26,int (m.sT.length:Int)),(27,int (k:Int))] [(1,cell b1 [sl 1 rE_ m.aC,sl 1 gE m.sT])] _
  have hmk:=hme0 k
  refine sq (rg (bi J J aO (nl (th (sq ?_)))))
  refine cd J (fun hc1=> ?_) (fun hc1=> ?_)
  ·try simp at hc1
   refine sk (th (sq (bk (sq (rg (iF J J T.eV O gB (lF J J T.iG (ag (nl (th (sq (rg (mv (mv (fc (aT 32 J) fun hm32=>(lnF J T.dI (bi J J (aG i6) (ag (nl (th (sq (sq (rg (mv (bi J J fJ (nl (th ?_)))))))))))))))))))))))))))
   refine cd J (fun hc2=> ?_) (fun hc2=> ?_)
   ·try simp at hc2
    refine sq (rg (ag (nl (th (rt (rt_ (rb (rt_ (rt_ (rb (rt_ ?_)))))))))))
    have hr0:false=(bL m):=by
     unfold bL
     rw[decide_eq_false (p:=bU m.sT≤400000) (by have:=uG m.sT (k+1);rw[bJ O,kP] at this;omega)]
     simp
    exact rE () [.tmp 2] J [bl false] ⟨.tmp J,tV⟩ (cA1 (fun x0=>rV [bl x0]) hr0) trivial eX
   ·try simp at hc2
    refine sk (th (sq (rg (mv (lnF J T.dI (mv (nl (th (bk ?_)))))))))
    have hI1_0:0≤(ix m.sT k).length:=by
     first|omega|simp
    have hI1_1:(∀j,j<0→iB m.aC.length m.sT.length (ix (ix m.sT k) j)=true)∧∀j,j+1<0→ltP (ix (ix m.sT k) j) (ix (ix m.sT k) (j+1))=true:=by
     exact⟨fun j hj=>by omega,fun j hj=>by omega⟩
    refine lp (κ:=Nat) (fun p=> [(1,ptr 1 b1 0),(3,int (m.sT.length:Int)),(4,int (n+((ix m.sT k).length:Int))),(6,sl 2 pE (ix m.sT k)),(25,sl 1 gE m.sT),(26,int (m.sT.length:Int)),(27,int (k:Int)),(37,sl 2 pE (ix m.sT k)),(38,int ((ix m.sT k).length:Int)),(39,int (p:Int))]) (fun p=> [(1,cell b1 [sl 1 rE_ m.aC,sl 1 gE m.sT])]) (fun p=>(p≤(ix m.sT k).length)∧((∀j,j<p→iB m.aC.length m.sT.length (ix (ix m.sT k) j)=true)∧∀j,j+1<p→ltP (ix (ix m.sT k) j) (ix (ix m.sT k) (j+1))=true)) (fun p=>(ix m.sT k).length- p) 0 ⟨hI1_0,hI1_1⟩ ⟨id,id,id,id,id,id,id,id,id,id,tV⟩ ⟨rI,tV⟩ ?_
    intro k1 hG1
    obtain⟨hk1,hI1⟩:(k1≤(ix m.sT k).length)∧((∀j,j<k1→iB m.aC.length m.sT.length (ix (ix m.sT k) j)=true)∧∀j,j+1<k1→ltP (ix (ix m.sT k) j) (ix (ix m.sT k) (j+1))=true):=hG1
    refine sq (rg (bi J J aO (nl (th (sq ?_)))))
    refine cd J (fun hc3=> ?_) (fun hc3=> ?_)
    ·try simp at hc3
     refine sk (th (sq (bk (sq (rg (mv (iF J J T.dI O gB (lFA J T.dA (Nat.le_of_ble_eq_true J) (al (key:=8) T.z94 (eC (eC eZ)) fun b8=>(ag (sPA (cs':= [int ((ix (ix m.sT k) k1).1),int ((ix (ix m.sT k) k1).2)]) J J J T.dA J J (nl (th (sq (dr (nh:=36) [0,1,3,7,15,31,15,79,207,511,1023,2047,4095,8191,16383,32767,65535,131071,262143,131071,1048575,2097151,4194303,8388607,16777215,33554431,67108863,67108863,201326591,536870911,1073741823,67108863,4294967295,8589934591,17179869183,34359738367] T.mixed kR ?_)))))))))))))))
     refine st_ J (fun _ _ _ gq kq=>fP (gq.1.trans J) T.dJ kq) ?_
     refine st_ J (fun _ _ _ gq kq=>lP (gq.1.trans J) J J T.aH kq) ?_
     refine st_ J (fun _ _ _ gq kq=>bi (gq.1.trans J) J aO kq) ?_
     refine st_ J (fun _ _ _ gq kq=>mv' (gq.1.trans J) kq) ?_
     refine sg_ (φ:=ptr 8 b8 0) J J J J (List.mem_of_elem_eq_true J) (fun hgd=> ?_) ?_
     ·have hgd':=hgd
      try simp at hgd'
      exact fun _ _ _ gq kq=>fP (gq.1.trans J) T.dJ kq
     refine sg_ (φ:=int ((ix (ix m.sT k) k1).1)) J J J J (List.mem_of_elem_eq_true J) (fun hgd=> ?_) ?_
     ·have hgd':=hgd
      try simp at hgd'
      exact fun _ _ _ gq kq=>lP (gq.1.trans (cF hgd)) J J T.aH kq
     refine sg_ (φ:=ptr 1 b1 0) J J J J (List.mem_of_elem_eq_true J) (fun hgd=> ?_) ?_
     ·have hgd':=hgd
      try simp at hgd'
      exact fun _ _ _ gq kq=>fP (gq.1.trans J) T.gC kq
     refine sg_ (φ:=sl 1 rE_ m.aC) J J J J (List.mem_of_elem_eq_true J) (fun hgd=> ?_) ?_
     ·have hgd':=hgd
      try simp at hgd'
      exact fun _ _ _ gq kq=>lP (gq.1.trans (cF hgd)) J J T.cK kq
     refine sg_ (φ:=int (m.aC.length:Int)) J J J J (List.mem_of_elem_eq_true J) (fun hgd=> ?_) ?_
     ·have hgd':=hgd
      try simp at hgd'
      exact fun _ _ _ gq kq=>lnF (gq.1.trans (cF hgd)) T.dW kq
     refine sg_ (φ:=bl (decide ((m.aC.length:Int)≤((ix (ix m.sT k) k1).1)))) J J J J (List.mem_of_elem_eq_true J) (fun hgd=> ?_) ?_
     ·have hgd':=hgd
      try simp at hgd'
      exact fun _ _ _ gq kq=>bi (gq.1.trans (cF hgd)) (gq.2.1.trans (cF hgd)) fK kq
     refine st_ J (fun _ _ _ gq kq=>pk (gq.1.trans J) (qY (x:= .tmp 47) (gq.1.trans J) (gq.2.1.trans J) J) kq) ?_
     refine st_ J (fun _ _ _ gq kq=>mv' (gq.1.trans J) kq) ?_
     refine sg_ (φ:=ptr 8 b8 1) J J J J (List.mem_of_elem_eq_true J) (fun hgd=> ?_) ?_
     ·have hgd':=hgd
      try simp at hgd'
      exact fun _ _ _ gq kq=>fP (gq.1.trans J) T.dY kq
     refine sg_ (φ:=int ((ix (ix m.sT k) k1).2)) J J J J (List.mem_of_elem_eq_true J) (fun hgd=> ?_) ?_
     ·have hgd':=hgd
      try simp at hgd'
      exact fun _ _ _ gq kq=>lP (gq.1.trans (cF hgd)) J J T.aH kq
     refine sg_ (φ:=bl (decide (((ix (ix m.sT k) k1).2)<0))) J J J J (List.mem_of_elem_eq_true J) (fun hgd=> ?_) ?_
     ·have hgd':=hgd
      try simp at hgd'
      exact fun _ _ _ gq kq=>bi (gq.1.trans (cF hgd)) J aO kq
     refine st_ J (fun _ _ _ gq kq=>pk (gq.1.trans J) (qY (x:= .tmp 55) (gq.1.trans J) (gq.2.1.trans J) J) kq) ?_
     refine st_ J (fun _ _ _ gq kq=>mv' (gq.1.trans J) kq) ?_
     refine sg_ (φ:=ptr 8 b8 1) J J J J (List.mem_of_elem_eq_true J) (fun hgd=> ?_) ?_
     ·have hgd':=hgd
      try simp at hgd'
      exact fun _ _ _ gq kq=>fP (gq.1.trans J) T.dY kq
     refine sg_ (φ:=int ((ix (ix m.sT k) k1).2)) J J J J (List.mem_of_elem_eq_true J) (fun hgd=> ?_) ?_
     ·have hgd':=hgd
      try simp at hgd'
      exact fun _ _ _ gq kq=>lP (gq.1.trans (cF hgd)) J J T.aH kq
     refine sg_ (φ:=int (m.sT.length:Int)) J J J J (List.mem_of_elem_eq_true J) (fun hgd=> ?_) ?_
     ·have hgd':=hgd
      try simp at hgd'
      exact fun _ _ _ gq kq=>mv' (gq.1.trans J) kq
     refine sg_ (φ:=bl (decide ((m.sT.length:Int)≤((ix (ix m.sT k) k1).2)))) J J J J (List.mem_of_elem_eq_true J) (fun hgd=> ?_) ?_
     ·have hgd':=hgd
      try simp at hgd'
      exact fun _ _ _ gq kq=>bi (gq.1.trans (cF hgd)) (gq.2.1.trans (cF hgd)) fK kq
     refine st_ J (fun _ _ _ gq kq=>pk (gq.1.trans J) (qY (x:= .tmp 60) (gq.1.trans J) (gq.2.1.trans J) J) kq) ?_
     refine st_ J (fun _ _ _ gq kq=>mv' (gq.1.trans J) kq) ?_
     refine sg_ (φ:=int (k1:Int)) J J J J (List.mem_of_elem_eq_true J) (fun hgd=> ?_) ?_
     ·have hgd':=hgd
      try simp at hgd'
      exact fun _ _ _ gq kq=>mv' (gq.1.trans J) kq
     refine sg_ (φ:=bl (decide (0<(k1:Int)))) J J J J (List.mem_of_elem_eq_true J) (fun hgd=> ?_) ?_
     ·have hgd':=hgd
      try simp at hgd'
      exact fun _ _ _ gq kq=>bi (gq.1.trans (cF hgd)) J fJ kq
     refine sg_ (φ:=bl (decide (0<(k1:Int)))) J J J J (List.mem_of_elem_eq_true J) (fun hgd=> ?_) ?_
     ·have hgd':=hgd
      try simp at hgd'
      exact fun _ _ _ gq kq=>mv' (gq.1.trans (cF hgd)) kq
     refine mC (φ:=sl 2 pE (ix m.sT k)) rfl rfl rfl rfl (List.mem_of_elem_eq_true rfl) (fun hgd hgd2=> ?_) ?_
     ·have hgd':=hgd
      try simp at hgd'
      have hgd2':=hgd2
      try simp at hgd2'
      exact fun _ _ _ gq kq=>mv' (gq.1.trans J) kq
     refine mC (φ:=int (k1:Int)) rfl rfl rfl rfl (List.mem_of_elem_eq_true rfl) (fun hgd hgd2=> ?_) ?_
     ·have hgd':=hgd
      try simp at hgd'
      have hgd2':=hgd2
      try simp at hgd2'
      exact fun _ _ _ gq kq=>mv' (gq.1.trans J) kq
     refine mC (φ:=int ((k1:Int)- 1)) rfl rfl rfl rfl (List.mem_of_elem_eq_true rfl) (fun hgd hgd2=> ?_) ?_
     ·have hgd':=hgd
      try simp at hgd'
      have hgd2':=hgd2
      try simp at hgd2'
      exact fun _ _ _ gq kq=>bi (gq.1.trans (jC hgd hgd2)) J (kZ i6) kq
     refine mC (φ:=fp [int ((ix (ix m.sT k) ((k1:Int)- 1).toNat).1),int ((ix (ix m.sT k) ((k1:Int)- 1).toNat).2)]) rfl rfl rfl rfl (List.mem_of_elem_eq_true rfl) (fun hgd hgd2=> ?_) ?_
     ·have hgd':=hgd
      try simp at hgd'
      have hgd2':=hgd2
      try simp at hgd2'
      exact fun _ _ _ gq kq=>iF (gq.1.trans (jC hgd hgd2)) (gq.2.1.trans (jC hgd hgd2)) T.dI O gB kq
     refine mC (φ:=agg [int ((ix (ix m.sT k) ((k1:Int)- 1).toNat).1),int ((ix (ix m.sT k) ((k1:Int)- 1).toNat).2)]) rfl rfl rfl rfl (List.mem_of_elem_eq_true rfl) (fun hgd hgd2=> ?_) ?_
     ·have hgd':=hgd
      try simp at hgd'
      have hgd2':=hgd2
      try simp at hgd2'
      exact fun _ _ _ gq kq=>lFA (gq.1.trans (jC hgd hgd2)) T.dA (Nat.le_of_ble_eq_true J) kq
     refine mC (φ:=agg [int ((ix (ix m.sT k) k1).1),int ((ix (ix m.sT k) k1).2)]) rfl rfl rfl rfl (List.mem_of_elem_eq_true rfl) (fun hgd hgd2=> ?_) ?_
     ·have hgd':=hgd
      try simp at hgd'
      have hgd2':=hgd2
      try simp at hgd2'
      exact fun _ _ _ gq kq=>lPA (gq.1.trans J) J T.dA J kq
     refine mC (φ:=int (oZ ((ix (ix m.sT k) ((k1:Int)- 1).toNat).1,(ix (ix m.sT k) ((k1:Int)- 1).toNat).2) ((ix (ix m.sT k) k1).1,(ix (ix m.sT k) k1).2))) rfl rfl rfl rfl (List.mem_of_elem_eq_true rfl) (fun hgd hgd2=> ?_) ?_
     ·have hgd':=hgd
      try simp at hgd'
      have hgd2':=hgd2
      try simp at hgd2'
      have hp1:=eD.1 (hI1.1 ((k1:Int)- 1).toNat O)
      have hb1:bdP ((ix (ix m.sT k) ((k1:Int)- 1).toNat).1,(ix (ix m.sT k) ((k1:Int)- 1).toNat).2):=by unfold bdP;dsimp only;omega
      have hb2:bdP ((ix (ix m.sT k) k1).1,(ix (ix m.sT k) k1).2):=by unfold bdP;dsimp only;omega
      exact fun _ _ _ gq kq=>aZ (φs:= [agg [int ((ix (ix m.sT k) ((k1:Int)- 1).toNat).1),int ((ix (ix m.sT k) ((k1:Int)- 1).toNat).2)],agg [int ((ix (ix m.sT k) k1).1),int ((ix (ix m.sT k) k1).2)]]) (φ:=int (oZ ((ix (ix m.sT k) ((k1:Int)- 1).toNat).1,(ix (ix m.sT k) ((k1:Int)- 1).toNat).2) ((ix (ix m.sT k) k1).1,(ix (ix m.sT k) k1).2))) ⟨(gq.1.trans (jC hgd hgd2)),(gq.2.1.trans (jC hgd hgd2)),tV⟩ (sysw.Ov ((ix (ix m.sT k) ((k1:Int)- 1).toNat).1,(ix (ix m.sT k) ((k1:Int)- 1).toNat).2) ((ix (ix m.sT k) k1).1,(ix (ix m.sT k) k1).2) aS aS) T.UX kq
     refine mC (φ:=bl (decide (0≤(oZ ((ix (ix m.sT k) ((k1:Int)- 1).toNat).1,(ix (ix m.sT k) ((k1:Int)- 1).toNat).2) ((ix (ix m.sT k) k1).1,(ix (ix m.sT k) k1).2))))) rfl rfl rfl rfl (List.mem_of_elem_eq_true rfl) (fun hgd hgd2=> ?_) ?_
     ·have hgd':=hgd
      try simp at hgd'
      have hgd2':=hgd2
      try simp at hgd2'
      exact fun _ _ _ gq kq=>bi (gq.1.trans (jC hgd hgd2)) J fK kq
     refine sg_ (φ:=bl ((decide (0<(k1:Int)))&&(decide (0≤(oZ ((ix (ix m.sT k) ((k1:Int)- 1).toNat).1,(ix (ix m.sT k) ((k1:Int)- 1).toNat).2) ((ix (ix m.sT k) k1).1,(ix (ix m.sT k) k1).2)))))) J J J J (List.mem_of_elem_eq_true J) (fun hgd=> ?_) ?_
     ·have hgd':=hgd
      try simp at hgd'
      exact fun _ _ _ gq kq=>pk (gq.1.trans (cF hgd)) (Fa (x:= .tmp 69) (gq.1.trans (cF hgd)) (gq.2.1.trans (HK hgd)) J) kq
     refine st_ J (fun _ _ _ gq kq=>pk (gq.1.trans J) (qY (x:= .tmp 66) (gq.1.trans J) (gq.2.1.trans J) J) kq) ?_
     refine pn (nl (th ?_))
     refine cd J (fun hc4=> ?_) (fun hc4=> ?_)
     ·skip
      simp only [Bool.or_eq_true,Bool.and_eq_true,decide_eq_true_eq] at hc4
      refine sq (rg (ag (nl (th (rt (rb (rt_ (rt_ (rb (rb (rt_ (rt_ (rb (rt_ ?_))))))))))))))
      have hr0:false=(bL m):=by
       unfold bL
       rw[fV (xs:=m.sT) (k:=k) O ?_];simp
       have hno:∀{p:Prop},(iB m.aC.length m.sT.length (ix (ix m.sT k) k1)=true→¬p)→p→dU m.aC.length m.sT.length (ix m.sT k)=false:=fun hh hp=>Dx hc3 (by cases g:iB m.aC.length m.sT.length (ix (ix m.sT k) k1) with|false=>rfl|true=>exact absurd hp (hh g))
       rcases hc4 with(((h|h)|h)|h)|h
       ·exact hno (fun g=>by have:=eD.1 g;omega) h
       ·exact hno (fun g=>by have:=eD.1 g;omega) h
       ·exact hno (fun g=>by have:=eD.1 g;omega) h
       ·exact hno (fun g=>by have:=eD.1 g;omega) h
       ·have h5:=Sj h.2
        rw[show((k1:Int)- 1).toNat=k1- 1 by omega] at h5
        refine Dy hc3 O ?_
        cases g:ltP (ix (ix m.sT k) (k1- 1)) (ix (ix m.sT k) k1) with
        |false=>rfl
        |true=>exact absurd (pF.1 g) h5
      exact rE () [.tmp 2] J [bl false] ⟨.tmp J,tV⟩ (cA1 (fun x0=>rV [bl x0]) hr0) trivial eX
     ·skip
      simp only [Bool.or_eq_false_iff,Bool.and_eq_false_iff,decide_eq_false_iff_not] at hc4
      obtain⟨⟨⟨⟨h41,h42⟩,h43⟩,h44⟩,h45⟩:=hc4
      refine sk (eb (th (rg (bi J J (aG i6) (mv (nl ?_))))))
      have hN0:(k1+1)≤(ix m.sT k).length:=by
       first|omega|simp_all
      have hN1:(∀j,j<(k1+1)→iB m.aC.length m.sT.length (ix (ix m.sT k) j)=true)∧∀j,j+1<(k1+1)→ltP (ix (ix m.sT k) j) (ix (ix m.sT k) (j+1))=true:=by
       refine⟨fun j hj=> ?_,fun j hj=> ?_⟩
       ·by_cases e:j=k1
        ·subst e;exact eD.2 ⟨O,O,O,O⟩
        ·exact hI1.1 j O
       ·by_cases e:j+1=k1
        ·subst e
         rcases h45 with h|h
         ·exact absurd O h
         ·rw[show(((j+1:Nat):Int)- 1).toNat=j by omega] at h
          exact pF.2 (Si h)
        ·exact hI1.2 j O
      exact ln (k1+1) ⟨hN0,hN1⟩ dO ⟨id,id,id,id,id,id,id,id,id,id,tV⟩ ⟨rI,tV⟩
    ·try simp at hc3
     refine ex (xt_ (xt_ (xb (eb (th (rg (bi J J (aG i6) (mv (nl ?_)))))))))
     have hN0:(k+1)≤m.sT.length:=by
      first|omega|simp_all
     have hN1:(n+((ix m.sT k).length:Int))=(bU (m.sT.take (k+1)):Int)∧(m.sT.take (k+1)).all (dU m.aC.length m.sT.length)=true∧(n+((ix m.sT k).length:Int))≤400000:=by
      refine⟨?_,?_,O⟩
      ·rw[bJ O,kP];omega
      ·rw[eQ O,hal,sJ (fun j hj=>hI1.1 j O) (fun j hj=>hI1.2 j O)];rfl
     exact ln (⟨k+1,n+((ix m.sT k).length:Int)⟩:Nat × Int) ⟨hN0,hN1⟩ dO ⟨id,id,id,id,id,id,tV⟩ ⟨rI,tV⟩
  ·try simp at hc1
   refine ex (xt_ (xt_ (xb (th (sq (rg (ag (nl (th (rt ?_))))))))))
   have hr0:true=(bL m):=by
    have hkk:k=m.sT.length:=by omega
    rw[hkk,List.take_length] at hal hn
    unfold bL
    rw[hal,hc0.1.1]
    simp;omega
   exact rE () [.tmp 2] J [bl true] ⟨.tmp J,tV⟩ (cA1 (fun x0=>rV [bl x0]) hr0) trivial eX
theorem Ff (m:aB) (most:Int) (hm:most≤1000000):
 Fn0 Tryz.prog 45 [sys m,int most] (bl (xR m most)):=by
 refine fnI Tryz.func45 rfl rfl (fun w0 F0=> ?_)
 refine fcC (bV 0 J) (fun hS0=> ?_)
 obtain⟨hma0,hms0,hme0⟩:=cQ hS0
 refine sq (rg (bx (key:=2) (cs:= [sl 1 rE_ m.aC,sl 1 gE m.sT]) J fun b2=>(ag (nl (th (sq (rg (fP J T.gC (lP J J J T.cK (fc (aT 8 J) fun hm8=>(lnF J T.dW (fP J T.bX (lP J J J T.cV (fc (aT 11 J) fun hm11=>(lnF J T.eV (bi J J (aG i6) (ag (nl (th (sq (sq (rg (ag (nl (th (bk ?_))))))))))))))))))))))))))
 have hI0_0:((m.aC.length+m.sT.length:Nat):Int)=((m.aC.length+m.sT.length+bU (m.sT.take 0):Nat):Int)∧0≤m.sT.length:=by
  exact⟨by simp[bU],Nat.zero_le _⟩
 refine lp (κ:=Nat × Int) (fun p=> [(1,int most),(2,ptr 2 b2 0),(4,bl false),(5,int p.2),(6,int (p.1:Int))]) (fun p=> [(2,cell b2 [sl 1 rE_ m.aC,sl 1 gE m.sT])]) (fun p=>p.2=((m.aC.length+m.sT.length+bU (m.sT.take p.1):Nat):Int)∧p.1≤m.sT.length) (fun p=>m.sT.length- p.1) ⟨0,((m.aC.length+m.sT.length:Nat):Int)⟩ hI0_0 ⟨id,id,id,id,id,tV⟩ ⟨rI,tV⟩ ?_
 intro⟨i,n⟩ hG0
 obtain⟨hn,hil⟩:n=((m.aC.length+m.sT.length+bU (m.sT.take i):Nat):Int)∧i≤m.sT.length:=hG0
 show Ct _ _ _ _ [(1,int most),(2,ptr 2 b2 0),(4,bl false),(5,int n),(6,int (i:Int))] [(2,cell b2 [sl 1 rE_ m.aC,sl 1 gE m.sT])] _
 refine sq (sq (rg (mv (fP J T.bX (lP J J J T.cV (lnF J T.eV (bi J J aO (mv ?_))))))))
 apply cZ (t:=19) (pd:=23) rfl
 rotate_left
 ·intro hg0 fin
  have hg0':=hg0
  try simp at hg0'
  exact gy J J J hg0 (mv (gy J J J hg0 (mv (gy J J J hg0 (bi J J nV (pkT J hg0 J (drp (X:= [(22,_),(21,_),(20,_)]) ⟨J,J,J,tV⟩ fin)))))))
 ·intro hg0 fin
  exact gn J J J hg0 J J (gn J J J hg0 J J (gn J J J hg0 J J (pkF J hg0 J (drp (X:= [(22,_),(21,_),(20,_)]) ⟨J,J,J,tV⟩ fin))))
 refine nl (th ?_)
 refine cd J (fun hc0=> ?_) (fun hc0=> ?_)
 ·try simp at hc0
  refine sk (th (sq (bk (rg (mv (fP J T.bX (lP J J J T.cV (mv (iF J J T.eV O gB (lF J J T.iG (fc (aT 31 J) fun hm31=>(lnF J T.dI (bi J J (aG i6) (ag (nl (eb (th (rg (mv (bi J J (aG i6) (ag (nl ?_))))))))))))))))))))))
  have hN0:(n+((ix m.sT i).length:Int))=((m.aC.length+m.sT.length+bU (m.sT.take (i+1)):Nat):Int)∧(i+1)≤m.sT.length:=by
   refine⟨?_,O⟩
   rw[bJ O,kP];omega
  exact ln (⟨i+1,n+((ix m.sT i).length:Int)⟩:Nat × Int) hN0 dO ⟨id,id,id,id,id,tV⟩ ⟨rI,tV⟩
 ·try simp at hc0
  refine ex (xt_ (xt_ (xb (th (sq (rg (mv (mv (bi J J nV (ag (nl (th (rt ?_)))))))))))))
  have hr0:(decide (n≤most))=(xR m most):=by
   unfold xR BI
   have h1:=uG m.sT i
   by_cases h2:i<m.sT.length
   ·rw[decide_eq_false O,decide_eq_false O]
   ·rw[hn,show i=m.sT.length by omega,List.take_length]
  exact rE () [.tmp 4] J [bl (decide (n≤most))] ⟨.tmp J,tV⟩ (cA1 (fun x0=>rV [bl x0]) hr0) trivial eX
theorem Co (m:aB) (hs:BI m≤100000000):
 AL.Fn Tryz.prog 17 [sys m] [] (ι:=Unit) (fun N _=>UV N m) (fun _=> []):=by
 refine fnI Tryz.func17 rfl rfl (fun w0 F0=> ?_)
 have hsz:=hs;unfold BI at hsz
 refine fcC (bV 0 J) (fun hS0=> ?_)
 obtain⟨hma0,hms0,hme0⟩:=cQ hS0
 refine sq (rg (bx (key:=1) (cs:= [sl 1 rE_ m.aC,sl 1 gE m.sT]) J fun b1=>(al (key:=2) T.z25 (eC (eC eZ)) fun b2=>(nl (th (sq (rg (fP J T.gC (lP J J J T.cK (uQ (enc:=rE_) (ys:=m.aC) J J T.uB mL flat (bd (css:= [(0,_)]) T.oM (eC (eC eZ)) ⟨J,J,p1 (φ:=fre w0.heap.size (sl 1 rE_ m.aC)) J,tV⟩ (al (key:=3) T.z25 (eC (eC eZ)) fun b3=>(sPA (cs':= [fre w0.heap.size (sl 1 rE_ m.aC),eqv (.slice none 0 0)]) J J J T.bK J J (nl (th (sq (sq (rg (fP J T.bX (lP J J J T.cV (fc (aT 11 J) fun hm11=>(lnF J T.eV (mv (nl (th (bk ?_))))))))))))))))))))))))))
 refine nwC 30 87 1 (lH w0.heap.size) (iJ 3 1 (osl 30 (.slice none 0 0)) rfl rfl cS ?_)
 have hI0_0:0≤m.sT.length:=by
  first|omega|simp
 have hI0_1:([]:List (List (Int × Int)))=m.sT.take 0:=by
  rfl
 refine lp (κ:=Nat × Value × (List (List (Int × Int)))) (fun p=> [(2,ptr 2 b2 0),(3,ptr 3 b3 0),(11,sl 1 gE m.sT),(12,int (m.sT.length:Int)),(13,int (p.1:Int))]) (fun p=> [(1,cell b1 [sl 1 rE_ m.aC,sl 1 gE m.sT]),(2,cell b2 [eqv (.slice none 0 0),eqv (.slice none 0 0)]),(3,cell b3 [fre w0.heap.size (sl 1 rE_ m.aC),osl 30 p.2.1]),(30,own p.2.1 87 1 (lH w0.heap.size) p.2.2)]) (fun p=>(p.1≤m.sT.length)∧(p.2.2=m.sT.take p.1)) (fun p=>m.sT.length- p.1) ⟨0,(.slice none 0 0),([]:List (List (Int × Int)))⟩ ⟨hI0_0,hI0_1⟩ ⟨id,id,id,id,id,tV⟩ ⟨rI,rI,rI,rI,tV⟩ ?_
 intro⟨k,v,acc⟩ hG0
 obtain⟨hk0,hI0⟩:(k≤m.sT.length)∧(acc=m.sT.take k):=hG0
 show Ct _ _ _ _ [(2,ptr 2 b2 0),(3,ptr 3 b3 0),(11,sl 1 gE m.sT),(12,int (m.sT.length:Int)),(13,int (k:Int))] [(1,cell b1 [sl 1 rE_ m.aC,sl 1 gE m.sT]),(2,cell b2 [eqv (.slice none 0 0),eqv (.slice none 0 0)]),(3,cell b3 [fre w0.heap.size (sl 1 rE_ m.aC),osl 30 v]),(30,own v 87 1 (lH w0.heap.size) acc)] _
 have hlen:acc.length≤k:=by rw[hI0];simp;omega
 refine sq (rg (bi J J aO (nl (th (sq ?_)))))
 refine cd J (fun hc0=> ?_) (fun hc0=> ?_)
 ·try simp at hc0
  have hb2:=Dw hc0
  refine sk (th (sq (bk (sq (rg (iF J J T.eV O gB (lF J J T.iG (ag (nl (th (dr (nh:=5) [0,1,0,4,12,31,63,127] T.mixed kR ?_)))))))))))
  refine st_ J (fun _ _ _ gq kq=>fP (gq.1.trans J) T.bX kq) ?_
  refine st_ J (fun _ _ _ gq kq=>lP (gq.1.trans J) J J T.cV kq) ?_
  refine st_ J (fun _ _ _ gq kq=>mv' (gq.1.trans J) kq) ?_
  refine st_ J (fun _ _ _ gq kq=>uQ (enc:=pE) (ys:=ix m.sT k) J (gq.1.trans J) T.pG mL flat kq) ?_
  refine st_ J (fun _ _ _ gq kq=>bsE (enc:=lH w0.heap.size) (xs:= [(ix m.sT k)]) (css:= [[fre w0.heap.size (sl 2 pE (ix m.sT k))]]) T.sK ⟨J,J,p1 (φ:=fre w0.heap.size (sl 2 pE (ix m.sT k))) (by exact(gq.1.trans J)),tV⟩ J J J J kq) ?_
  refine pn (ap (key:=30) (zs:= [(ix m.sT k)]) bP J J J T.sK (by unfold aQ at*;simp;omega) (by unfold aQ at*;simp;omega) fun v22=>(fP J T.bX (bY J J J J T.cV J (nl (eb (th (rg (bi J J (aG i6) (mv (nl ?_))))))))))
  have hN0:(k+1)≤m.sT.length:=by
   first|omega|simp_all
  have hN1:(acc++ [(ix m.sT k)])=m.sT.take (k+1):=by
   rw[hI0,bJ hc0]
  exact ln (⟨k+1,v22,acc++ [(ix m.sT k)]⟩:Nat × Value × (List (List (Int × Int)))) ⟨hN0,hN1⟩ dO ⟨id,id,id,id,id,tV⟩ ⟨rI,rI,rI,rI,tV⟩
 ·try simp at hc0
  refine ex (xt_ (xt_ (xb (th (sq (rg (ND gE 3 30 1 noM (fun _=>J) J J J (by decide) (lPA J J T.bK J (sPA (cs':= [fre w0.heap.size (sl 1 rE_ m.aC),fre w0.heap.size (sl 1 gE acc)]) J J J T.bK J J (nl (th (rt ?_))))))))))))
  have hr0:acc=m.sT:=by
   rw[hI0,show k=m.sT.length by omega,List.take_length]
  exact rE () [.cell 2 25] J [agg [fre w0.heap.size (sl 1 rE_ m.aC),fre w0.heap.size (sl 1 gE acc)]] ⟨.agg J J T.bK J J,tV⟩ (cA1 (fun x0=>rV [agg [fre w0.heap.size (sl 1 rE_ m.aC),fre w0.heap.size (sl 1 gE x0)]]) hr0) trivial eX
end sysw
end
section
open ref01 ref03 ref04 ref06 prog prog2 prog3 prog6 Part Rungs LeftM TrimM RoundM BisM BisM5
def qC (l:List ByteArray):SS:=⟨l,[⟨(List.range (2^l.length)).map fun(x:Nat)=>(x:Int),List.replicate l.length 0⟩]⟩
noncomputable def Ac (s:SS) (x:Int):SA:=⟨(ix (aA s).sT x.toNat).aP,(ix (aA s).sT x.toNat).next.map (vV (atL s.sT.length (aM s)))⟩
theorem Sk {s:SS} (hs:oK s) {x:Int} (h0:0≤x) (hx:x<(s.sT.length:Int)):Ac s x=eY s x:=by
 have hx':x.toNat<s.sT.length:=by omega
 have hl:=iL hs hx'
 unfold Ac eY
 congr 1
 ·exact hO hx'
 ·rw[rZ,hl]
  refine List.map_congr_left fun a ha=> ?_
  have ha:=List.mem_range.1 ha
  have h1:=kC hs hx' ha
  have h2:=(hs.st _ hx').nx a ha
  dsimp only [nxt] at h1 h2 ⊢
  rw[h1]
  by_cases h:has (aV (keep s x.toNat)) (a:Int)=true
  ·have hg:=kJ hs hx' h
   rw[if_pos h,if_pos h]
   unfold vV
   rw[if_pos hg.2.1,Lh O,Int.toNat_of_nonneg hg.2.1]
  ·rw[if_neg h,if_neg h];rfl
noncomputable def nR (s:SS):Bool:=decide (s=(tR s).1)
namespace T
theorem UY:Ent Tryz.prog 125:=aN kR
theorem UZ:Ent Tryz.prog 126:=aN kR
theorem Va:Ent Tryz.prog 127:=aN kR
theorem WT:Ent Tryz.prog 41:=aN kR
theorem QL:Ent Tryz.prog 78:=aN kR
end T
namespace divr
theorem rB (l:List Int) (x:Int):
 Fn0 Tryz.prog 128 [ints l,int x] (bl (decide (x∈l))):=by
 refine fnI Tryz.func128 rfl rfl (fun w0 F0=> ?_)
 refine fcC (aT 0 J) (fun hm0=> ?_)
 refine sq (rg (ag (nl (th (sq (sq (rg (mv (lnF J T.aU (mv (nl (th (bk ?_)))))))))))))
 have hI0_0:0≤l.length:=by
  first|omega|simp
 have hI0_1:∀j,j<0→x≠ix l j:=by
  intro j hj;omega
 refine lp (κ:=Nat) (fun p=> [(1,int x),(7,sl 1 nE l),(8,int (l.length:Int)),(9,int (p:Int))]) (fun p=> []) (fun p=>(p≤l.length)∧(∀j,j<p→x≠ix l j)) (fun p=>l.length- p) 0 ⟨hI0_0,hI0_1⟩ ⟨id,id,id,id,tV⟩ trivial ?_
 intro k hG0
 obtain⟨hk0,hI0⟩:(k≤l.length)∧(∀j,j<k→x≠ix l j):=hG0
 refine sq (rg (bi J J aO (nl (th (sq ?_)))))
 refine cd J (fun hc0=> ?_) (fun hc0=> ?_)
 ·try simp at hc0
  refine sk (th (sq (bk (sq (rg (iF J J T.aU O gB (lF J J T.aH (ag (nl (th (sq (rg (mv (mv (bi J J eS (nl (th ?_)))))))))))))))))
  refine cd J (fun hc1=> ?_) (fun hc1=> ?_)
  ·try simp at hc1
   refine sq (rg (ag (nl (th (rt (rb (rt_ (rt_ (rb (rt_ ?_))))))))))
   have hr0:true=(decide (x∈l)):=by
    exact(decide_eq_true (by rw[hc1];exact iK O)).symm
   exact rE () [.tmp 4] J [bl true] ⟨.tmp J,tV⟩ (cA1 (fun x0=>rV [bl x0]) hr0) trivial eX
  ·try simp at hc1
   refine sk (eb (th (rg (bi J J (aG i6) (mv (nl ?_))))))
   have hN0:(k+1)≤l.length:=by
    first|omega|simp_all
   have hN1:∀j,j<(k+1)→x≠ix l j:=by
    intro j hj
    by_cases e:j=k
    ·subst e;exact hc1
    ·exact hI0 j O
   exact ln (k+1) ⟨hN0,hN1⟩ dO ⟨id,id,id,id,tV⟩ trivial
 ·try simp at hc0
  refine ex (xt_ (xt_ (xb (th (sq (rg (ag (nl (th (rt ?_))))))))))
  have hr0:false=(decide (x∈l)):=by
   refine(decide_eq_false (fun hx=> ?_)).symm
   obtain⟨j,hj,e⟩:=List.getElem_of_mem hx
   exact hI0 j O (by rw[aF hj];exact e.symm)
  exact rE () [.tmp 4] J [bl false] ⟨.tmp J,tV⟩ (cA1 (fun x0=>rV [bl x0]) hr0) trivial eX
theorem Ii (s:SS) (hs:oK s):
 Fn0 Tryz.prog 78 [spec s] (tup [spec (tR s).1,ints (tR s).2]):=by
 refine fnI Tryz.func78 rfl rfl (fun w0 F0=> ?_)
 have hf0:=hs.few0;have hf1:=hs.few1;have hn8:=hs.n8;have hhl:=jX s;have hsl:=fQ s;have hoq:=tG hs;have hol:=hoq.le;have hnd:(order (aA s)).Nodup:=pS _
 refine fcC (bV 0 J) (fun hS0=> ?_)
 obtain⟨hsa0,hss0,hse0⟩:=sLn hS0
 refine sq (rg (bx (key:=1) (cs:= [sl 1 rE_ s.aC,sl 2 sE s.sT]) J fun b1=>(al (key:=2) T.z28 (eC (eC eZ)) fun b2=>(ag (nl (th (sq (sq (rg (lPA J J T.aW J (aZ (φs:= [agg [sl 1 rE_ s.aC,sl 2 sE s.sT]]) (φ:=sl 1 blE (hOl s)) ⟨J,tV⟩ (ref04.Di s aS) T.QC (iF J J T.gJ O (gK (k:=0) O) (lF J J T.eP (nl (th ?_)))))))))))))))
 refine cd J (fun hc0=> ?_) (fun hc0=> ?_)
 ·try simp at hc0
  refine sq (rg (fP J T.cP (lP J J J T.cK (aZ (φs:= [sl 1 rE_ s.aC]) (φ:=agg [sl 1 rE_ (nothing s.aC).aC,sl 2 sE (nothing s.aC).sT]) ⟨J,tV⟩ (ref03.vS s.aC O) T.UY (sPA (cs':= [sl 1 rE_ (nothing s.aC).aC,sl 2 sE (nothing s.aC).sT]) J J J T.aW J J (ag (nl (th (rt (rt_ ?_))))))))))
  have hL:=eR hc0
  refine knA 3 (sl 1 nE []) rfl slnil ?_
  have hr0:(nothing s.aC).aC=((tR s).1).aC:=by
   rw[hL]
  have hr1:(nothing s.aC).sT=((tR s).1).sT:=by
   rw[hL]
  have hr2: []=((tR s).2):=by
   rw[hL]
  exact rE () [.cell 2 28,.tmp 3] J [agg [sl 1 rE_ (nothing s.aC).aC,sl 2 sE (nothing s.aC).sT],sl 1 nE []] ⟨.agg J J T.aW J J,.tmp J,tV⟩ (cA3 (fun x0 x1 x2=>rV [agg [sl 1 rE_ x0,sl 2 sE x1],sl 1 nE x2]) hr0 hr1 hr2) trivial eX
 ·try simp at hc0
  refine sk (th (sq (rg (lPA J J T.aW J (aZ (φs:= [agg [sl 1 rE_ s.aC,sl 2 sE s.sT]]) (φ:=agg [sl 1 rE_ (aA s).aC,sl 2 sE (aA s).sT]) ⟨J,tV⟩ (ref04.NG s aS) T.UZ (al (key:=4) T.z28 (eC (eC eZ)) fun b4=>(sPA (cs':= [sl 1 rE_ (aA s).aC,sl 2 sE (aA s).sT]) J J J T.aW J J (nl (th (sq (rg (lPA J J T.aW J (aZ (φs:= [agg [sl 1 rE_ (aA s).aC,sl 2 sE (aA s).sT]]) (φ:=sl 1 nE (order (aA s))) ⟨J,tV⟩ (ref04.NH (aA s) (by rw[hsl];omega) (by rw[hsl];omega) (fun k hk=>by rw[hsl] at hk;exact⟨by rw[iL hs hk];omega,fun a ha=>by rw[hsl];exact vU hs hk ha⟩)) T.Va (ag (nl (th (sq (rg (fP J T.bA (lP J J J T.bM (fc (aT 27 J) fun hm27=>(lnF J T.cE (mk (key:=29) (m:=s.sT.length) (enc:=nE) (y:=(0:Int)) J J T.bS (eC eZ) mL mL fun v29=>(ag (nl (th (sq (sq (rg (mv (fc (aT 30 J) fun hm30=>(lnF J T.aU (mv (nl (th (bk ?_))))))))))))))))))))))))))))))))))))
  have hI0_0:0≤(order (aA s)).length:=by
   first|omega|simp
  have hI0_1:(List.replicate s.sT.length (0:Int))=atL s.sT.length ((order (aA s)).take 0):=by
   exact Fv _
  refine lp (κ:=Nat × (List Int)) (fun p=> [(1,ptr 1 b1 0),(2,ptr 2 b2 0),(3,eqv (.slice none 0 0)),(4,ptr 4 b4 0),(5,sl 1 nE (order (aA s))),(6,osl 29 v29),(30,sl 1 nE (order (aA s))),(31,int ((order (aA s)).length:Int)),(32,int (p.1:Int))]) (fun p=> [(1,cell b1 [sl 1 rE_ s.aC,sl 2 sE s.sT]),(2,cell b2 [eqv (.slice none 0 0),eqv (.slice none 0 0)]),(4,cell b4 [sl 1 rE_ (aA s).aC,sl 2 sE (aA s).sT]),(29,own v29 3 1 nE p.2)]) (fun p=>(p.1≤(order (aA s)).length)∧(p.2=atL s.sT.length ((order (aA s)).take p.1))) (fun p=>(order (aA s)).length- p.1) ⟨0,List.replicate s.sT.length (0:Int)⟩ ⟨hI0_0,hI0_1⟩ ⟨id,id,id,id,id,id,id,id,id,tV⟩ ⟨rI,rI,rI,rI,tV⟩ ?_
  intro⟨k,pl⟩ hG0
  obtain⟨hk0,hI0⟩:(k≤(order (aA s)).length)∧(pl=atL s.sT.length ((order (aA s)).take k)):=hG0
  show Ct _ _ _ _ [(1,ptr 1 b1 0),(2,ptr 2 b2 0),(3,eqv (.slice none 0 0)),(4,ptr 4 b4 0),(5,sl 1 nE (order (aA s))),(6,osl 29 v29),(30,sl 1 nE (order (aA s))),(31,int ((order (aA s)).length:Int)),(32,int (k:Int))] [(1,cell b1 [sl 1 rE_ s.aC,sl 2 sE s.sT]),(2,cell b2 [eqv (.slice none 0 0),eqv (.slice none 0 0)]),(4,cell b4 [sl 1 rE_ (aA s).aC,sl 2 sE (aA s).sT]),(29,own v29 3 1 nE pl)] _
  have hpl:pl.length=s.sT.length:=by rw[hI0];exact Cv _ _
  refine sq (rg (bi J J aO (nl (th (sq ?_)))))
  refine cd J (fun hc1=> ?_) (fun hc1=> ?_)
  ·try simp at hc1
   have hox:=hoq.1 k O
   refine sk (th (sq (bk (sq (rg (mv (iF J J T.aU O gB (lF J J T.aH (ag (ag (nl (th (rg (mv (mv (mv (iO J J J T.aU O O (sO (φ:=int (k:Int)) J J J T.aH gB J (y':=(k:Int)) J (nl (eb (th (rg (bi J J (aG i6) (mv (nl ?_)))))))))))))))))))))))))
   have hN0:(k+1)≤(order (aA s)).length:=by
    first|omega|simp_all
   have hN1:(pl.set (ix (order (aA s)) k).toNat (k:Int))=atL s.sT.length ((order (aA s)).take (k+1)):=by
    have hat:=Fw (n:=s.sT.length) (fresh hnd (m:=k) O) hox.1 hox.2
    rw[List.length_take,Nat.min_eq_left O] at hat
    rw[hI0,bJ O]
    exact hat
   exact ln (⟨k+1,pl.set (ix (order (aA s)) k).toNat (k:Int)⟩:Nat × (List Int)) ⟨hN0,hN1⟩ dO ⟨id,id,id,id,id,id,id,id,id,tV⟩ ⟨rI,rI,rI,rI,tV⟩
  ·try simp at hc1
   refine ex (xt_ (xt_ (xb (th (sq (rg (fP J T.cP (lP J J J T.cK (yI (enc:=rE_) (ys:=s.aC) J J T.uB mL (bd (css:= [(0,_)]) T.nA (eC (eC eZ)) ⟨J,J,p1 (φ:=sl 1 rE_ s.aC) J,tV⟩ (al (key:=9) T.z28 (eC (eC eZ)) fun b9=>(sPA (cs':= [sl 1 rE_ s.aC,eqv (.slice none 0 0)]) J J J T.aW J J (nl (th (sq (sq (rg (mv (lnF J T.aU (mv (nl (th (bk ?_)))))))))))))))))))))))
   refine nwC 90 79 2 sE (iJ 9 1 (osl 90 (.slice none 0 0)) rfl rfl cS ?_)
   have hI1_0:0≤(order (aA s)).length:=by
    first|omega|simp
   have hI1_1:([]:List SA)=((order (aA s)).take 0).map (Ac s):=by
    simp
   refine lp (κ:=Nat × Value × (List SA)) (fun p=> [(2,ptr 2 b2 0),(3,eqv (.slice none 0 0)),(4,ptr 4 b4 0),(5,sl 1 nE (order (aA s))),(6,osl 29 v29),(9,ptr 9 b9 0),(46,sl 1 nE (order (aA s))),(47,int ((order (aA s)).length:Int)),(48,int (p.1:Int))]) (fun p=> [(1,cell b1 [sl 1 rE_ s.aC,sl 2 sE s.sT]),(2,cell b2 [eqv (.slice none 0 0),eqv (.slice none 0 0)]),(4,cell b4 [sl 1 rE_ (aA s).aC,sl 2 sE (aA s).sT]),(9,cell b9 [sl 1 rE_ s.aC,osl 90 p.2.1]),(29,own v29 3 1 nE pl),(90,own p.2.1 79 2 sE p.2.2)]) (fun p=>(p.1≤(order (aA s)).length)∧(p.2.2=((order (aA s)).take p.1).map (Ac s))) (fun p=>(order (aA s)).length- p.1) ⟨0,(.slice none 0 0),([]:List SA)⟩ ⟨hI1_0,hI1_1⟩ ⟨id,id,id,id,id,id,id,id,id,tV⟩ ⟨rI,rI,rI,rI,rI,rI,tV⟩ ?_
   intro⟨k1,v2x,acc⟩ hG1
   obtain⟨hk1,hI1⟩:(k1≤(order (aA s)).length)∧(acc=((order (aA s)).take k1).map (Ac s)):=hG1
   show Ct _ _ _ _ [(2,ptr 2 b2 0),(3,eqv (.slice none 0 0)),(4,ptr 4 b4 0),(5,sl 1 nE (order (aA s))),(6,osl 29 v29),(9,ptr 9 b9 0),(46,sl 1 nE (order (aA s))),(47,int ((order (aA s)).length:Int)),(48,int (k1:Int))] [(1,cell b1 [sl 1 rE_ s.aC,sl 2 sE s.sT]),(2,cell b2 [eqv (.slice none 0 0),eqv (.slice none 0 0)]),(4,cell b4 [sl 1 rE_ (aA s).aC,sl 2 sE (aA s).sT]),(9,cell b9 [sl 1 rE_ s.aC,osl 90 v2x]),(29,own v29 3 1 nE pl),(90,own v2x 79 2 sE acc)] _
   have hal:acc.length≤k1:=by rw[hI1];simp;omega
   refine sq (rg (bi J J aO (nl (th (sq ?_)))))
   refine cd J (fun hc2=> ?_) (fun hc2=> ?_)
   ·try simp at hc2
    have hox1:=hoq.1 k1 O
    have hsn:=iL hs (x:=(ix (order (aA s)) k1).toNat) O
    refine sk (th (sq (bk (sq (rg (iF J J T.aU O gB (lF J J T.aH (ag (nl (th (sq (rg (fP J T.bA (lP J J J T.bM (mv (iF J J T.cE O gB (fF J T.cJ (lF J J T.aY (bd (css:= [(0,_)]) T.vR (eC (eC eZ)) ⟨J,J,p1 (φ:=sl 1 nE (ix (aA s).sT (ix (order (aA s)) k1).toNat).aP) J,tV⟩ (al (key:=12) T.z79 (eC (eC eZ)) fun b12=>(sPA (cs':= [sl 1 nE (ix (aA s).sT (ix (order (aA s)) k1).toNat).aP,eqv (.slice none 0 0)]) J J J T.cR J J (nl (th (sq (sq (rg (fP J T.bA (lP J J J T.bM (mv (iF J J T.cE O gB (fF J T.bR (lF J J T.aY (fc (aT 64 J) fun hm64=>(lnF J T.aU (mv (nl (th (bk ?_))))))))))))))))))))))))))))))))))))))
    refine nwC 121 3 1 nE (iJ 12 1 (osl 121 (.slice none 0 0)) rfl rfl cS ?_)
    have hI2_0:0≤(ix (aA s).sT (ix (order (aA s)) k1).toNat).next.length:=by
     first|omega|simp
    have hI2_1:([]:List Int)=((ix (aA s).sT (ix (order (aA s)) k1).toNat).next.take 0).map (vV pl):=by
     simp
    refine lp (κ:=Nat × Value × (List Int)) (fun p=> [(2,ptr 2 b2 0),(3,eqv (.slice none 0 0)),(4,ptr 4 b4 0),(5,sl 1 nE (order (aA s))),(6,osl 29 v29),(9,ptr 9 b9 0),(12,ptr 12 b12 0),(46,sl 1 nE (order (aA s))),(47,int ((order (aA s)).length:Int)),(48,int (k1:Int)),(64,sl 1 nE (ix (aA s).sT (ix (order (aA s)) k1).toNat).next),(65,int ((ix (aA s).sT (ix (order (aA s)) k1).toNat).next.length:Int)),(66,int (p.1:Int))]) (fun p=> [(1,cell b1 [sl 1 rE_ s.aC,sl 2 sE s.sT]),(2,cell b2 [eqv (.slice none 0 0),eqv (.slice none 0 0)]),(4,cell b4 [sl 1 rE_ (aA s).aC,sl 2 sE (aA s).sT]),(9,cell b9 [sl 1 rE_ s.aC,osl 90 v2x]),(12,cell b12 [sl 1 nE (ix (aA s).sT (ix (order (aA s)) k1).toNat).aP,osl 121 p.2.1]),(29,own v29 3 1 nE pl),(90,own v2x 79 2 sE acc),(121,own p.2.1 3 1 nE p.2.2)]) (fun p=>(p.1≤(ix (aA s).sT (ix (order (aA s)) k1).toNat).next.length)∧(p.2.2=((ix (aA s).sT (ix (order (aA s)) k1).toNat).next.take p.1).map (vV pl))) (fun p=>(ix (aA s).sT (ix (order (aA s)) k1).toNat).next.length- p.1) ⟨0,(.slice none 0 0),([]:List Int)⟩ ⟨hI2_0,hI2_1⟩ ⟨id,id,id,id,id,id,id,id,id,id,id,id,id,tV⟩ ⟨rI,rI,rI,rI,rI,rI,rI,rI,tV⟩ ?_
    intro⟨k2,v3x,l3⟩ hG2
    obtain⟨hk2,hI2⟩:(k2≤(ix (aA s).sT (ix (order (aA s)) k1).toNat).next.length)∧(l3=((ix (aA s).sT (ix (order (aA s)) k1).toNat).next.take k2).map (vV pl)):=hG2
    show Ct _ _ _ _ [(2,ptr 2 b2 0),(3,eqv (.slice none 0 0)),(4,ptr 4 b4 0),(5,sl 1 nE (order (aA s))),(6,osl 29 v29),(9,ptr 9 b9 0),(12,ptr 12 b12 0),(46,sl 1 nE (order (aA s))),(47,int ((order (aA s)).length:Int)),(48,int (k1:Int)),(64,sl 1 nE (ix (aA s).sT (ix (order (aA s)) k1).toNat).next),(65,int ((ix (aA s).sT (ix (order (aA s)) k1).toNat).next.length:Int)),(66,int (k2:Int))] [(1,cell b1 [sl 1 rE_ s.aC,sl 2 sE s.sT]),(2,cell b2 [eqv (.slice none 0 0),eqv (.slice none 0 0)]),(4,cell b4 [sl 1 rE_ (aA s).aC,sl 2 sE (aA s).sT]),(9,cell b9 [sl 1 rE_ s.aC,osl 90 v2x]),(12,cell b12 [sl 1 nE (ix (aA s).sT (ix (order (aA s)) k1).toNat).aP,osl 121 v3x]),(29,own v29 3 1 nE pl),(90,own v2x 79 2 sE acc),(121,own v3x 3 1 nE l3)] _
    have hl3:l3.length≤k2:=by rw[hI2];simp;omega
    refine sq (rg (bi J J aO (nl (th (sq ?_)))))
    refine cd J (fun hc3=> ?_) (fun hc3=> ?_)
    ·try simp at hc3
     have hbd:=vU hs (x:=(ix (order (aA s)) k1).toNat) O (a:=k2) O
     refine sk (th (sq (bk (sq (rg (iF J J T.aU O gB (lF J J T.aH (ag (nl (th (sq (sq (rg (mv (bi J J fK (nl (th ?_)))))))))))))))))
     refine cd J (fun hc4=> ?_) (fun hc4=> ?_)
     ·try simp at hc4
      refine rg (mv (mv (iO J J J T.aU O O (lO J J gB J T.aH (ag (nl (th (rg (fP J T.bR (lP J J J T.aY (mv (bsE (enc:=nE) (xs:= [(ix pl (ix (ix (aA s).sT (ix (order (aA s)) k1).toNat).next k2).toNat)]) (css:= [[int (ix pl (ix (ix (aA s).sT (ix (order (aA s)) k1).toNat).next k2).toNat)]]) T.bS ⟨J,J,p1 (φ:=int (ix pl (ix (ix (aA s).sT (ix (order (aA s)) k1).toNat).next k2).toNat)) J,tV⟩ J J J J (ap (key:=121) (zs:= [(ix pl (ix (ix (aA s).sT (ix (order (aA s)) k1).toNat).next k2).toNat)]) bP J J J T.bS (by unfold aQ at*;simp;omega) (by unfold aQ at*;simp;omega) fun v80=>(fP J T.bR (bY J J J J T.aY J (nl (eb (th (rg (bi J J (aG i6) (mv (nl ?_))))))))))))))))))))))
      have hN0:(k2+1)≤(ix (aA s).sT (ix (order (aA s)) k1).toNat).next.length:=by
       first|omega|simp_all
      have hN1:(l3++ [(ix pl (ix (ix (aA s).sT (ix (order (aA s)) k1).toNat).next k2).toNat)])=((ix (aA s).sT (ix (order (aA s)) k1).toNat).next.take (k2+1)).map (vV pl):=by
       rw[qM O,hI2];simp[vV,hc4]
      exact ln (⟨k2+1,v80,l3++ [(ix pl (ix (ix (aA s).sT (ix (order (aA s)) k1).toNat).next k2).toNat)]⟩:Nat × Value × (List Int)) ⟨hN0,hN1⟩ dO ⟨id,id,id,id,id,id,id,id,id,id,id,id,id,tV⟩ ⟨rI,rI,rI,rI,rI,rI,rI,rI,tV⟩
     ·try simp at hc4
      refine sk (th (rg (fP J T.bR (lP J J J T.aY (mv (bsE (enc:=nE) (xs:= [(ix (ix (aA s).sT (ix (order (aA s)) k1).toNat).next k2)]) (css:= [[int (ix (ix (aA s).sT (ix (order (aA s)) k1).toNat).next k2)]]) T.bS ⟨J,J,p1 (φ:=int (ix (ix (aA s).sT (ix (order (aA s)) k1).toNat).next k2)) J,tV⟩ J J J J (ap (key:=121) (zs:= [(ix (ix (aA s).sT (ix (order (aA s)) k1).toNat).next k2)]) bP J J J T.bS (by unfold aQ at*;simp;omega) (by unfold aQ at*;simp;omega) fun v80=>(fP J T.bR (bY J J J J T.aY J (nl (eb (th (rg (bi J J (aG i6) (mv (nl ?_))))))))))))))))
      have hN0:(k2+1)≤(ix (aA s).sT (ix (order (aA s)) k1).toNat).next.length:=by
       first|omega|simp_all
      have hN1:(l3++ [(ix (ix (aA s).sT (ix (order (aA s)) k1).toNat).next k2)])=((ix (aA s).sT (ix (order (aA s)) k1).toNat).next.take (k2+1)).map (vV pl):=by
       rw[qM O,hI2];simp[vV];omega
      exact ln (⟨k2+1,v80,l3++ [(ix (ix (aA s).sT (ix (order (aA s)) k1).toNat).next k2)]⟩:Nat × Value × (List Int)) ⟨hN0,hN1⟩ dO ⟨id,id,id,id,id,id,id,id,id,id,id,id,id,tV⟩ ⟨rI,rI,rI,rI,rI,rI,rI,rI,tV⟩
    ·try simp at hc3
     refine ex (xt_ (xt_ (xb (th (rg (fP J T.bA (lP J J J T.bM (fzc 12 121 1 J J J J (lPA J J T.cR J (bsE (enc:=sE) (xs:= [(⟨(ix (aA s).sT (ix (order (aA s)) k1).toNat).aP,l3⟩)]) (css:= [[sl 1 nE (ix (aA s).sT (ix (order (aA s)) k1).toNat).aP,sl 1 nE l3]]) T.kS ⟨J,J,pA (cs:= [sl 1 nE (ix (aA s).sT (ix (order (aA s)) k1).toNat).aP,sl 1 nE l3]) J,tV⟩ J J J J (ap (key:=90) (zs:= [(⟨(ix (aA s).sT (ix (order (aA s)) k1).toNat).aP,l3⟩)]) bP J J J T.kS (by unfold aQ at*;simp;omega) (by unfold aQ at*;simp;omega) fun v87=>(fP J T.bA (bY J J J J T.bM J (nl (eb (th (rg (bi J J (aG i6) (mv (nl ?_))))))))))))))))))))
     have hN0:(k1+1)≤(order (aA s)).length:=by
      first|omega|simp_all
     have hN1:(acc++ [(⟨(ix (aA s).sT (ix (order (aA s)) k1).toNat).aP,l3⟩)])=((order (aA s)).take (k1+1)).map (Ac s):=by
      rw[qM O,hI1]
      congr 2
      unfold Ac
      rw[hI2,show k2=(ix (aA s).sT (ix (order (aA s)) k1).toNat).next.length by omega,List.take_length,hI0,show k=(order (aA s)).length by omega,List.take_length]
     exact ln (⟨k1+1,v87,acc++ [(⟨(ix (aA s).sT (ix (order (aA s)) k1).toNat).aP,l3⟩)]⟩:Nat × Value × (List SA)) ⟨hN0,hN1⟩ dO ⟨id,id,id,id,id,id,id,id,id,tV⟩ ⟨rI,rI,rI,rI,rI,rI,tV⟩
   ·try simp at hc2
    refine ex (xt_ (xt_ (xb (th (sq (rg (fzc 9 90 1 J J J J (lPA J J T.aW J (mv (sPA (cs':= [sl 1 rE_ s.aC,sl 2 sE acc]) J J J T.aW J J (ag (nl (th (rt ?_))))))))))))))
    have hL:=dV (s:=s) (by simpa using hc0)
    have hr0:s.aC=((tR s).1).aC:=by
     rw[hL]
    have hr1:acc=((tR s).1).sT:=by
     rw[hL,hI1,show k1=(order (aA s)).length by omega,List.take_length]
     exact List.map_congr_left fun x hx=>by
      obtain⟨j,hj,rfl⟩:=List.getElem_of_mem hx
      have:=hoq.1 j hj
      rw[aF hj] at this
      exact Sk hs this.1 this.2
    have hr2:(order (aA s))=((tR s).2):=by
     rw[hL]
    exact rE () [.cell 2 28,.tmp 3] J [agg [sl 1 rE_ s.aC,sl 2 sE acc],sl 1 nE (order (aA s))] ⟨.agg J J T.aW J J,.tmp J,tV⟩ (cA3 (fun x0 x1 x2=>rV [agg [sl 1 rE_ x0,sl 2 sE x1],sl 1 nE x2]) hr0 hr1 hr2) trivial eX
theorem LO (s:SS) (hs:oK s):
 Fn0 Tryz.prog 58 [spec s] (bl (nR s)):=by
 refine fnI Tryz.func58 rfl rfl (fun w0 F0=> ?_)
 refine fcC (bV 0 J) (fun hS0=> ?_)
 obtain⟨hsa0,hss0,hse0⟩:=sLn hS0
 refine sq (rg (bx (key:=1) (cs:= [sl 1 rE_ s.aC,sl 2 sE s.sT]) J fun b1=>(ag (nl (th (sq (rg (lPA J J T.aW J (aZ (φs:= [agg [sl 1 rE_ s.aC,sl 2 sE s.sT]]) (φ:=tup [agg [sl 1 rE_ ((tR s).1).aC,sl 2 sE ((tR s).1).sT],sl 1 nE ((tR s).2)]) ⟨J,tV⟩ (divr.Ii s aS) T.QL (mv (xt J J (xt J J (al (key:=3) T.z28 (eC (eC eZ)) fun b3=>(sPA (cs':= [sl 1 rE_ ((tR s).1).aC,sl 2 sE ((tR s).1).sT]) J J J T.aW J J (ag (nl (th (sq (rg (lPA J J T.aW J (lPA J J T.aW J (aZ (φs:= [agg [sl 1 rE_ s.aC,sl 2 sE s.sT],agg [sl 1 rE_ ((tR s).1).aC,sl 2 sE ((tR s).1).sT]]) (φ:=bl (nR s)) ⟨J,J,tV⟩ (ref03.Rt s (tR s).1) T.WT (ag (nl (th (rt ?_))))))))))))))))))))))))))
 exact rE () [.tmp 2] J [bl (nR s)] ⟨.tmp J,tV⟩ J trivial eX
end divr
end
section
open ref01 ref03 ref04 ref06 prog prog2 prog3 prog6 prog13 Part Rungs LeftM TrimM RoundM BisM BisM5 WalkM StepM WitM JudgM refw judg wit sysw divr
def cC (u o:Int):Int:=((u.toNat&&&o.toNat:Nat):Int)
def WU (x y:SA) (u:Int):Bool:=y.aP.all fun o=>decide (cC u o∈x.aP)
def uY (x y:SA):Bool:=x.aP.any fun o=>decide (o∉y.aP)
def Ad (s:SS) (x u:Int):Bool:=decide (0≤x)&&decide (u∈acc s x.toNat)
theorem Sl {α:Type} [Inhabited α] {l:List α} {p:α→Bool} {k:Nat} (hk:k<l.length) (h:p (ix l k)=true):l.any p=true:=List.any_eq_true.2 ⟨_,aX hk,h⟩
theorem Vb {α:Type} [Inhabited α] {l:List α} {p:α→Bool} (h:∀j,j<l.length→p (ix l j)=false):l.any p=false:=by
 cases g:l.any p with
 |false=>rfl
 |true=>
  obtain⟨e,he,hp⟩:=List.any_eq_true.1 g
  obtain⟨j,hj,rfl⟩:=List.getElem_of_mem he
  rw[←aF hj,h j hj] at hp;cases hp
namespace T
theorem LQ:Ent Tryz.prog 128:=aN kR
theorem WV:Ent Tryz.prog 63:=aN kR
end T
namespace divs
theorem Ow (x y:SA):
 Fn0 Tryz.prog 176 [state x,state y] (bl (uY x y)):=by
 refine fnI Tryz.func176 rfl rfl (fun w0 F0=> ?_)
 refine fcC (bV 0 J) (fun hS0=> ?_)
 obtain⟨hxa0,hxn0⟩:=lU hS0
 refine fcC (bV 1 J) (fun hS1=> ?_)
 obtain⟨hxa1,hxn1⟩:=lU hS1
 refine sq (rg (bx (key:=2) (cs:= [sl 1 nE x.aP,sl 1 nE x.next]) J fun b2=>(bx (key:=3) (cs:= [sl 1 nE y.aP,sl 1 nE y.next]) J fun b3=>(ag (nl (th (sq (sq (rg (fP J T.cJ (lP J J J T.aY (fc (aT 8 J) fun hm8=>(lnF J T.aU (mv (nl (th (bk ?_)))))))))))))))))
 have hI0_0:0≤x.aP.length:=by
  first|omega|simp
 have hI0_1:∀j,j<0→decide (ix x.aP j∉y.aP)=false:=by
  intro j hj;omega
 refine lp (κ:=Nat) (fun p=> [(3,ptr 3 b3 0),(8,sl 1 nE x.aP),(9,int (x.aP.length:Int)),(10,int (p:Int))]) (fun p=> [(2,cell b2 [sl 1 nE x.aP,sl 1 nE x.next]),(3,cell b3 [sl 1 nE y.aP,sl 1 nE y.next])]) (fun p=>(p≤x.aP.length)∧(∀j,j<p→decide (ix x.aP j∉y.aP)=false)) (fun p=>x.aP.length- p) 0 ⟨hI0_0,hI0_1⟩ ⟨id,id,id,id,tV⟩ ⟨rI,rI,tV⟩ ?_
 intro k hG0
 obtain⟨hk0,hI0⟩:(k≤x.aP.length)∧(∀j,j<k→decide (ix x.aP j∉y.aP)=false):=hG0
 refine sq (rg (bi J J aO (nl (th (sq ?_)))))
 refine cd J (fun hc0=> ?_) (fun hc0=> ?_)
 ·try simp at hc0
  refine sk (th (sq (bk (sq (rg (iF J J T.aU O gB (lF J J T.aH (ag (nl (th (sq (rg (fP J T.cJ (lP J J J T.aY (mv (aZ (φs:= [sl 1 nE y.aP,int (ix x.aP k)]) (φ:=bl (decide ((ix x.aP k)∈y.aP))) ⟨J,J,tV⟩ (divr.rB _ _) T.LQ (no J (nl (th ?_)))))))))))))))))))
  refine cd J (fun hc1=> ?_) (fun hc1=> ?_)
  ·skip
   refine sq (rg (ag (nl (th (rt (rb (rt_ (rt_ (rb (rt_ ?_))))))))))
   have hr0:true=(uY x y):=by
    exact(Sl (k:=k) O (by simpa using hc1)).symm
   exact rE () [.tmp 4] J [bl true] ⟨.tmp J,tV⟩ (cA1 (fun x0=>rV [bl x0]) hr0) trivial eX
  ·skip
   refine sk (eb (th (rg (bi J J (aG i6) (mv (nl ?_))))))
   have hN0:(k+1)≤x.aP.length:=by
    first|omega|simp_all
   have hN1:∀j,j<(k+1)→decide (ix x.aP j∉y.aP)=false:=by
    intro j hj
    by_cases e:j=k
    ·subst e;simpa using hc1
    ·exact hI0 j O
   exact ln (k+1) ⟨hN0,hN1⟩ dO ⟨id,id,id,id,tV⟩ ⟨rI,rI,tV⟩
 ·try simp at hc0
  refine ex (xt_ (xt_ (xb (th (sq (rg (ag (nl (th (rt ?_))))))))))
  have hr0:false=(uY x y):=by
   exact(Vb (fun j hj=>hI0 j O)).symm
  exact rE () [.tmp 4] J [bl false] ⟨.tmp J,tV⟩ (cA1 (fun x0=>rV [bl x0]) hr0) trivial eX
theorem rD (s:SS) (x u:Int) (hx:x<(s.sT.length:Int)):
 Fn0 Tryz.prog 88 [spec s,int x,int u] (bl (Ad s x u)):=by
 refine fnI Tryz.func88 rfl rfl (fun w0 F0=> ?_)
 refine fcC (bV 0 J) (fun hS0=> ?_)
 obtain⟨hsa0,hss0,hse0⟩:=sLn hS0
 refine sq (rg (bx (key:=3) (cs:= [sl 1 rE_ s.aC,sl 2 sE s.sT]) J fun b3=>(ag (nl (th (sq (rg (mv (bi J J fK (mv ?_))))))))))
 apply cZ (t:=9) (pd:=18) rfl
 rotate_left
 ·intro hg0 fin
  have hg0':=hg0
  try simp at hg0'
  exact gy J J J hg0 (fP J T.bA (gy J J J hg0 (lP J J J T.bM (gy J J J hg0 (mv (gy J J J hg0 (iF J J T.cE O gB (gy J J J hg0 (fF J T.cJ (gy J J J hg0 (lF J J T.aY (gy J J J hg0 (mv (gy J J J hg0 (aZ (φs:= [sl 1 nE (ix s.sT x.toNat).aP,int u]) (φ:=bl (decide (u∈(ix s.sT x.toNat).aP))) ⟨J,J,tV⟩ (divr.rB _ _) T.LQ (pkT J hg0 J (drp (X:= [(17,_),(16,_),(15,_),(14,_),(13,_),(12,_),(11,_),(10,_)]) ⟨J,J,J,J,J,J,J,J,tV⟩ fin)))))))))))))))))
 ·intro hg0 fin
  exact gn J J J hg0 J J (gn J J J hg0 J J (gn J J J hg0 J J (gn J J J hg0 J J (gn J J J hg0 J J (gn J J J hg0 J J (gn J J J hg0 J J (gn J J J hg0 J J (pkF J hg0 J (drp (X:= [(17,_),(16,_),(15,_),(14,_),(13,_),(12,_),(11,_),(10,_)]) ⟨J,J,J,J,J,J,J,J,tV⟩ fin)))))))))
 refine ag (nl (th (rt ?_)))
 have hr0:((decide (0≤x))&&(decide (u∈(ix s.sT x.toNat).aP)))=(Ad s x u):=by
  first|rfl|simp_all|omega
 exact rE () [.tmp 6] J [bl ((decide (0≤x))&&(decide (u∈(ix s.sT x.toNat).aP)))] ⟨.tmp J,tV⟩ (cA1 (fun x0=>rV [bl x0]) hr0) trivial eX
theorem LR (d e:Int × Int):
 Fn0 Tryz.prog 63 [agg [int d.1,int d.2],agg [int e.1,int e.2]] (bl (ltP d e)):=by
 refine fnI Tryz.func63 rfl rfl (fun w0 F0=> ?_)
 refine sq (rg (bx (key:=2) (cs:= [int d.1,int d.2]) J fun b2=>(bx (key:=3) (cs:= [int e.1,int e.2]) J fun b3=>(ag (nl (th (sq (rg (fP J T.dJ (lP J J J T.aH (fP J T.dJ (lP J J J T.aH (bi J J aO (mv ?_))))))))))))))
 apply gOr (t:=10) (pd:=23) rfl
 rotate_left
 ·intro hg0 fin
  have hg0':=hg0
  try simp at hg0'
  refine gy rfl rfl rfl hg0 (fP rfl T.dJ (gy rfl rfl rfl hg0 (lP rfl rfl rfl T.aH (gy rfl rfl rfl hg0 (fP rfl T.dJ (gy rfl rfl rfl hg0 (lP rfl rfl rfl T.aH (gy rfl rfl rfl hg0 (bi rfl rfl eS (gy rfl rfl rfl hg0 (mv ?_)))))))))))
  apply cZ (t:=16) (pd:=22) rfl
  rotate_left
  ·intro hg1 fin
   have hg1':=hg1
   try simp at hg1'
   exact gy J J J hg1 (fP J T.dY (gy J J J hg1 (lP J J J T.aH (gy J J J hg1 (fP J T.dY (gy J J J hg1 (lP J J J T.aH (gy J J J hg1 (bi J J aO (gy J J J hg0 (pkT J hg1 J (drp (X:= [(21,_),(20,_),(19,_),(18,_),(17,_)]) ⟨J,J,J,J,J,tV⟩ fin))))))))))))
  ·intro hg1 fin
   exact gn J J J hg1 J J (gn J J J hg1 J J (gn J J J hg1 J J (gn J J J hg1 J J (gn J J J hg1 J J (gy J J J hg0 (pkF J hg1 J (drp (X:= [(21,_),(20,_),(19,_),(18,_),(17,_)]) ⟨J,J,J,J,J,tV⟩ fin)))))))
  exact pkF rfl hg0 rfl (drp (X:= [(22,_),(16,_),(15,_),(14,_),(13,_),(12,_),(11,_)]) ⟨rfl,rfl,rfl,rfl,rfl,rfl,rfl,tV⟩ fin)
 ·intro hg0 fin
  exact gn J J J hg0 J J (gn J J J hg0 J J (gn J J J hg0 J J (gn J J J hg0 J J (gn J J J hg0 J J (gn J J J hg0 J J (gu J J J J J (gu J J J J J (gu J J J J J (gu J J J J J (gu J J J J J (gn J J J hg0 J J (pkT J hg0 J (drp (X:= [(22,_),(21,_),(20,_),(19,_),(18,_),(17,_),(16,_),(15,_),(14,_),(13,_),(12,_),(11,_)]) ⟨J,J,J,J,J,J,J,J,J,J,J,J,tV⟩ fin)))))))))))))
 refine ag (nl (th (rt ?_)))
 have hr0:((decide (d.1<e.1))||((decide (d.1=e.1))&&(decide (d.2<e.2))))=(ltP d e):=by
  first|rfl|simp_all|omega
 exact rE () [.tmp 4] J [bl ((decide (d.1<e.1))||((decide (d.1=e.1))&&(decide (d.2<e.2))))] ⟨.tmp J,tV⟩ (cA1 (fun x0=>rV [bl x0]) hr0) trivial eX
theorem Ox (m:aB) (x:Int) (hm:∀e∈ix m.sT x.toNat,0≤e.1∧e.1<8) (h0:0≤x) (hx:x<(m.sT.length:Int)):
 Fn0 Tryz.prog 89 [sys m,int x] (int (bQ m x.toNat)):=by
 refine fnI Tryz.func89 rfl rfl (fun w0 F0=> ?_)
 refine fcC (bV 0 J) (fun hS0=> ?_)
 obtain⟨hma0,hms0,hme0⟩:=cQ hS0
 refine sq (rg (bx (key:=2) (cs:= [sl 1 rE_ m.aC,sl 1 gE m.sT]) J fun b2=>(ag (nl (th (sq (rg (ag (nl (th (sq (sq (rg (fP J T.bX (lP J J J T.cV (mv (iF J J T.eV O gB (lF J J T.iG (fc (aT 12 J) fun hm12=>(lnF J T.dI (mv (nl (th (bk ?_))))))))))))))))))))))))
 have hI0_0:0≤(ix m.sT x.toNat).length:=by
  first|omega|simp
 have hI0_1:(0:Int)=dS ((ix m.sT x.toNat).take 0)∧0≤(0:Int)∧(0:Int)<256:=by
  exact⟨rfl,O,O⟩
 refine lp (κ:=Nat × Int) (fun p=> [(4,int 0),(5,int p.2),(12,sl 2 pE (ix m.sT x.toNat)),(13,int ((ix m.sT x.toNat).length:Int)),(14,int (p.1:Int))]) (fun p=> [(2,cell b2 [sl 1 rE_ m.aC,sl 1 gE m.sT])]) (fun p=>(p.1≤(ix m.sT x.toNat).length)∧(p.2=dS ((ix m.sT x.toNat).take p.1)∧0≤p.2∧p.2<256)) (fun p=>(ix m.sT x.toNat).length- p.1) ⟨0,(0:Int)⟩ ⟨hI0_0,hI0_1⟩ ⟨id,id,id,id,id,tV⟩ ⟨rI,tV⟩ ?_
 intro⟨k,u⟩ hG0
 obtain⟨hk0,⟨hu,hu0,hu1⟩⟩:(k≤(ix m.sT x.toNat).length)∧(u=dS ((ix m.sT x.toNat).take k)∧0≤u∧u<256):=hG0
 show Ct _ _ _ _ [(4,int 0),(5,int u),(12,sl 2 pE (ix m.sT x.toNat)),(13,int ((ix m.sT x.toNat).length:Int)),(14,int (k:Int))] [(2,cell b2 [sl 1 rE_ m.aC,sl 1 gE m.sT])] _
 refine sq (rg (bi J J aO (nl (th (sq ?_)))))
 refine cd J (fun hc0=> ?_) (fun hc0=> ?_)
 ·try simp at hc0
  have hek:=hm _ (aX hc0)
  have hp:2^ ((ix (ix m.sT x.toNat) k).1).toNat≤2^7:=Nat.pow_le_pow_right O O
  have hp0:0≤((2^ ((ix (ix m.sT x.toNat) k).1).toNat:Nat):Int):=Int.natCast_nonneg _
  refine sk (th (sq (bk (sq (rg (iF J J T.dI O gB (lFA J T.dA (Nat.le_of_ble_eq_true J) (al (key:=7) T.z94 (eC (eC eZ)) fun b7=>(sPA (cs':= [int ((ix (ix m.sT x.toNat) k).1),int ((ix (ix m.sT x.toNat) k).2)]) J J J T.dA J J (nl (th (rg (mv (fP J T.dJ (lP J J J T.aH (bi J J (pX O O) (bi J J (tA O O O O) (ag (nl (eb (th (rg (bi J J (aG i6) (mv (nl ?_)))))))))))))))))))))))))
  have hN0:(k+1)≤(ix m.sT x.toNat).length:=by
   first|omega|simp_all
  have hN1:((u.toNat|||(2^ ((ix (ix m.sT x.toNat) k).1).toNat):Nat):Int)=dS ((ix m.sT x.toNat).take (k+1))∧0≤((u.toNat|||(2^ ((ix (ix m.sT x.toNat) k).1).toNat):Nat):Int)∧((u.toNat|||(2^ ((ix (ix m.sT x.toNat) k).1).toNat):Nat):Int)<256:=by
   refine⟨?_,O,jY (b:=((2^ ((ix (ix m.sT x.toNat) k).1).toNat:Nat):Int)) hu1 O⟩
   rw[bJ hc0]
   unfold dS
   rw[List.map_append,List.map_cons,List.map_nil,gV,hu];rfl
  exact ln (⟨k+1,((u.toNat|||(2^ ((ix (ix m.sT x.toNat) k).1).toNat):Nat):Int)⟩:Nat × Int) ⟨hN0,hN1⟩ dO ⟨id,id,id,id,id,tV⟩ ⟨rI,tV⟩
 ·try simp at hc0
  refine ex (xt_ (xt_ (xb (th (sq (rg (mv (ag (nl (th (rt ?_)))))))))))
  have hr0:(u:Int)=(bQ m x.toNat):=by
   rw[hu,show k=(ix m.sT x.toNat).length by omega,List.take_length]
  exact rE () [.tmp 4] J [int u] ⟨.tmp J,tV⟩ (cA1 (fun x0=>rV [int x0]) hr0) trivial eX
theorem tF (m:aB):
 Fn0 Tryz.prog 27 [sys m] (bl (bL m)):=by
 refine fnI Tryz.func27 rfl rfl (fun w0 F0=> ?_)
 refine fcC (bV 0 J) (fun hS0=> ?_)
 obtain⟨hma0,hms0,hme0⟩:=cQ hS0
 refine sq (rg (bx (key:=1) (cs:= [sl 1 rE_ m.aC,sl 1 gE m.sT]) J fun b1=>(ag (nl (th (sq (sq (rg (fP J T.gC (lP J J J T.cK (aZ (φs:= [sl 1 rE_ m.aC]) (φ:=bl (bZ m.aC)) ⟨J,tV⟩ (ref01.tF _) T.QB (no J (mv ?_)))))))))))))
 apply gOr (t:=12) (pd:=17) rfl
 rotate_left
 ·intro hg0 fin
  have hg0':=hg0
  try simp at hg0'
  exact gy J J J hg0 (fP J T.bX (gy J J J hg0 (lP J J J T.cV (gy J J J hg0 (fc (aT 14 J) fun hm14=>(lnF J T.eV (gy J J J hg0 (bi J J aO (pkF J hg0 J (drp (X:= [(16,_),(15,_),(14,_),(13,_)]) ⟨J,J,J,J,tV⟩ fin))))))))))
 ·intro hg0 fin
  exact gn J J J hg0 J J (gn J J J hg0 J J (gn J J J hg0 J J (gn J J J hg0 J J (pkT J hg0 J (drp (X:= [(16,_),(15,_),(14,_),(13,_)]) ⟨J,J,J,J,tV⟩ fin)))))
 refine mv ?_
 apply gOr (t:=18) (pd:=23) rfl
 rotate_left
 ·intro hg1 fin
  have hg1':=hg1
  try simp at hg1'
  exact gy J J J hg1 (fP J T.bX (gy J J J hg1 (lP J J J T.cV (gy J J J hg1 (fc (aT 20 J) fun hm20=>(lnF J T.eV (gy J J J hg1 (bi J J fJ (pkF J hg1 J (drp (X:= [(22,_),(21,_),(20,_),(19,_)]) ⟨J,J,J,J,tV⟩ fin))))))))))
 ·intro hg1 fin
  exact gn J J J hg1 J J (gn J J J hg1 J J (gn J J J hg1 J J (gn J J J hg1 J J (pkT J hg1 J (drp (X:= [(22,_),(21,_),(20,_),(19,_)]) ⟨J,J,J,J,tV⟩ fin)))))
 refine nl (th ?_)
 refine cd J (fun hc0=> ?_) (fun hc0=> ?_)
 ·try simp at hc0
  refine sq (rg (ag (nl (th (rt (rt_ ?_))))))
  have hr0:false=(bL m):=by
   unfold bL
   by_cases h:bZ m.aC=true
   ·simp[h] at hc0 ⊢
    omega
   ·simp[h]
  exact rE () [.tmp 2] J [bl false] ⟨.tmp J,tV⟩ (cA1 (fun x0=>rV [bl x0]) hr0) trivial eX
 ·try simp at hc0
  have hact:=gF (l:=m.aC) (by simp_all)
  refine sk (th (sq (rg (ag (nl (th (sq (sq (rg (fP J T.bX (lP J J J T.cV (fc (aT 25 J) fun hm25=>(lnF J T.eV (mv (nl (th (bk ?_)))))))))))))))))
  have hI0_0:0≤m.sT.length:=by
   first|omega|simp
  have hI0_1:(0:Int)=(bU (m.sT.take 0):Int)∧(m.sT.take 0).all (dU m.aC.length m.sT.length)=true∧(0:Int)≤140737488355328*(0:Int):=by
   exact⟨rfl,by simp,O⟩
  refine lp (κ:=Nat × Int) (fun p=> [(1,ptr 1 b1 0),(3,int p.2),(25,sl 1 gE m.sT),(26,int (m.sT.length:Int)),(27,int (p.1:Int))]) (fun p=> [(1,cell b1 [sl 1 rE_ m.aC,sl 1 gE m.sT])]) (fun p=>(p.1≤m.sT.length)∧(p.2=(bU (m.sT.take p.1):Int)∧(m.sT.take p.1).all (dU m.aC.length m.sT.length)=true∧p.2≤140737488355328*(p.1:Int))) (fun p=>m.sT.length- p.1) ⟨0,(0:Int)⟩ ⟨hI0_0,hI0_1⟩ ⟨id,id,id,id,id,tV⟩ ⟨rI,tV⟩ ?_
  intro⟨k,n⟩ hG0
  obtain⟨hk0,⟨hn,hal,hn4⟩⟩:(k≤m.sT.length)∧(n=(bU (m.sT.take k):Int)∧(m.sT.take k).all (dU m.aC.length m.sT.length)=true∧n≤140737488355328*(k:Int)):=hG0
  show Ct _ _ _ _ [(1,ptr 1 b1 0),(3,int n),(25,sl 1 gE m.sT),(26,int (m.sT.length:Int)),(27,int (k:Int))] [(1,cell b1 [sl 1 rE_ m.aC,sl 1 gE m.sT])] _
  have hmk:=hme0 k
  refine sq (rg (bi J J aO (nl (th (sq ?_)))))
  refine cd J (fun hc1=> ?_) (fun hc1=> ?_)
  ·try simp at hc1
   refine sk (th (sq (bk (sq (rg (iF J J T.eV O gB (lF J J T.iG (ag (nl (th (sq (rg (mv (mv (fc (aT 32 J) fun hm32=>(lnF J T.dI (bi J J (aG i6) (ag (nl (th (sq (rg (mv (lnF J T.dI (mv (nl (th (bk ?_))))))))))))))))))))))))))))
   have hI1_0:0≤(ix m.sT k).length:=by
    first|omega|simp
   have hI1_1:(∀j,j<0→iB m.aC.length m.sT.length (ix (ix m.sT k) j)=true)∧∀j,j+1<0→ltP (ix (ix m.sT k) j) (ix (ix m.sT k) (j+1))=true:=by
    exact⟨fun j hj=>by omega,fun j hj=>by omega⟩
   refine lp (κ:=Nat) (fun p=> [(1,ptr 1 b1 0),(3,int (n+((ix m.sT k).length:Int))),(5,sl 2 pE (ix m.sT k)),(25,sl 1 gE m.sT),(26,int (m.sT.length:Int)),(27,int (k:Int)),(35,sl 2 pE (ix m.sT k)),(36,int ((ix m.sT k).length:Int)),(37,int (p:Int))]) (fun p=> [(1,cell b1 [sl 1 rE_ m.aC,sl 1 gE m.sT])]) (fun p=>(p≤(ix m.sT k).length)∧((∀j,j<p→iB m.aC.length m.sT.length (ix (ix m.sT k) j)=true)∧∀j,j+1<p→ltP (ix (ix m.sT k) j) (ix (ix m.sT k) (j+1))=true)) (fun p=>(ix m.sT k).length- p) 0 ⟨hI1_0,hI1_1⟩ ⟨id,id,id,id,id,id,id,id,id,tV⟩ ⟨rI,tV⟩ ?_
   intro k1 hG1
   obtain⟨hk1,hI1⟩:(k1≤(ix m.sT k).length)∧((∀j,j<k1→iB m.aC.length m.sT.length (ix (ix m.sT k) j)=true)∧∀j,j+1<k1→ltP (ix (ix m.sT k) j) (ix (ix m.sT k) (j+1))=true):=hG1
   refine sq (rg (bi J J aO (nl (th (sq ?_)))))
   refine cd J (fun hc2=> ?_) (fun hc2=> ?_)
   ·try simp at hc2
    refine sk (th (sq (bk (sq (rg (mv (iF J J T.dI O gB (lFA J T.dA (Nat.le_of_ble_eq_true J) (al (key:=7) T.z94 (eC (eC eZ)) fun b7=>(ag (sPA (cs':= [int ((ix (ix m.sT k) k1).1),int ((ix (ix m.sT k) k1).2)]) J J J T.dA J J (nl (th (sq (dr (nh:=38) [0,1,3,7,15,31,15,79,207,511,1023,2047,4095,8191,16383,32767,65535,131071,262143,131071,655359,1703935,4194303,8388607,16777215,33554431,67108863,134217727,268435455,268435455,805306367,2147483647,4294967295,268435455,17179869183,34359738367,68719476735,137438953471] T.mixed kR ?_)))))))))))))))
    refine st_ J (fun _ _ _ gq kq=>fP (gq.1.trans J) T.dJ kq) ?_
    refine st_ J (fun _ _ _ gq kq=>lP (gq.1.trans J) J J T.aH kq) ?_
    refine st_ J (fun _ _ _ gq kq=>bi (gq.1.trans J) J aO kq) ?_
    refine st_ J (fun _ _ _ gq kq=>mv' (gq.1.trans J) kq) ?_
    refine sg_ (φ:=ptr 7 b7 0) J J J J (List.mem_of_elem_eq_true J) (fun hgd=> ?_) ?_
    ·have hgd':=hgd
     try simp at hgd'
     exact fun _ _ _ gq kq=>fP (gq.1.trans J) T.dJ kq
    refine sg_ (φ:=int ((ix (ix m.sT k) k1).1)) J J J J (List.mem_of_elem_eq_true J) (fun hgd=> ?_) ?_
    ·have hgd':=hgd
     try simp at hgd'
     exact fun _ _ _ gq kq=>lP (gq.1.trans (cF hgd)) J J T.aH kq
    refine sg_ (φ:=ptr 1 b1 0) J J J J (List.mem_of_elem_eq_true J) (fun hgd=> ?_) ?_
    ·have hgd':=hgd
     try simp at hgd'
     exact fun _ _ _ gq kq=>fP (gq.1.trans J) T.gC kq
    refine sg_ (φ:=sl 1 rE_ m.aC) J J J J (List.mem_of_elem_eq_true J) (fun hgd=> ?_) ?_
    ·have hgd':=hgd
     try simp at hgd'
     exact fun _ _ _ gq kq=>lP (gq.1.trans (cF hgd)) J J T.cK kq
    refine sg_ (φ:=int (m.aC.length:Int)) J J J J (List.mem_of_elem_eq_true J) (fun hgd=> ?_) ?_
    ·have hgd':=hgd
     try simp at hgd'
     exact fun _ _ _ gq kq=>lnF (gq.1.trans (cF hgd)) T.dW kq
    refine sg_ (φ:=bl (decide ((m.aC.length:Int)≤((ix (ix m.sT k) k1).1)))) J J J J (List.mem_of_elem_eq_true J) (fun hgd=> ?_) ?_
    ·have hgd':=hgd
     try simp at hgd'
     exact fun _ _ _ gq kq=>bi (gq.1.trans (cF hgd)) (gq.2.1.trans (cF hgd)) fK kq
    refine st_ J (fun _ _ _ gq kq=>pk (gq.1.trans J) (qY (x:= .tmp 45) (gq.1.trans J) (gq.2.1.trans J) J) kq) ?_
    refine st_ J (fun _ _ _ gq kq=>mv' (gq.1.trans J) kq) ?_
    refine sg_ (φ:=ptr 7 b7 1) J J J J (List.mem_of_elem_eq_true J) (fun hgd=> ?_) ?_
    ·have hgd':=hgd
     try simp at hgd'
     exact fun _ _ _ gq kq=>fP (gq.1.trans J) T.dY kq
    refine sg_ (φ:=int ((ix (ix m.sT k) k1).2)) J J J J (List.mem_of_elem_eq_true J) (fun hgd=> ?_) ?_
    ·have hgd':=hgd
     try simp at hgd'
     exact fun _ _ _ gq kq=>lP (gq.1.trans (cF hgd)) J J T.aH kq
    refine sg_ (φ:=bl (decide (((ix (ix m.sT k) k1).2)<0))) J J J J (List.mem_of_elem_eq_true J) (fun hgd=> ?_) ?_
    ·have hgd':=hgd
     try simp at hgd'
     exact fun _ _ _ gq kq=>bi (gq.1.trans (cF hgd)) J aO kq
    refine st_ J (fun _ _ _ gq kq=>pk (gq.1.trans J) (qY (x:= .tmp 53) (gq.1.trans J) (gq.2.1.trans J) J) kq) ?_
    refine st_ J (fun _ _ _ gq kq=>mv' (gq.1.trans J) kq) ?_
    refine sg_ (φ:=ptr 7 b7 1) J J J J (List.mem_of_elem_eq_true J) (fun hgd=> ?_) ?_
    ·have hgd':=hgd
     try simp at hgd'
     exact fun _ _ _ gq kq=>fP (gq.1.trans J) T.dY kq
    refine sg_ (φ:=int ((ix (ix m.sT k) k1).2)) J J J J (List.mem_of_elem_eq_true J) (fun hgd=> ?_) ?_
    ·have hgd':=hgd
     try simp at hgd'
     exact fun _ _ _ gq kq=>lP (gq.1.trans (cF hgd)) J J T.aH kq
    refine sg_ (φ:=ptr 1 b1 1) J J J J (List.mem_of_elem_eq_true J) (fun hgd=> ?_) ?_
    ·have hgd':=hgd
     try simp at hgd'
     exact fun _ _ _ gq kq=>fP (gq.1.trans J) T.bX kq
    refine sg_ (φ:=sl 1 gE m.sT) J J J J (List.mem_of_elem_eq_true J) (fun hgd=> ?_) ?_
    ·have hgd':=hgd
     try simp at hgd'
     exact fun _ _ _ gq kq=>lP (gq.1.trans (cF hgd)) J J T.cV kq
    refine sg_ (φ:=int (m.sT.length:Int)) J J J J (List.mem_of_elem_eq_true J) (fun hgd=> ?_) ?_
    ·have hgd':=hgd
     try simp at hgd'
     exact fun _ _ _ gq kq=>lnF (gq.1.trans (cF hgd)) T.eV kq
    refine sg_ (φ:=bl (decide ((m.sT.length:Int)≤((ix (ix m.sT k) k1).2)))) J J J J (List.mem_of_elem_eq_true J) (fun hgd=> ?_) ?_
    ·have hgd':=hgd
     try simp at hgd'
     exact fun _ _ _ gq kq=>bi (gq.1.trans (cF hgd)) (gq.2.1.trans (cF hgd)) fK kq
    refine st_ J (fun _ _ _ gq kq=>pk (gq.1.trans J) (qY (x:= .tmp 58) (gq.1.trans J) (gq.2.1.trans J) J) kq) ?_
    refine st_ J (fun _ _ _ gq kq=>mv' (gq.1.trans J) kq) ?_
    refine sg_ (φ:=int (k1:Int)) J J J J (List.mem_of_elem_eq_true J) (fun hgd=> ?_) ?_
    ·have hgd':=hgd
     try simp at hgd'
     exact fun _ _ _ gq kq=>mv' (gq.1.trans J) kq
    refine sg_ (φ:=bl (decide (0<(k1:Int)))) J J J J (List.mem_of_elem_eq_true J) (fun hgd=> ?_) ?_
    ·have hgd':=hgd
     try simp at hgd'
     exact fun _ _ _ gq kq=>bi (gq.1.trans (cF hgd)) J fJ kq
    refine sg_ (φ:=bl (decide (0<(k1:Int)))) J J J J (List.mem_of_elem_eq_true J) (fun hgd=> ?_) ?_
    ·have hgd':=hgd
     try simp at hgd'
     exact fun _ _ _ gq kq=>mv' (gq.1.trans (cF hgd)) kq
    refine mC (φ:=sl 2 pE (ix m.sT k)) rfl rfl rfl rfl (List.mem_of_elem_eq_true rfl) (fun hgd hgd2=> ?_) ?_
    ·have hgd':=hgd
     try simp at hgd'
     have hgd2':=hgd2
     try simp at hgd2'
     exact fun _ _ _ gq kq=>mv' (gq.1.trans J) kq
    refine mC (φ:=int (k1:Int)) rfl rfl rfl rfl (List.mem_of_elem_eq_true rfl) (fun hgd hgd2=> ?_) ?_
    ·have hgd':=hgd
     try simp at hgd'
     have hgd2':=hgd2
     try simp at hgd2'
     exact fun _ _ _ gq kq=>mv' (gq.1.trans J) kq
    refine mC (φ:=int ((k1:Int)- 1)) rfl rfl rfl rfl (List.mem_of_elem_eq_true rfl) (fun hgd hgd2=> ?_) ?_
    ·have hgd':=hgd
     try simp at hgd'
     have hgd2':=hgd2
     try simp at hgd2'
     exact fun _ _ _ gq kq=>bi (gq.1.trans (jC hgd hgd2)) J (kZ i6) kq
    refine mC (φ:=fp [int ((ix (ix m.sT k) ((k1:Int)- 1).toNat).1),int ((ix (ix m.sT k) ((k1:Int)- 1).toNat).2)]) rfl rfl rfl rfl (List.mem_of_elem_eq_true rfl) (fun hgd hgd2=> ?_) ?_
    ·have hgd':=hgd
     try simp at hgd'
     have hgd2':=hgd2
     try simp at hgd2'
     exact fun _ _ _ gq kq=>iF (gq.1.trans (jC hgd hgd2)) (gq.2.1.trans (jC hgd hgd2)) T.dI O gB kq
    refine mC (φ:=agg [int ((ix (ix m.sT k) ((k1:Int)- 1).toNat).1),int ((ix (ix m.sT k) ((k1:Int)- 1).toNat).2)]) rfl rfl rfl rfl (List.mem_of_elem_eq_true rfl) (fun hgd hgd2=> ?_) ?_
    ·have hgd':=hgd
     try simp at hgd'
     have hgd2':=hgd2
     try simp at hgd2'
     exact fun _ _ _ gq kq=>lFA (gq.1.trans (jC hgd hgd2)) T.dA (Nat.le_of_ble_eq_true J) kq
    refine mC (φ:=agg [int ((ix (ix m.sT k) k1).1),int ((ix (ix m.sT k) k1).2)]) rfl rfl rfl rfl (List.mem_of_elem_eq_true rfl) (fun hgd hgd2=> ?_) ?_
    ·have hgd':=hgd
     try simp at hgd'
     have hgd2':=hgd2
     try simp at hgd2'
     exact fun _ _ _ gq kq=>lPA (gq.1.trans J) J T.dA J kq
    refine mC (φ:=bl (ltP ((ix (ix m.sT k) ((k1:Int)- 1).toNat).1,(ix (ix m.sT k) ((k1:Int)- 1).toNat).2) ((ix (ix m.sT k) k1).1,(ix (ix m.sT k) k1).2))) rfl rfl rfl rfl (List.mem_of_elem_eq_true rfl) (fun hgd hgd2=> ?_) ?_
    ·have hgd':=hgd
     try simp at hgd'
     have hgd2':=hgd2
     try simp at hgd2'
     exact fun _ _ _ gq kq=>aZ (φs:= [agg [int ((ix (ix m.sT k) ((k1:Int)- 1).toNat).1),int ((ix (ix m.sT k) ((k1:Int)- 1).toNat).2)],agg [int ((ix (ix m.sT k) k1).1),int ((ix (ix m.sT k) k1).2)]]) (φ:=bl (ltP ((ix (ix m.sT k) ((k1:Int)- 1).toNat).1,(ix (ix m.sT k) ((k1:Int)- 1).toNat).2) ((ix (ix m.sT k) k1).1,(ix (ix m.sT k) k1).2))) ⟨(gq.1.trans (jC hgd hgd2)),(gq.2.1.trans (jC hgd hgd2)),tV⟩ (divs.LR ((ix (ix m.sT k) ((k1:Int)- 1).toNat).1,(ix (ix m.sT k) ((k1:Int)- 1).toNat).2) ((ix (ix m.sT k) k1).1,(ix (ix m.sT k) k1).2)) T.WV kq
    refine mC (φ:=bl (!(ltP ((ix (ix m.sT k) ((k1:Int)- 1).toNat).1,(ix (ix m.sT k) ((k1:Int)- 1).toNat).2) ((ix (ix m.sT k) k1).1,(ix (ix m.sT k) k1).2)))) rfl rfl rfl rfl (List.mem_of_elem_eq_true rfl) (fun hgd hgd2=> ?_) ?_
    ·have hgd':=hgd
     try simp at hgd'
     have hgd2':=hgd2
     try simp at hgd2'
     exact fun _ _ _ gq kq=>no (gq.1.trans (jC hgd hgd2)) kq
    refine sg_ (φ:=bl ((decide (0<(k1:Int)))&&(!(ltP ((ix (ix m.sT k) ((k1:Int)- 1).toNat).1,(ix (ix m.sT k) ((k1:Int)- 1).toNat).2) ((ix (ix m.sT k) k1).1,(ix (ix m.sT k) k1).2))))) J J J J (List.mem_of_elem_eq_true J) (fun hgd=> ?_) ?_
    ·have hgd':=hgd
     try simp at hgd'
     exact fun _ _ _ gq kq=>pk (gq.1.trans (cF hgd)) (Fa (x:= .tmp 69) (gq.1.trans (cF hgd)) (gq.2.1.trans (HK hgd)) J) kq
    refine st_ J (fun _ _ _ gq kq=>pk (gq.1.trans J) (qY (x:= .tmp 66) (gq.1.trans J) (gq.2.1.trans J) J) kq) ?_
    refine pn (nl (th ?_))
    refine cd J (fun hc3=> ?_) (fun hc3=> ?_)
    ·skip
     simp only [Bool.or_eq_true,Bool.and_eq_true,decide_eq_true_eq] at hc3
     refine sq (rg (ag (nl (th (rt (rb (rt_ (rt_ (rb (rb (rt_ (rt_ (rb (rt_ ?_))))))))))))))
     have hr0:false=(bL m):=by
      unfold bL
      rw[fV (xs:=m.sT) (k:=k) O ?_];simp
      have hno:∀{p:Prop},(iB m.aC.length m.sT.length (ix (ix m.sT k) k1)=true→¬p)→p→dU m.aC.length m.sT.length (ix m.sT k)=false:=fun hh hp=>Dx hc2 (by cases g:iB m.aC.length m.sT.length (ix (ix m.sT k) k1) with|false=>rfl|true=>exact absurd hp (hh g))
      rcases hc3 with(((h|h)|h)|h)|h
      ·exact hno (fun g=>by have:=eD.1 g;omega) h
      ·exact hno (fun g=>by have:=eD.1 g;omega) h
      ·exact hno (fun g=>by have:=eD.1 g;omega) h
      ·exact hno (fun g=>by have:=eD.1 g;omega) h
      ·have h5:=h.2
       rw[show((k1:Int)- 1).toNat=k1- 1 by omega] at h5
       refine Dy hc2 O ?_
       simpa using h5
     exact rE () [.tmp 2] J [bl false] ⟨.tmp J,tV⟩ (cA1 (fun x0=>rV [bl x0]) hr0) trivial eX
    ·skip
     simp only [Bool.or_eq_false_iff,Bool.and_eq_false_iff,decide_eq_false_iff_not] at hc3
     obtain⟨⟨⟨⟨h41,h42⟩,h43⟩,h44⟩,h45⟩:=hc3
     refine sk (eb (th (rg (bi J J (aG i6) (mv (nl ?_))))))
     have hN0:(k1+1)≤(ix m.sT k).length:=by
      first|omega|simp_all
     have hN1:(∀j,j<(k1+1)→iB m.aC.length m.sT.length (ix (ix m.sT k) j)=true)∧∀j,j+1<(k1+1)→ltP (ix (ix m.sT k) j) (ix (ix m.sT k) (j+1))=true:=by
      refine⟨fun j hj=> ?_,fun j hj=> ?_⟩
      ·by_cases e:j=k1
       ·subst e;exact eD.2 ⟨O,O,O,O⟩
       ·exact hI1.1 j O
      ·by_cases e:j+1=k1
       ·subst e
        rcases h45 with h|h
        ·exact absurd O h
        ·rw[show(((j+1:Nat):Int)- 1).toNat=j by omega] at h
         simpa using h
       ·exact hI1.2 j O
     exact ln (k1+1) ⟨hN0,hN1⟩ dO ⟨id,id,id,id,id,id,id,id,id,tV⟩ ⟨rI,tV⟩
   ·try simp at hc2
    refine ex (xt_ (xt_ (xb (eb (th (rg (bi J J (aG i6) (mv (nl ?_)))))))))
    have hN0:(k+1)≤m.sT.length:=by
     first|omega|simp_all
    have hN1:(n+((ix m.sT k).length:Int))=(bU (m.sT.take (k+1)):Int)∧(m.sT.take (k+1)).all (dU m.aC.length m.sT.length)=true∧(n+((ix m.sT k).length:Int))≤140737488355328*((k+1):Int):=by
     refine⟨?_,?_,O⟩
     ·rw[bJ O,kP];omega
     ·rw[eQ O,hal,sJ (fun j hj=>hI1.1 j O) (fun j hj=>hI1.2 j O)];rfl
    exact ln (⟨k+1,n+((ix m.sT k).length:Int)⟩:Nat × Int) ⟨hN0,hN1⟩ dO ⟨id,id,id,id,id,tV⟩ ⟨rI,tV⟩
  ·try simp at hc1
   refine ex (xt_ (xt_ (xb (th (sq (rg (mv (bi J J nV (ag (nl (th (rt ?_))))))))))))
   have hr0:(decide (n≤400000))=(bL m):=by
    have hkk:k=m.sT.length:=by omega
    rw[hkk,List.take_length] at hal hn
    unfold bL
    rw[hal,hc0.1.1,hn,decide_eq_true (p:=1≤m.sT.length) O,decide_eq_true (p:=m.sT.length≤5000) O]
    simp only [Bool.true_and,Bool.and_true]
    exact decide_eq_decide.2 O
   exact rE () [.tmp 2] J [bl (decide (n≤400000))] ⟨.tmp J,tV⟩ (cA1 (fun x0=>rV [bl x0]) hr0) trivial eX
end divs
end
section
namespace LevM
open ref01 ref03 ref04 ref06 Part Rungs LeftM TrimM BisM BisM5 WitM
inductive Rch (B:PP→Prop) (S:PP→PP→Prop):PP→Prop
 |zero:Rch B S (0,0)
 |step {p q:PP}:Rch B S p→¬B p→S p q→Rch B S q
def JL (B:PP→Prop) (S:PP→PP→Prop):Prop:=∀p,Rch B S p→¬B p
def Fin (B:PP→Prop) (S:PP→PP→Prop) (vis:List PP) (p:PP):Prop:=¬B p∧∀q,S p q→q∈vis
structure LI (B:PP→Prop) (S:PP→PP→Prop) (vis op:List PP):Prop where
 nd:vis.Nodup
 z:((0,0):PP)∈vis
 rch:∀p∈vis,Rch B S p
 opn:∀p∈op,p∈vis
 dn:∀p∈vis,p∈op∨Fin B S vis p
variable {B:PP→Prop} {S:PP→PP→Prop} {vis op:List PP}
theorem Sm:LI B S [(0,0)] [(0,0)]:=
 ⟨by simp,by simp,fun p hp=>by rw[List.mem_singleton.1 hp];exact .zero,fun p hp=>hp,fun p hp=> .inl hp⟩
theorem Oy {v:List PP} {p:PP} (h:Fin B S vis p):Fin B S (vis++v) p:=⟨h.1,fun q hq=>List.mem_append.2 (.inl (h.2 q hq))⟩
theorem Sn (h:LI B S vis op) {q:PP} (hq:q∉vis) (hr:Rch B S q):LI B S (vis++ [q]) (op++ [q]):=by
 refine⟨?_,List.mem_append.2 (.inl h.z),fun p hp=> ?_,fun p hp=> ?_,fun p hp=> ?_⟩
 ·rw[List.nodup_append]
  refine⟨h.nd,by simp,fun a ha b hb e=> ?_⟩
  rw[List.mem_singleton.1 hb] at e
  subst e;exact hq ha
 ·rcases List.mem_append.1 hp with g|g
  ·exact h.rch p g
  ·rw[List.mem_singleton.1 g];exact hr
 ·rcases List.mem_append.1 hp with g|g
  ·exact List.mem_append.2 (.inl (h.opn p g))
  ·exact List.mem_append.2 (.inr g)
 ·rcases List.mem_append.1 hp with g|g
  ·rcases h.dn p g with g|g
   ·exact .inl (List.mem_append.2 (.inl g))
   ·exact .inr (Oy g)
  ·exact .inl (List.mem_append.2 (.inr g))
theorem Vd {p:PP} (h:LI B S vis (p::op)) (hf:Fin B S vis p):LI B S vis op:=
 ⟨h.nd,h.z,h.rch,fun q hq=>h.opn q (List.mem_cons_of_mem _ hq),fun q hq=>by
   rcases h.dn q hq with g|g
   ·rcases List.mem_cons.1 g with g|g
    ·subst g;exact .inr hf
    ·exact .inl g
   ·exact .inr g⟩
theorem Ve (h:LI B S vis []):JL B S:=fun p hp=>by
 have:p∈vis∧Fin B S vis p:=by
  induction hp with
  |zero=>exact⟨h.z,by rcases h.dn _ h.z with g|g;cases g;exact g⟩
  |step h1 h2 h3 ih=>
   have hq:=ih.2.2 _ h3
   exact⟨hq,by rcases h.dn _ hq with g|g;cases g;exact g⟩
 exact this.2.1
theorem WW (h:LI B S vis op) {p:PP} (hp:p∈vis) (hb:B p):¬JL B S:=fun hw=>hw p (h.rch p hp) hb
theorem Ij {l:List PP} {k:Nat} (h:k<l.length):l.drop k=ix l k::l.drop (k+1):=by
 rw[aF h];exact List.drop_eq_getElem_cons h
def mat (n m:Nat) (vis:List PP):List (List Bool):=(List.range n).map fun(x:Nat)=>(List.range m).map fun(y:Nat)=>decide (((x:Int),(y:Int))∈vis)
theorem FI (n m:Nat):mat n m []=List.replicate n (List.replicate m false):=by
 unfold mat
 rw[show(fun(x:Nat)=>(List.range m).map fun(y:Nat)=>decide (((x:Int),(y:Int))∈([]:List PP)))=fun _=>List.replicate m false from funext fun x=>by
  rw[show(fun(y:Nat)=>decide (((x:Int),(y:Int))∈([]:List PP)))=fun _=>false from funext fun y=>by simp]
  rw[List.map_const'];simp]
 rw[List.map_const'];simp
theorem uZ (n m:Nat) (vis:List PP):(mat n m vis).length=n:=by simp[mat]
theorem CG {n m:Nat} {vis:List PP} {x:Nat} (hx:x<n):ix (mat n m vis) x=(List.range m).map fun(y:Nat)=>decide (((x:Int),(y:Int))∈vis):=cB hx
theorem rG {n m:Nat} {vis:List PP} {x:Nat} (hx:x<n):(ix (mat n m vis) x).length=m:=by rw[CG hx];simp
theorem LU {n m:Nat} {vis:List PP} {x y:Nat} (hx:x<n) (hy:y<m):ix (ix (mat n m vis) x) y=decide (((x:Int),(y:Int))∈vis):=by
 rw[CG hx];exact cB hy
theorem CH {n m:Nat} {vis:List PP} {x y:Nat} (hx:x<n) (hy:y<m):(mat n m vis).set x ((ix (mat n m vis) x).set y true)=mat n m (vis++ [((x:Int),(y:Int))]):=by
 rw[CG hx]
 refine lV hx ?_ (fun z _ hne=> ?_)
 ·refine(lV hy ?_ (fun z _ hne=> ?_)).symm
  ·simp
  ·rw[decide_eq_decide]
   constructor
   ·intro h
    rcases List.mem_append.1 h with h|h
    ·exact h
    ·have h:=List.mem_singleton.1 h
     simp only [Prod.mk.injEq] at h
     omega
   ·exact fun h=>List.mem_append.2 (.inl h)
 ·refine List.map_congr_left fun w _=> ?_
  rw[decide_eq_decide]
  constructor
  ·intro h
   rcases List.mem_append.1 h with h|h
   ·exact h
   ·have h:=List.mem_singleton.1 h
    simp only [Prod.mk.injEq] at h
    omega
  ·exact fun h=>List.mem_append.2 (.inl h)
def iM (T t:SS) (p:PP):Prop:=∃u∈acc T p.1.toNat,u∉acc t p.2.toNat
def jO (T t:SS) (p q:PP):Prop:=∃a:Nat,a<(nxt T p.1.toNat).length∧0≤ix (nxt T p.1.toNat) a∧q=(ix (nxt T p.1.toNat) a,ix (nxt t p.2.toNat) a)
def FJ (T:SS):Prop:=∀x,x<T.sT.length→∀a,a<T.aC.length→(0≤ix (nxt T x) a↔has (aV (acc T x)) (a:Int)=true)
def JM (T t:SS) (p:PP):Prop:=0≤p.1∧p.1<(T.sT.length:Int)∧0≤p.2∧p.2<(t.sT.length:Int)
theorem Ik {T t:SS} (hT:oK T) (ht:oK t) (hu:FJ T) {p q:PP} (hp:JM T t p) (hb:¬iM T t p) (hs:jO T t p q):JM T t q:=by
 obtain⟨a,ha,h0,rfl⟩:=hs
 obtain⟨p0,p1,p2,p3⟩:=hp
 have hx:p.1.toNat<T.sT.length:=by omega
 have hy:p.2.toNat<t.sT.length:=by omega
 have hl:=(hT.st _ hx).len
 have ha':a<T.aC.length:=by have:(nxt T p.1.toNat).length=T.aC.length:=hl;omega
 have hg:=WalkM.xI hT ht hx hy (fun u hu=>Classical.byContradiction fun hn=>hb ⟨u,hu,hn⟩) ((hu _ hx a ha').1 h0)
 have hn:=((hT.st _ hx).nx a ha').2
 exact⟨h0,hn,hg.2.1,hg.2.2⟩
theorem nS {T t:SS} (hT:oK T) (ht:oK t) (hu:FJ T) {p:PP} (h:Rch (iM T t) (jO T t) p):JM T t p:=by
 induction h with
 |zero=>exact⟨by simp,by have:=hT.few0;show(0:Int)<_;omega,by simp,by have:=ht.few0;show(0:Int)<_;omega⟩
 |step h1 h2 h3 ih=>exact Ik hT ht hu ih h2 h3
theorem Oz {T t:SS} (hT:oK T) (ht:oK t) (hu:FJ T):JL (iM T t) (jO T t)↔∃R,Ref T t R∧R 0 0:=by
 constructor
 ·intro hw
  refine⟨fun x y=>Rch (iM T t) (jO T t) ((x:Int),(y:Int)),⟨fun {x y} h=> ?_,fun {x y} h u hu'=> ?_,fun {x y} h a ha=> ?_⟩,.zero⟩
  ·obtain⟨_,h1,_,h2⟩:=nS hT ht hu h
   dsimp only at h1 h2
   omega
  ·refine Classical.byContradiction fun hn=>hw _ h ⟨u,hu',hn⟩
  ·have hb:=nS hT ht hu h
   have hx:x<T.sT.length:=by have:=hb.2.1;dsimp only at this;omega
   have hg:=WalkM.pT hT hx ha
   have hs:jO T t ((x:Int),(y:Int)) (ix (nxt T x) a,ix (nxt t y) a):=⟨a,by have:(nxt T x).length=T.aC.length:=(hT.st _ hx).len;show a<(nxt T x).length;omega,hg.2.1,rfl⟩
   have hr:=Rch.step h (hw _ h) hs
   have hq:=nS hT ht hu hr
   rw[Int.toNat_of_nonneg hg.2.1,Int.toNat_of_nonneg hq.2.2.1]
   exact hr
 ·rintro⟨R,hR,h0⟩ p hp
  have:JM T t p∧R p.1.toNat p.2.toNat:=by
   induction hp with
   |zero=>exact⟨nS hT ht hu .zero,h0⟩
   |step h1 h2 h3 ih=>
    refine⟨Ik hT ht hu ih.1 h2 h3,?_⟩
    obtain⟨a,ha,g0,rfl⟩:=h3
    have hx:_<T.sT.length:=(hR.bd ih.2).1
    have hl:(nxt T _).length=T.aC.length:=(hT.st _ hx).len
    have ha':a<T.aC.length:=by rw[←hl];exact ha
    exact hR.nxt ih.2 a ((hu _ hx a ha').1 g0)
  rintro⟨u,hu',hn⟩
  exact hn (hR.acc this.2 u hu')
end LevM
end
section
open ref01 ref03 ref04 ref06 prog prog2 prog3 prog6 prog13 Part Rungs LeftM TrimM RoundM MergeM BisM BisM4 BisM5 WalkM StepM WitM JudgM refw judg wit sysw divr divs LevM
theorem mA {s:SS} (hs:oK s):oK (tR s).1:=by
 cases h:ix (hOl s) 0 with
 |true=>rw[eR h];exact wA hs.acts
 |false=>rw[dV h];exact QE hs
theorem qD (s:SS):(tR s).1.aC=s.aC:=by
 cases h:ix (hOl s) 0 with
 |true=>rw[eR h];rfl
 |false=>rw[dV h]
theorem Dz {s:SS} (hs:oK s):FJ (tR s).1:=by
 cases h:ix (hOl s) 0 with
 |true=>
  rw[eR h]
  intro x hx a ha
  have hx:x=0:=by have hx:x<1:=hx;omega
  subst hx
  have ha:a<s.aC.length:=ha
  have e:ix (nxt (nothing s.aC) 0) a= -1:=by
   show ix (List.replicate s.aC.length (-1)) a= -1
   rw[aF (by simpa using ha)];simp
  rw[e]
  constructor
  ·intro h;omega
  ·intro h
   have h:has (aV []) (a:Int)=true:=h
   rw[Ab] at h;cases h
 |false=>
  rw[dV h]
  intro x hx a ha
  have hx:x<(aM s).length:=by simpa using hx
  have ha:a<s.aC.length:=ha
  have e1:ix (nxt (tS s) x) a=_:=Et hx ha
  have e2:acc (tS s) x=_:=pZ hx
  show 0≤ix (nxt (tS s) x) a↔has (aV (acc (tS s) x)) (a:Int)=true
  rw[e1,e2]
  by_cases g:has (aV (keep s (ix (aM s) x).toNat)) (a:Int)=true
  ·rw[if_pos g];exact⟨fun _=>g,fun _=>(fZ _ _).1⟩
  ·rw[if_neg g];exact⟨fun h=>absurd h (by decide),fun h=>absurd h g⟩
theorem DC {s t:SS} (hs:oK s) (ht:oK t):JL (iM (tR s).1 t) (jO (tR s).1 t)↔jN s t:=by
 unfold jN
 cases h:ix (hOl s) 0 with
 |true=>
  refine⟨fun _=> .inl rfl,fun _=> ?_⟩
  have hx:∀p,¬iM (tR s).1 t p:=by
   rintro p ⟨u,hu,_⟩
   rw[eR h] at hu
   have:p.1.toNat<1:=BisM6.LB hu
   have e:p.1.toNat=0:=by omega
   rw[e] at hu;cases hu
  exact fun p _=>hx p
 |false=>
  rw[Oz (mA hs) ht (Dz hs),dV h]
  simp
theorem Il {α:Type} (a b:α) {n k:Nat} (h:k<n):(List.replicate k a++List.replicate (n- k) b).set k a=List.replicate (k+1) a++List.replicate (n- (k+1)) b:=by
 rw[List.set_append_right _ _ (by simp),List.length_replicate,Nat.sub_self,show n- k=(n- (k+1))+1 by omega,List.replicate_succ,List.set_cons_zero,List.replicate_succ',List.append_assoc]
 rfl
theorem DD {T t:SS} {p:Int × Int}:uY (ix T.sT p.1.toNat) (ix t.sT p.2.toNat)=true↔iM T t p:=by
 unfold uY iM
 rw[List.any_eq_true]
 simp
namespace T
theorem Vf:Ent Tryz.prog 176:=aN kR
end T
namespace divd
theorem OA (s t:SS) (hs:oK s) (ht:oK t):
 AL.Fn Tryz.prog 142 [spec s,spec t] [] (ι:= { d:Int//d<0↔jN s t }) (fun _ i=>int i.1) (fun _=> []):=by
 refine fnI Tryz.func142 rfl rfl (fun w0 F0=> ?_)
 have hT:=mA hs;have hU:=Dz hs;have hT0:=hT.few0;have hT1:=hT.few1;have ht0:=ht.few0;have ht1:=ht.few1;have hn8:=hT.n8;have hm8:=ht.n8
 have hmm:(tR s).1.sT.length*t.sT.length≤10000*10000:=Nat.mul_le_mul hT1 ht1
 refine fcC (bV 0 J) (fun hS0=> ?_)
 obtain⟨hsa0,hss0,hse0⟩:=sLn hS0
 refine fcC (bV 1 J) (fun hS1=> ?_)
 obtain⟨hsa1,hss1,hse1⟩:=sLn hS1
 refine sq (rg (bx (key:=2) (cs:= [sl 1 rE_ s.aC,sl 2 sE s.sT]) J fun b2=>(bx (key:=3) (cs:= [sl 1 rE_ t.aC,sl 2 sE t.sT]) J fun b3=>(ag (nl (th (sq (rg (lPA J J T.aW J (aZ (φs:= [agg [sl 1 rE_ s.aC,sl 2 sE s.sT]]) (φ:=tup [agg [sl 1 rE_ ((tR s).1).aC,sl 2 sE ((tR s).1).sT],sl 1 nE ((tR s).2)]) ⟨J,tV⟩ (divr.Ii s aS) T.QL (mv (xt J J (xt J J (sPA (cs':= [sl 1 rE_ ((tR s).1).aC,sl 2 sE ((tR s).1).sT]) J J J T.aW J J (nl (th (sq (rg (fP J T.bA (lP J J J T.bM (fc (aT 21 J) fun hm21=>(lnF J T.cE (mk (key:=23) (m:=((tR s).1).sT.length) (enc:=dE) (y:=(.slice none 0 0:Value)) J J T.Jy (eC eZ) mL mL fun v23=>(ag (nl (th (sq (sq (rg (nbB 231 ((tR s).1.sT.length) 4 1 blE (mv (lnO J J T.lW (mv (nl (th (bk ?_))))))))))))))))))))))))))))))))))))
 have hI0_0:0≤(List.replicate ((tR s).1).sT.length (.slice none 0 0:Value)).length:=by
  first|omega|simp
 have hI0_1:(List.replicate ((tR s).1).sT.length (.slice none 0 0:Value)).length=(tR s).1.sT.length∧(List.replicate ((tR s).1.sT.length) [])=List.replicate 0 (List.replicate t.sT.length false)++List.replicate ((tR s).1.sT.length- 0) []:=by
  exact⟨by simp,by simp⟩
 refine lp (κ:=Nat × (List Value) × (List (List Bool))) (fun p=> [(2,ptr 2 b2 0),(3,ptr 3 b3 0),(4,int 0),(5,osl 23 v23),(25,int ((List.replicate ((tR s).1).sT.length (.slice none 0 0:Value)).length:Int)),(26,int (p.1:Int))]) (fun p=> [(2,cell b2 [sl 1 rE_ ((tR s).1).aC,sl 2 sE ((tR s).1).sT]),(3,cell b3 [sl 1 rE_ t.aC,sl 2 sE t.sT]),(23,own v23 90 1 dE p.2.1),(231,bB p.2.1 4 1 blE p.2.2 none)]) (fun p=>(p.1≤(List.replicate ((tR s).1).sT.length (.slice none 0 0:Value)).length)∧(p.2.1.length=(tR s).1.sT.length∧p.2.2=List.replicate p.1 (List.replicate t.sT.length false)++List.replicate ((tR s).1.sT.length- p.1) [])) (fun p=>(List.replicate ((tR s).1).sT.length (.slice none 0 0:Value)).length- p.1) ⟨0,List.replicate ((tR s).1).sT.length (.slice none 0 0:Value),List.replicate ((tR s).1.sT.length) []⟩ ⟨hI0_0,hI0_1⟩ ⟨id,id,id,id,id,id,tV⟩ ⟨rI,rI,rI,rI,tV⟩ ?_
 intro⟨k,us,mt⟩ hG0
 obtain⟨hk0,⟨hul,hmt⟩⟩:(k≤(List.replicate ((tR s).1).sT.length (.slice none 0 0:Value)).length)∧(us.length=(tR s).1.sT.length∧mt=List.replicate k (List.replicate t.sT.length false)++List.replicate ((tR s).1.sT.length- k) []):=hG0
 show Ct _ _ _ _ [(2,ptr 2 b2 0),(3,ptr 3 b3 0),(4,int 0),(5,osl 23 v23),(25,int ((List.replicate ((tR s).1).sT.length (.slice none 0 0:Value)).length:Int)),(26,int (k:Int))] [(2,cell b2 [sl 1 rE_ ((tR s).1).aC,sl 2 sE ((tR s).1).sT]),(3,cell b3 [sl 1 rE_ t.aC,sl 2 sE t.sT]),(23,own v23 90 1 dE us),(231,bB us 4 1 blE mt none)] _
 have hml:mt.length=(tR s).1.sT.length:=by rw[hmt];simp;omega
 refine sq (rg (bi J J aO (nl (th (sq ?_)))))
 refine cd J (fun hc0=> ?_) (fun hc0=> ?_)
 ·try simp at hc0
  refine sk (th (sq (bk (sq (rg (mv (ag (nl (th (EX 231 2399 k J J (by decide) (gK O) (gK O) (rg (mv (mv (fP J T.bA (lP J J J T.bM (fc (aT 32 J) fun hm32=>(lnF J T.cE (mk (key:=34) (m:=t.sT.length) (enc:=blE) (y:=false) J J T.vT (eC eZ) mL mL fun v34=>(iO J J J T.lW O O (sOO (k2:=34) J J eO J T.jF gB J (y':=v34) J (nl (eb (th (rg (gvB (us:=us) 231 34 k J J (by decide) O (bi J J (aG i6) (mv (nl ?_))))))))))))))))))))))))))))
  have hN0:(k+1)≤(List.replicate ((tR s).1).sT.length (.slice none 0 0:Value)).length:=by
   first|omega|simp_all
  have hN1:(us.set k v34).length=(tR s).1.sT.length∧(mt.set k (List.replicate t.sT.length false))=List.replicate (k+1) (List.replicate t.sT.length false)++List.replicate ((tR s).1.sT.length- (k+1)) []:=by
   refine⟨by simpa using hul,?_⟩
   rw[hmt];exact Il _ _ hc0
  exact ln (⟨k+1,us.set k v34,mt.set k (List.replicate t.sT.length false)⟩:Nat × (List Value) × (List (List Bool))) ⟨hN0,hN1⟩ dO ⟨id,id,id,id,id,id,tV⟩ ⟨rI,rI,rI,rI,tV⟩
 ·try simp at hc0
  have hmz:mt=mat (tR s).1.sT.length t.sT.length []:=by rw[hmt,show k=(tR s).1.sT.length by omega,Nat.sub_self,FI];simp
  have hr0:(ix mt 0).length=t.sT.length:=by rw[hmz];exact rG O
  refine ex (xt_ (xt_ (xb (th (sq (rg (mv (iO J J J T.lW O O (lO J J gB J T.jF (tkB 231 2310 0 J J (by decide) (gK (k:=0) O) (gK (k:=0) O) (kn 39 (osl 2310 (ix us 0)) J cS (iO J J J T.gJ O O (sO (φ:=bl true) J J J T.eP gB J (y':=true) J (nl (th (sq (rg (gvU 231 2310 0 J J (by decide) (gK (k:=0) O) (bd (css:= [(0,_),(1,_)]) T.qO (eC (eC eZ)) ⟨J,J,p1 (φ:=int 0) J,⟨J,J,p1 (φ:=int 0) J,tV⟩⟩ (bsE (enc:=pE) (xs:= [(0,0)]) (css:= [[int 0,int 0]]) T.lG ⟨J,J,pA (cs:= [int 0,int 0]) J,tV⟩ J J J J (ag (nl (th (sq (sq (rg (ag (nl (th (bk ?_))))))))))))))))))))))))))))))
  have hI1_0:(mt.set 0 ((ix mt 0).set 0 true))=mat (tR s).1.sT.length t.sT.length ([(0,0)]:List (Int × Int))∧LI (iM (tR s).1 t) (jO (tR s).1 t) ([(0,0)]:List (Int × Int)) ([(0,0)]:List (Int × Int))∧0≤(0:Int)∧(0:Int)+((min ([(0,0)]:List (Int × Int)).length 1:Nat):Int)≤(([(0,0)]:List (Int × Int)).length:Int):=by
   refine⟨?_,Sm,O,by simp⟩
   rw[hmz]
   exact CH (vis:= []) (x:=0) (y:=0) O O
  refine lp (κ:=(List (List Bool)) × (List (Int × Int)) × (List (Int × Int)) × Int) (fun p=> [(2,ptr 2 b2 0),(3,ptr 3 b3 0),(5,osl 23 v23),(7,sl 2 pE p.2.2.1),(8,int p.2.2.2)]) (fun p=> [(2,cell b2 [sl 1 rE_ ((tR s).1).aC,sl 2 sE ((tR s).1).sT]),(3,cell b3 [sl 1 rE_ t.aC,sl 2 sE t.sT]),(23,own v23 90 1 dE us),(231,bB us 4 1 blE p.1 none)]) (fun p=>p.1=mat (tR s).1.sT.length t.sT.length p.2.1∧LI (iM (tR s).1 t) (jO (tR s).1 t) p.2.1 p.2.2.1∧0≤p.2.2.2∧p.2.2.2+((min p.2.2.1.length 1:Nat):Int)≤(p.2.1.length:Int)) (fun p=>(tR s).1.sT.length*t.sT.length- p.2.1.length+min p.2.2.1.length 1) ⟨mt.set 0 ((ix mt 0).set 0 true),([(0,0)]:List (Int × Int)),([(0,0)]:List (Int × Int)),(0:Int)⟩ hI1_0 ⟨id,id,id,id,id,tV⟩ ⟨rI,rI,rI,rI,tV⟩ ?_
  intro⟨mt1,vis,now,dp⟩ hG1
  obtain⟨hmt1,hLI,hd0,hdp⟩:mt1=mat (tR s).1.sT.length t.sT.length vis∧LI (iM (tR s).1 t) (jO (tR s).1 t) vis now∧0≤dp∧dp+((min now.length 1:Nat):Int)≤(vis.length:Int):=hG1
  show Ct _ _ _ _ [(2,ptr 2 b2 0),(3,ptr 3 b3 0),(5,osl 23 v23),(7,sl 2 pE now),(8,int dp)] [(2,cell b2 [sl 1 rE_ ((tR s).1).aC,sl 2 sE ((tR s).1).sT]),(3,cell b3 [sl 1 rE_ t.aC,sl 2 sE t.sT]),(23,own v23 90 1 dE us),(231,bB us 4 1 blE mt1 none)] _
  have hv1:=kO (tR s).1.sT.length t.sT.length vis hLI.nd (fun p hp=>nS hT ht hU (hLI.rch p hp))
  have hml1:mt1.length=(tR s).1.sT.length:=by rw[hmt1];exact uZ _ _ _
  refine sq (sq (rg (mv (fc (aT 43 J) fun hm43=>(lnF J T.fA (bi J J fJ (nl (th ?_))))))))
  refine cd J (fun hc1=> ?_) (fun hc1=> ?_)
  ·try simp at hc1
   refine sk (th (sq (bk (sq (rg (nw 9 80 2 pE (ag (rtg (key:=9) 9 J (nl (th (sq (sq (rg (mv (lnF J T.fA (mv (nl (th (bk ?_)))))))))))))))))))
   have hI2_0:0≤now.length:=by
    first|omega|simp
   have hI2_1:mt1=mat (tR s).1.sT.length t.sT.length vis∧LI (iM (tR s).1 t) (jO (tR s).1 t) vis (now.drop 0++([]:List (Int × Int)))∧vis.length=vis.length+([]:List (Int × Int)).length:=by
    exact⟨hmt1,by simpa using hLI,rfl⟩
   refine lp (κ:=Nat × (List (List Bool)) × Value × (List (Int × Int)) × (List (Int × Int))) (fun p=> [(2,ptr 2 b2 0),(3,ptr 3 b3 0),(5,osl 23 v23),(7,sl 2 pE now),(8,int dp),(9,osl 9 p.2.2.1),(48,sl 2 pE now),(49,int (now.length:Int)),(50,int (p.1:Int))]) (fun p=> [(2,cell b2 [sl 1 rE_ ((tR s).1).aC,sl 2 sE ((tR s).1).sT]),(3,cell b3 [sl 1 rE_ t.aC,sl 2 sE t.sT]),(9,own p.2.2.1 80 2 pE p.2.2.2.1),(23,own v23 90 1 dE us),(231,bB us 4 1 blE p.2.1 none)]) (fun p=>(p.1≤now.length)∧(p.2.1=mat (tR s).1.sT.length t.sT.length p.2.2.2.2∧LI (iM (tR s).1 t) (jO (tR s).1 t) p.2.2.2.2 (now.drop p.1++p.2.2.2.1)∧p.2.2.2.2.length=vis.length+p.2.2.2.1.length)) (fun p=>now.length- p.1) ⟨0,mt1,(.slice none 0 0),([]:List (Int × Int)),vis⟩ ⟨hI2_0,hI2_1⟩ ⟨id,id,id,id,id,id,id,id,id,tV⟩ ⟨rI,rI,rI,rI,rI,tV⟩ ?_
   intro⟨k2,mt2,v9x,nx,vis2⟩ hG2
   obtain⟨hk2,⟨hmt2,hLI2,hvl2⟩⟩:(k2≤now.length)∧(mt2=mat (tR s).1.sT.length t.sT.length vis2∧LI (iM (tR s).1 t) (jO (tR s).1 t) vis2 (now.drop k2++nx)∧vis2.length=vis.length+nx.length):=hG2
   show Ct _ _ _ _ [(2,ptr 2 b2 0),(3,ptr 3 b3 0),(5,osl 23 v23),(7,sl 2 pE now),(8,int dp),(9,osl 9 v9x),(48,sl 2 pE now),(49,int (now.length:Int)),(50,int (k2:Int))] [(2,cell b2 [sl 1 rE_ ((tR s).1).aC,sl 2 sE ((tR s).1).sT]),(3,cell b3 [sl 1 rE_ t.aC,sl 2 sE t.sT]),(9,own v9x 80 2 pE nx),(23,own v23 90 1 dE us),(231,bB us 4 1 blE mt2 none)] _
   have hv2:=kO (tR s).1.sT.length t.sT.length vis2 hLI2.nd (fun p hp=>nS hT ht hU (hLI2.rch p hp))
   have hml2:mt2.length=(tR s).1.sT.length:=by rw[hmt2];exact uZ _ _ _
   refine sq (rg (bi J J aO (nl (th (sq ?_)))))
   refine cd J (fun hc2=> ?_) (fun hc2=> ?_)
   ·try simp at hc2
    have hpv:ix now k2∈vis2:=hLI2.opn _ (List.mem_append.2 (.inl (by rw[Ij O];exact List.mem_cons_self)))
    have hpr:=hLI2.rch _ hpv
    obtain⟨hp0,hp1,hp2,hp3⟩:=nS hT ht hU hpr
    have hxl:=(hT.st (ix now k2).1.toNat O).len
    have hyl:=(ht.st (ix now k2).2.toNat O).len
    refine sk (th (sq (bk (sq (rg (iF J J T.fA O gB (lFA J T.dG (Nat.le_of_ble_eq_true J) (al (key:=11) T.z80 (eC (eC eZ)) fun b11=>(sPA (cs':= [int ((ix now k2).1),int ((ix now k2).2)]) J J J T.dG J J (nl (th (sq (sq (dr (nh:=13) [0,1,0,4,15,31,0,64,0,256,960,1984,4095] T.mixed kR ?_))))))))))))))
    refine st_ J (fun _ _ _ gq kq=>fP (gq.1.trans J) T.bA kq) ?_
    refine st_ J (fun _ _ _ gq kq=>lP (gq.1.trans J) J J T.bM kq) ?_
    refine st_ J (fun _ _ _ gq kq=>iPA (gq.1.trans J) J T.eU T.aH J kq) ?_
    refine st_ J (fun _ _ _ gq kq=>lP (gq.1.trans J) J J T.aH kq) ?_
    refine st_ J (fun _ _ _ gq kq=>iF (gq.1.trans J) (gq.2.1.trans J) T.cE O gB kq) ?_
    refine st_ J (fun _ _ _ gq kq=>lFA (gq.1.trans J) T.cR (Nat.le_of_ble_eq_true J) kq) ?_
    refine st_ J (fun _ _ _ gq kq=>fP (gq.1.trans J) T.bA kq) ?_
    refine st_ J (fun _ _ _ gq kq=>lP (gq.1.trans J) J J T.bM kq) ?_
    refine st_ J (fun _ _ _ gq kq=>iPA (gq.1.trans J) J T.eU T.aH J kq) ?_
    refine st_ J (fun _ _ _ gq kq=>lP (gq.1.trans J) J J T.aH kq) ?_
    refine st_ J (fun _ _ _ gq kq=>iF (gq.1.trans J) (gq.2.1.trans J) T.cE O gB kq) ?_
    refine st_ J (fun _ _ _ gq kq=>lFA (gq.1.trans J) T.cR (Nat.le_of_ble_eq_true J) kq) ?_
    refine st_ J (fun _ _ _ gq kq=>aZ (φs:= [agg [sl 1 nE (ix ((tR s).1).sT ((ix now k2).1).toNat).aP,sl 1 nE (ix ((tR s).1).sT ((ix now k2).1).toNat).next],agg [sl 1 nE (ix t.sT ((ix now k2).2).toNat).aP,sl 1 nE (ix t.sT ((ix now k2).2).toNat).next]]) (φ:=bl (uY (ix ((tR s).1).sT ((ix now k2).1).toNat) (ix t.sT ((ix now k2).2).toNat))) ⟨(gq.1.trans J),(gq.2.1.trans J),tV⟩ (divs.Ow (ix ((tR s).1).sT ((ix now k2).1).toNat) (ix t.sT ((ix now k2).2).toNat)) T.Vf kq) ?_
    refine pn (nl (th ?_))
    refine cd J (fun hc3=> ?_) (fun hc3=> ?_)
    ·try simp at hc3
     refine sq (rg (mv (ag (nl (th (rt (rt_ (rb (rt_ (rt_ (rb (rt_ (rb (rt_ (rt_ (rb (rt_ ?_)))))))))))))))))
     exact rE ⟨dp,⟨fun h=>absurd h O,fun h=>absurd ((DC hs ht).2 h) (WW hLI2 hpv (DD.1 hc3))⟩⟩ [.tmp 4] J [int dp] ⟨.tmp J,tV⟩ J trivial eX
    ·try simp at hc3
     have hnb:¬iM (tR s).1 t (ix now k2):=fun h=>by have h2:=DD.2 h;exact absurd h2 (by rw[hc3];decide)
     refine sk (th (sq (rg (fP J T.bA (lP J J J T.bM (iPA J J T.eU T.aH J (lP J J J T.aH (iF J J T.cE O gB (fF J T.bR (lF J J T.aY (fc (aT 74 J) fun hm74=>(lnF J T.aU (mv (nl (th (bk ?_))))))))))))))))
     have hI3_0:0≤(ix ((tR s).1).sT ((ix now k2).1).toNat).next.length:=by
      first|omega|simp
     have hI3_1:mt2=mat (tR s).1.sT.length t.sT.length vis2∧LI (iM (tR s).1 t) (jO (tR s).1 t) vis2 (now.drop k2++nx)∧vis2.length=vis.length+nx.length∧∀a,a<0→0≤ix (ix (tR s).1.sT (ix now k2).1.toNat).next a→(ix (ix (tR s).1.sT (ix now k2).1.toNat).next a,ix (ix t.sT (ix now k2).2.toNat).next a)∈vis2:=by
      exact⟨hmt2,hLI2,hvl2,fun a ha=>absurd ha O⟩
     refine lp (κ:=Nat × (List (List Bool)) × Value × (List (Int × Int)) × (List (Int × Int))) (fun p=> [(2,ptr 2 b2 0),(3,ptr 3 b3 0),(5,osl 23 v23),(7,sl 2 pE now),(8,int dp),(9,osl 9 p.2.2.1),(11,ptr 11 b11 0),(48,sl 2 pE now),(49,int (now.length:Int)),(50,int (k2:Int)),(74,sl 1 nE (ix ((tR s).1).sT ((ix now k2).1).toNat).next),(75,int ((ix ((tR s).1).sT ((ix now k2).1).toNat).next.length:Int)),(76,int (p.1:Int))]) (fun p=> [(2,cell b2 [sl 1 rE_ ((tR s).1).aC,sl 2 sE ((tR s).1).sT]),(3,cell b3 [sl 1 rE_ t.aC,sl 2 sE t.sT]),(9,own p.2.2.1 80 2 pE p.2.2.2.1),(11,cell b11 [int ((ix now k2).1),int ((ix now k2).2)]),(23,own v23 90 1 dE us),(231,bB us 4 1 blE p.2.1 none)]) (fun p=>(p.1≤(ix ((tR s).1).sT ((ix now k2).1).toNat).next.length)∧(p.2.1=mat (tR s).1.sT.length t.sT.length p.2.2.2.2∧LI (iM (tR s).1 t) (jO (tR s).1 t) p.2.2.2.2 (now.drop k2++p.2.2.2.1)∧p.2.2.2.2.length=vis.length+p.2.2.2.1.length∧∀a,a<p.1→0≤ix (ix (tR s).1.sT (ix now k2).1.toNat).next a→(ix (ix (tR s).1.sT (ix now k2).1.toNat).next a,ix (ix t.sT (ix now k2).2.toNat).next a)∈p.2.2.2.2)) (fun p=>(ix ((tR s).1).sT ((ix now k2).1).toNat).next.length- p.1) ⟨0,mt2,v9x,nx,vis2⟩ ⟨hI3_0,hI3_1⟩ ⟨id,id,id,id,id,id,id,id,id,id,id,id,id,tV⟩ ⟨rI,rI,rI,rI,rI,rI,tV⟩ ?_
     intro⟨k3,mt3,v9y,nx3,vis3⟩ hG3
     obtain⟨hk3,⟨hmt3,hLI3,hvl3,hdn⟩⟩:(k3≤(ix ((tR s).1).sT ((ix now k2).1).toNat).next.length)∧(mt3=mat (tR s).1.sT.length t.sT.length vis3∧LI (iM (tR s).1 t) (jO (tR s).1 t) vis3 (now.drop k2++nx3)∧vis3.length=vis.length+nx3.length∧∀a,a<k3→0≤ix (ix (tR s).1.sT (ix now k2).1.toNat).next a→(ix (ix (tR s).1.sT (ix now k2).1.toNat).next a,ix (ix t.sT (ix now k2).2.toNat).next a)∈vis3):=hG3
     show Ct _ _ _ _ [(2,ptr 2 b2 0),(3,ptr 3 b3 0),(5,osl 23 v23),(7,sl 2 pE now),(8,int dp),(9,osl 9 v9y),(11,ptr 11 b11 0),(48,sl 2 pE now),(49,int (now.length:Int)),(50,int (k2:Int)),(74,sl 1 nE (ix ((tR s).1).sT ((ix now k2).1).toNat).next),(75,int ((ix ((tR s).1).sT ((ix now k2).1).toNat).next.length:Int)),(76,int (k3:Int))] [(2,cell b2 [sl 1 rE_ ((tR s).1).aC,sl 2 sE ((tR s).1).sT]),(3,cell b3 [sl 1 rE_ t.aC,sl 2 sE t.sT]),(9,own v9y 80 2 pE nx3),(11,cell b11 [int ((ix now k2).1),int ((ix now k2).2)]),(23,own v23 90 1 dE us),(231,bB us 4 1 blE mt3 none)] _
     have hv3:=kO (tR s).1.sT.length t.sT.length vis3 hLI3.nd (fun p hp=>nS hT ht hU (hLI3.rch p hp))
     have hml3:mt3.length=(tR s).1.sT.length:=by rw[hmt3];exact uZ _ _ _
     refine sq (rg (bi J J aO (nl (th (sq ?_)))))
     refine cd J (fun hc4=> ?_) (fun hc4=> ?_)
     ·try simp at hc4
      refine sk (th (sq (bk (sq (rg (mv (iF J J T.aU O gB (lF J J T.aH (ag (ag (nl (th (sq (sq (rg (mv (bi J J aO (nl (th ?_)))))))))))))))))))
      refine cd J (fun hc5=> ?_) (fun hc5=> ?_)
      ·try simp at hc5
       refine ex (xt_ (xb (th (rg (bi J J (aG i6) (mv (nl ?_)))))))
       have hN0:(k3+1)≤(ix ((tR s).1).sT ((ix now k2).1).toNat).next.length:=by
        first|omega|simp_all
       have hN1:mt3=mat (tR s).1.sT.length t.sT.length vis3∧LI (iM (tR s).1 t) (jO (tR s).1 t) vis3 (now.drop k2++nx3)∧vis3.length=vis.length+nx3.length∧∀a,a<(k3+1)→0≤ix (ix (tR s).1.sT (ix now k2).1.toNat).next a→(ix (ix (tR s).1.sT (ix now k2).1.toNat).next a,ix (ix t.sT (ix now k2).2.toNat).next a)∈vis3:=by
        refine⟨hmt3,hLI3,hvl3,fun a ha h0=> ?_⟩
        by_cases e:a=k3
        ·subst e;omega
        ·exact hdn a O h0
       exact ln (⟨k3+1,mt3,v9y,nx3,vis3⟩:Nat × (List (List Bool)) × Value × (List (Int × Int)) × (List (Int × Int))) ⟨hN0,hN1⟩ dO ⟨id,id,id,id,id,id,id,id,id,id,id,id,id,tV⟩ ⟨rI,rI,rI,rI,rI,rI,tV⟩
      ·try simp at hc5
       have hka:k3<(tR s).1.aC.length:=by omega
       have hga:=WalkM.xI hT ht (x:=(ix now k2).1.toNat) (y:=(ix now k2).2.toNat) O O (fun u hu=>Classical.byContradiction fun hn=>hnb ⟨u,hu,hn⟩) ((hU _ O k3 hka).1 (by dsimp only [nxt];omega))
       obtain⟨hga1,hga2,hga3⟩:=hga
       dsimp only [nxt] at hga2 hga3
       have hrq:Rch (iM (tR s).1 t) (jO (tR s).1 t) (ix (ix (tR s).1.sT (ix now k2).1.toNat).next k3,ix (ix t.sT (ix now k2).2.toNat).next k3):=Rch.step hpr hnb ⟨k3,by dsimp only [nxt];omega,by dsimp only [nxt];omega,rfl⟩
       have hqn:=((hT.st (ix now k2).1.toNat O).nx k3 hka).2
       have hrl:(ix mt3 (ix (ix (tR s).1.sT (ix now k2).1.toNat).next k3).toNat).length=t.sT.length:=by rw[hmt3];exact rG O
       have hmq:ix (ix mt3 (ix (ix (tR s).1.sT (ix now k2).1.toNat).next k3).toNat) (ix (ix t.sT (ix now k2).2.toNat).next k3).toNat=decide ((ix (ix (tR s).1.sT (ix now k2).1.toNat).next k3,ix (ix t.sT (ix now k2).2.toNat).next k3)∈vis3):=by
        rw[hmt3,LU O O,Int.toNat_of_nonneg O,Int.toNat_of_nonneg O]
       refine sk (th (sq (rg (mv (fP J T.bA (lP J J J T.bM (iPA J J T.eU T.aH J (lP J J J T.aH (iF J J T.cE O gB (fF J T.bR (lF J J T.aY (mv (iF J J T.aU O gB (lF J J T.aH (bd (css:= [(0,_),(1,_)]) T.qO (eC (eC eZ)) ⟨J,J,p1 (φ:=int (ix (ix ((tR s).1).sT ((ix now k2).1).toNat).next k3)) J,⟨J,J,p1 (φ:=int (ix (ix t.sT ((ix now k2).2).toNat).next k3)) J,tV⟩⟩ (al (key:=14) T.z80 (eC (eC eZ)) fun b14=>(sPA (cs':= [int (ix (ix ((tR s).1).sT ((ix now k2).1).toNat).next k3),int (ix (ix t.sT ((ix now k2).2).toNat).next k3)]) J J J T.dG J J (nl (th (sq (EX 231 2310 (ix (ix (tR s).1.sT (ix now k2).1.toNat).next k3).toNat J J (by decide) (gK O) (gK O) (dr (nh:=10) [0,0,2,7,15,0,32,127,255,511] T.mixed kR ?_))))))))))))))))))))))
       refine st_ J (fun _ _ _ gq kq=>mv' (gq.1.trans J) kq) ?_
       refine st_ J (fun _ _ _ gq kq=>iPA (gq.1.trans J) J T.eU T.aH J kq) ?_
       refine st_ J (fun _ _ _ gq kq=>lP (gq.1.trans J) J J T.aH kq) ?_
       refine st_ J (fun _ _ _ gq kq=>iO (gq.1.trans J) J (gq.2.1.trans J) T.lW O O kq) ?_
       refine st_ J (fun _ _ _ gq kq=>lO (gq.1.trans J) J gB J T.jF kq) ?_
       refine st_ J (fun _ _ _ gq kq=>iPA (gq.1.trans J) J T.eU T.aH J kq) ?_
       refine st_ J (fun _ _ _ gq kq=>lP (gq.1.trans J) J J T.aH kq) ?_
       refine st_ J (fun _ _ _ gq kq=>iO ((gq.1.trans J).trans (eO (key:=2310)).symm) J (gq.2.1.trans J) T.gJ O O kq) ?_
       refine st_ J (fun _ _ _ gq kq=>lO (gq.1.trans J) J gB J T.eP kq) ?_
       refine st_ J (fun _ _ _ gq kq=>no (gq.1.trans J) kq) ?_
       refine pn (nl (th ?_))
       refine cd J (fun hc6=> ?_) (fun hc6=> ?_)
       ·skip
        have hnq:(ix (ix (tR s).1.sT (ix now k2).1.toNat).next k3,ix (ix t.sT (ix now k2).2.toNat).next k3)∉vis3:=by
                  intro h
                  rw[hmq] at hc6
                  simp[h] at hc6
        refine sq (dr (nh:=8) [0,0,2,7,15,0,32,127,255] T.mixed kR ?_)
        refine st_ J (fun _ _ _ gq kq=>mv' (gq.1.trans J) kq) ?_
        refine st_ J (fun _ _ _ gq kq=>iPA (gq.1.trans J) J T.eU T.aH J kq) ?_
        refine st_ J (fun _ _ _ gq kq=>lP (gq.1.trans J) J J T.aH kq) ?_
        refine st_ J (fun _ _ _ gq kq=>iO (gq.1.trans J) J (gq.2.1.trans J) T.lW O O kq) ?_
        refine st_ J (fun _ _ _ gq kq=>lO (gq.1.trans J) J gB J T.jF kq) ?_
        refine st_ J (fun _ _ _ gq kq=>iPA (gq.1.trans J) J T.eU T.aH J kq) ?_
        refine st_ J (fun _ _ _ gq kq=>lP (gq.1.trans J) J J T.aH kq) ?_
        refine st_ J (fun _ _ _ gq kq=>iO ((gq.1.trans J).trans (eO (key:=2310)).symm) J (gq.2.1.trans J) T.gJ O O kq) ?_
        refine pn (sO (φ:=bl true) J J J T.eP gB J (y':=true) J (nl (th (rg (gvU 231 2310 (ix (ix (tR s).1.sT (ix now k2).1.toNat).next k3).toNat J J (by decide) (gK O) (mv (lPA J J T.dG J (bs (css:= [[int (ix (ix ((tR s).1).sT ((ix now k2).1).toNat).next k3),int (ix (ix t.sT ((ix now k2).2).toNat).next k3)]]) T.lG ⟨J,J,pA (cs:= [int (ix (ix ((tR s).1).sT ((ix now k2).1).toNat).next k3),int (ix (ix t.sT ((ix now k2).2).toNat).next k3)]) J,tV⟩ J J J (ap (key:=9) (zs:= [(ix (ix ((tR s).1).sT ((ix now k2).1).toNat).next k3,ix (ix t.sT ((ix now k2).2).toNat).next k3)]) bP J J J T.lG (by unfold aQ at*;simp;omega) (by unfold aQ at*;simp;omega) fun v116=>(ag (nl (eb (th (rg (bi J J (aG i6) (mv (nl ?_)))))))))))))))))
        have hN0:(k3+1)≤((ix (((tR s).1).sT) (((ix now k2).1).toNat)).next).length:=by
                  first|omega|simp_all
        have hN1:(mt3.set ((ix (ix (tR s).1.sT (ix now k2).1.toNat).next k3).toNat) ((ix mt3 ((ix (ix (tR s).1.sT (ix now k2).1.toNat).next k3).toNat)).set ((ix ((ix t.sT (((ix now k2).2).toNat)).next) k3).toNat) true))=mat (tR s).1.sT.length t.sT.length (vis3++ [(ix (ix (tR s).1.sT (ix now k2).1.toNat).next k3,ix (ix t.sT (ix now k2).2.toNat).next k3)])∧LI (iM (tR s).1 t) (jO (tR s).1 t) (vis3++ [(ix (ix (tR s).1.sT (ix now k2).1.toNat).next k3,ix (ix t.sT (ix now k2).2.toNat).next k3)]) (now.drop k2++(nx3++ [(ix ((ix (((tR s).1).sT) (((ix now k2).1).toNat)).next) k3,ix ((ix t.sT (((ix now k2).2).toNat)).next) k3)]))∧(vis3++ [(ix (ix (tR s).1.sT (ix now k2).1.toNat).next k3,ix (ix t.sT (ix now k2).2.toNat).next k3)]).length=vis.length+(nx3++ [(ix ((ix (((tR s).1).sT) (((ix now k2).1).toNat)).next) k3,ix ((ix t.sT (((ix now k2).2).toNat)).next) k3)]).length∧∀a,a<(k3+1)→0≤ix (ix (tR s).1.sT (ix now k2).1.toNat).next a→(ix (ix (tR s).1.sT (ix now k2).1.toNat).next a,ix (ix t.sT (ix now k2).2.toNat).next a)∈(vis3++ [(ix (ix (tR s).1.sT (ix now k2).1.toNat).next k3,ix (ix t.sT (ix now k2).2.toNat).next k3)]):=by
                  refine⟨?_,?_,by simp;omega,fun a ha h0=> ?_⟩
                  ·have hms:=CH (n:=(tR s).1.sT.length) (m:=t.sT.length) (vis:=vis3) (x:=(ix (ix (tR s).1.sT (ix now k2).1.toNat).next k3).toNat) (y:=(ix (ix t.sT (ix now k2).2.toNat).next k3).toNat) O O
                   rw[Int.toNat_of_nonneg O,Int.toNat_of_nonneg O,←hmt3] at hms
                   exact hms
                  ·have:=Sn hLI3 hnq hrq
                   rwa [List.append_assoc] at this
                  ·by_cases e:a=k3
                   ·subst e;exact List.mem_append.2 (.inr (List.mem_singleton.2 rfl))
                   ·exact List.mem_append.2 (.inl (hdn a O h0))
        exact ln (⟨k3+1,mt3.set (ix (ix (tR s).1.sT (ix now k2).1.toNat).next k3).toNat ((ix mt3 (ix (ix (tR s).1.sT (ix now k2).1.toNat).next k3).toNat).set (ix (ix t.sT ((ix now k2).2).toNat).next k3).toNat true),v116,nx3++ [(ix (ix ((tR s).1).sT ((ix now k2).1).toNat).next k3,ix (ix t.sT ((ix now k2).2).toNat).next k3)],vis3++ [(ix (ix (tR s).1.sT (ix now k2).1.toNat).next k3,ix (ix t.sT (ix now k2).2.toNat).next k3)]⟩:Nat × (List (List Bool)) × Value × (List (Int × Int)) × (List (Int × Int))) ⟨hN0,hN1⟩ dO ⟨id,id,id,id,id,id,id,id,id,id,id,id,id,tV⟩ ⟨rI,rI,rI,rI,rI,rI,tV⟩
       ·skip
        have hyq:(ix (ix (tR s).1.sT (ix now k2).1.toNat).next k3,ix (ix t.sT (ix now k2).2.toNat).next k3)∈vis3:=by
                  rw[hmq] at hc6
                  simpa using hc6
        refine XS 231 2310 (ix (ix (tR s).1.sT (ix now k2).1.toNat).next k3).toNat rfl rfl (by decide) (gK O) (gK O) (sk (eb (th (rg (bi rfl rfl (aG i6) (mv (nl ?_)))))))
        have hN0:(k3+1)≤((ix (((tR s).1).sT) (((ix now k2).1).toNat)).next).length:=by
                  first|omega|simp_all
        have hN1:mt3=mat (tR s).1.sT.length t.sT.length vis3∧LI (iM (tR s).1 t) (jO (tR s).1 t) vis3 (now.drop k2++nx3)∧vis3.length=vis.length+nx3.length∧∀a,a<(k3+1)→0≤ix (ix (tR s).1.sT (ix now k2).1.toNat).next a→(ix (ix (tR s).1.sT (ix now k2).1.toNat).next a,ix (ix t.sT (ix now k2).2.toNat).next a)∈vis3:=by
                  refine⟨hmt3,hLI3,hvl3,fun a ha h0=> ?_⟩
                  by_cases e:a=k3
                  ·subst e;exact hyq
                  ·exact hdn a O h0
        exact ln (⟨k3+1,mt3,v9y,nx3,vis3⟩:Nat × (List (List Bool)) × Value × (List (Int × Int)) × (List (Int × Int))) ⟨hN0,hN1⟩ dO ⟨id,id,id,id,id,id,id,id,id,id,id,id,id,tV⟩ ⟨rI,rI,rI,rI,rI,rI,tV⟩
     ·try simp at hc4
      refine ex (xt_ (xt_ (xb (eb (th (rg (bi J J (aG i6) (mv (nl ?_)))))))))
      have hN0:(k2+1)≤now.length:=by
       first|omega|simp_all
      have hN1:mt3=mat (tR s).1.sT.length t.sT.length vis3∧LI (iM (tR s).1 t) (jO (tR s).1 t) vis3 (now.drop (k2+1)++nx3)∧vis3.length=vis.length+nx3.length:=by
       refine⟨hmt3,?_,hvl3⟩
       have h3:=hLI3
       rw[Ij O] at h3
       refine Vd h3 ⟨hnb,?_⟩
       rintro _ ⟨a,ha,h0,rfl⟩
       exact hdn a (by dsimp only [nxt] at ha;omega) h0
      exact ln (⟨k2+1,mt3,v9y,nx3,vis3⟩:Nat × (List (List Bool)) × Value × (List (Int × Int)) × (List (Int × Int))) ⟨hN0,hN1⟩ dO ⟨id,id,id,id,id,id,id,id,id,tV⟩ ⟨rI,rI,rI,rI,rI,tV⟩
   ·try simp at hc2
    refine ex (xt_ (xt_ (xb (th (rg (fz 9 9 J J (mv (ag (nl (eb (th (rg (mv (bi J J (aG i6) (ag (nl ?_))))))))))))))))
    have hN0:mt2=mat (tR s).1.sT.length t.sT.length vis2∧LI (iM (tR s).1 t) (jO (tR s).1 t) vis2 nx∧0≤(dp+1)∧(dp+1)+((min nx.length 1:Nat):Int)≤(vis2.length:Int):=by
     refine⟨hmt2,?_,O,?_⟩
     ·rw[show now.drop k2= [] from List.drop_eq_nil_of_le O] at hLI2
      simpa using hLI2
     ·omega
    exact ln (⟨mt2,vis2,nx,dp+1⟩:(List (List Bool)) × (List (Int × Int)) × (List (Int × Int)) × Int) hN0 dO ⟨id,id,id,id,id,tV⟩ ⟨rI,rI,rI,rI,tV⟩
  ·try simp at hc1
   refine ex (xt_ (xt_ (xb (th (sq (rg (ag (nl (th (rt ?_))))))))))
   exact rE ⟨-1,⟨fun _=>(DC hs ht).1 (Ve (by rw[show now= [] from by first|exact hc1|exact List.eq_nil_of_length_eq_zero O] at hLI;exact hLI)),fun _=>by decide⟩⟩ [.tmp 4] J [int (-1)] ⟨.tmp J,tV⟩ J trivial eX
end divd
end
section
open ref01 ref03 ref04 ref06 prog6 prog15 starts Part Rungs LeftM TrimM RoundM MergeM BisM BisM5 BisM6 WalkM StepM WitM JudgM
namespace JudgM2
theorem WX {s:SS} (hs:oK s) (h0:ix (hOl s) 0=false) {x:Nat} (hx:x<(tS s).sT.length):0<(acc (tS s) x).length:=by
 rw[kL] at hx
 rw[pZ hx]
 exact List.length_pos_iff.2 (yO (by have:=gZ hs hx;omega) (xN hs h0 hx))
structure VR where
 holds:Bool
 ladder:List Int
 pairs:List PP
 wit:aB
structure Ym (s t:SS) (v:VR):Prop where
 yes:v.holds=true→jN s t∧v.ladder=eT s∧v.wit=⟨[],[]⟩∧(ix (hOl s) 0=true→v.pairs= [])∧(ix (hOl s) 0=false→∃q,JE (tS s) t q∧(∀k,k<q.length→Oc (tS s) t q k)∧v.pairs=q.map fun m=>(ix (aM s) m.s.toNat,m.t))
 no:v.holds=false→¬jN s t∧v.ladder= []∧v.pairs= []∧ix (hOl s) 0=false∧∃q i u,JE (tS s) t q∧i<q.length∧u∈acc (tS s) (ix q i).s.toNat∧u∉acc t (ix q i).t.toNat∧BC (tS s) (Eu (tS s) (mP q i) u) v.wit
end JudgM2
end
section
open ref01 ref03 ref04 ref06 prog prog2 prog3 prog4 prog5 prog6 prog13 prog15 starts search Part Rungs LeftM TrimM RoundM MergeM BisM BisM5 WalkM StepM WitM JudgM JudgM2 refw judg wit
theorem oK.small {s:SS} (h:oK s):jE s:=fun k hk i hi=>by
 have:=(h.st k hk).ac i hi
 omega
noncomputable def pH (s t:SS):Bool:= @decide (jN s t) (Classical.propDecidable _)
theorem FK {s t:SS}:pH s t=true↔jN s t:=by unfold pH;simp
namespace refj
end refj
end
section
open ref01 ref03 ref04 ref06 prog prog2 prog3 prog6 prog13 Part Rungs LeftM TrimM RoundM MergeM BisM BisM4 BisM5 WalkM StepM WitM JudgM refw judg wit refj sysw divr divs divd LevM
noncomputable def eqR (s t:SS):Bool:=pH s t&&pH t s
noncomputable def rH (g w:SS):Bool:=bT g&&decide (g.aC=w.aC)&&nR g&&eqR g w
namespace T
theorem Vg:Ent Tryz.prog 142:=aN kR
theorem LV:Ent Tryz.prog 108:=aN kR
theorem JN:Ent Tryz.prog 21:=aN kR
theorem WY:Ent Tryz.prog 58:=aN kR
theorem WZ:Ent Tryz.prog 59:=aN kR
end T
namespace dive
theorem BJ (s t:SS) (hs:oK s) (ht:oK t):
 Fn0 Tryz.prog 108 [spec s,spec t] (bl (pH s t)):=by
 refine fnI Tryz.func108 rfl rfl (fun w0 F0=> ?_)
 refine fcC (bV 0 J) (fun hS0=> ?_)
 obtain⟨hsa0,hss0,hse0⟩:=sLn hS0
 refine fcC (bV 1 J) (fun hS1=> ?_)
 obtain⟨hsa1,hss1,hse1⟩:=sLn hS1
 refine sq (rg (bx (key:=2) (cs:= [sl 1 rE_ s.aC,sl 2 sE s.sT]) J fun b2=>(bx (key:=3) (cs:= [sl 1 rE_ t.aC,sl 2 sE t.sT]) J fun b3=>(ag (nl (th (sq (rg (lPA J J T.aW J (lPA J J T.aW J (cl (divd.OA s t aS aS) T.Vg trivial fun N7 i7=>(bi J J aO (ag (nl (th (rt ?_))))))))))))))))
 have hr0:(decide (i7.1<0))=(pH s t):=by
  rw[Bool.eq_iff_iff,FK,decide_eq_true_eq];exact i7.2
 exact rE () [.tmp 4] J [bl (decide (i7.1<0))] ⟨.tmp J,tV⟩ (cA1 (fun x0=>rV [bl x0]) hr0) trivial eX
theorem OB (s t:SS) (hs:oK s) (ht:oK t):
 Fn0 Tryz.prog 59 [spec s,spec t] (bl (eqR s t)):=by
 refine fnI Tryz.func59 rfl rfl (fun w0 F0=> ?_)
 refine fcC (bV 0 J) (fun hS0=> ?_)
 obtain⟨hsa0,hss0,hse0⟩:=sLn hS0
 refine fcC (bV 1 J) (fun hS1=> ?_)
 obtain⟨hsa1,hss1,hse1⟩:=sLn hS1
 refine sq (rg (bx (key:=2) (cs:= [sl 1 rE_ s.aC,sl 2 sE s.sT]) J fun b2=>(bx (key:=3) (cs:= [sl 1 rE_ t.aC,sl 2 sE t.sT]) J fun b3=>(ag (nl (th (sq (rg (lPA J J T.aW J (lPA J J T.aW J (aZ (φs:= [agg [sl 1 rE_ s.aC,sl 2 sE s.sT],agg [sl 1 rE_ t.aC,sl 2 sE t.sT]]) (φ:=bl (pH s t)) ⟨J,J,tV⟩ (dive.BJ s t aS aS) T.LV (mv ?_))))))))))))
 apply cZ (t:=8) (pd:=12) rfl
 rotate_left
 ·intro hg0 fin
  have hg0':=hg0
  try simp at hg0'
  exact gy J J J hg0 (lPA J J T.aW J (gy J J J hg0 (lPA J J T.aW J (gy J J J hg0 (aZ (φs:= [agg [sl 1 rE_ t.aC,sl 2 sE t.sT],agg [sl 1 rE_ s.aC,sl 2 sE s.sT]]) (φ:=bl (pH t s)) ⟨J,J,tV⟩ (dive.BJ t s aS aS) T.LV (pkT J hg0 J (drp (X:= [(11,_),(10,_),(9,_)]) ⟨J,J,J,tV⟩ fin)))))))
 ·intro hg0 fin
  exact gn J J J hg0 J J (gn J J J hg0 J J (gn J J J hg0 J J (pkF J hg0 J (drp (X:= [(11,_),(10,_),(9,_)]) ⟨J,J,J,tV⟩ fin))))
 refine ag (nl (th (rt ?_)))
 have hr0:((pH s t)&&(pH t s))=(eqR s t):=by
  first|rfl|simp_all|omega
 exact rE () [.tmp 4] J [bl ((pH s t)&&(pH t s))] ⟨.tmp J,tV⟩ (cA1 (fun x0=>rV [bl x0]) hr0) trivial eX
theorem yT (g w:SS) (hw:oK w):
 Fn0 Tryz.prog 22 [spec g,spec w] (bl (rH g w)):=by
 refine fnI Tryz.func22 rfl rfl (fun w0 F0=> ?_)
 refine fcC (bV 0 J) (fun hS0=> ?_)
 obtain⟨hsa0,hss0,hse0⟩:=sLn hS0
 refine fcC (bV 1 J) (fun hS1=> ?_)
 obtain⟨hsa1,hss1,hse1⟩:=sLn hS1
 refine sq (rg (bx (key:=2) (cs:= [sl 1 rE_ g.aC,sl 2 sE g.sT]) J fun b2=>(bx (key:=3) (cs:= [sl 1 rE_ w.aC,sl 2 sE w.sT]) J fun b3=>(ag (nl (th (sq (rg (lPA J J T.aW J (aZ (φs:= [agg [sl 1 rE_ g.aC,sl 2 sE g.sT]]) (φ:=bl (bT g)) ⟨J,tV⟩ (ref03.tF g) T.JN (mv ?_)))))))))))
 apply cZ (t:=7) (pd:=13) rfl
 rotate_left
 ·intro hg0 fin
  have hg0':=hg0
  try simp at hg0'
  exact gy J J J hg0 (fP J T.cP (gy J J J hg0 (lP J J J T.cK (gy J J J hg0 (fP J T.cP (gy J J J hg0 (lP J J J T.cK (gy J J J hg0 (aZ (φs:= [sl 1 rE_ g.aC,sl 1 rE_ w.aC]) (φ:=bl (decide (g.aC=w.aC))) ⟨J,J,tV⟩ (ref01.oT _ _) T.Jo (pkT J hg0 J (drp (X:= [(12,_),(11,_),(10,_),(9,_),(8,_)]) ⟨J,J,J,J,J,tV⟩ fin)))))))))))
 ·intro hg0 fin
  exact gn J J J hg0 J J (gn J J J hg0 J J (gn J J J hg0 J J (gn J J J hg0 J J (gn J J J hg0 J J (pkF J hg0 J (drp (X:= [(12,_),(11,_),(10,_),(9,_),(8,_)]) ⟨J,J,J,J,J,tV⟩ fin))))))
 refine mv ?_
 apply cZ (t:=14) (pd:=17) rfl
 rotate_left
 ·intro hg1 fin
  have hg1':=hg1
  try simp at hg1'
  have hok:oK g:=fC (by simp at hg1;exact hg1.1)
  exact gy J J J hg1 (lPA J J T.aW J (gy J J J hg1 (aZ (φs:= [agg [sl 1 rE_ g.aC,sl 2 sE g.sT]]) (φ:=bl (nR g)) ⟨J,tV⟩ (divr.LO g aS) T.WY (pkT J hg1 J (drp (X:= [(16,_),(15,_)]) ⟨J,J,tV⟩ fin)))))
 ·intro hg1 fin
  exact gn J J J hg1 J J (gn J J J hg1 J J (pkF J hg1 J (drp (X:= [(16,_),(15,_)]) ⟨J,J,tV⟩ fin)))
 refine mv ?_
 apply cZ (t:=18) (pd:=22) rfl
 rotate_left
 ·intro hg2 fin
  have hg2':=hg2
  try simp at hg2'
  have hok:oK g:=fC (by simp at hg2;exact hg2.1.1)
  exact gy J J J hg2 (lPA J J T.aW J (gy J J J hg2 (lPA J J T.aW J (gy J J J hg2 (aZ (φs:= [agg [sl 1 rE_ g.aC,sl 2 sE g.sT],agg [sl 1 rE_ w.aC,sl 2 sE w.sT]]) (φ:=bl (eqR g w)) ⟨J,J,tV⟩ (dive.OB g w aS aS) T.WZ (pkT J hg2 J (drp (X:= [(21,_),(20,_),(19,_)]) ⟨J,J,J,tV⟩ fin)))))))
 ·intro hg2 fin
  exact gn J J J hg2 J J (gn J J J hg2 J J (gn J J J hg2 J J (pkF J hg2 J (drp (X:= [(21,_),(20,_),(19,_)]) ⟨J,J,J,tV⟩ fin))))
 refine ag (nl (th (rt ?_)))
 have hr0:((((bT g)&&(decide (g.aC=w.aC)))&&(nR g))&&(eqR g w))=(rH g w):=by
  first|rfl|simp_all|omega
 exact rE () [.tmp 4] J [bl ((((bT g)&&(decide (g.aC=w.aC)))&&(nR g))&&(eqR g w))] ⟨.tmp J,tV⟩ (cA1 (fun x0=>rV [bl x0]) hr0) trivial eX
end dive
end
section
namespace LevM2
open ref01 ref03 ref04 ref06 Part Rungs LeftM TrimM BisM BisM5 BisM6 WitM JudgM LevM
end LevM2
end
section
open ref01 ref03 ref04 ref06 prog prog2 prog3 prog6 prog13 Part Rungs LeftM TrimM RoundM MergeM BisM BisM4 BisM5 WalkM StepM WitM JudgM refw judg wit refj sysw divr divs divd dive LevM LevM2
theorem Vh {m:aB} (hm:bE m) {x:Nat} (hx:x<m.sT.length):∀e∈ix m.sT x,0≤e.1∧e.1<8:=fun e he=>by
 have:=hm.ed x hx e he
 have:=hm.n8
 omega
namespace divg
end divg
end
section
namespace WitSat
open ref01 ref03 ref04 ref06 Part Rungs LeftM TrimM BisM BisM5 BisM6 WalkM StepM WitM JudgM
variable {T:SS} {want:List PP} {ss:List (List Int)} {q:List PP} {mm:List (PP × Int)} {m:aB}
end WitSat
end
section
namespace WitVal
open ref01 ref03 ref04 ref06 Part Rungs LeftM TrimM BisM BisM5 BisM6 WalkM StepM WitM JudgM WitSat sysw
variable {T:SS} {want:List PP} {ss:List (List Int)} {q:List PP} {mm:List (PP × Int)} {m:aB}
theorem FL {l:List (List PP)} {K:Nat}:(∀x∈l,x.length≤K)→bU l≤l.length*K:=by
 induction l with
 |nil=>intro _;simp[bU]
 |cons a l ih=>
  intro h
  have:=ih fun x hx=>h x (List.mem_cons_of_mem _ hx)
  have h0:=h a List.mem_cons_self
  rw[List.length_cons,Nat.succ_mul]
  unfold bU at this ⊢
  rw[List.map_cons,List.sum_cons]
  omega
end WitVal
end
section
namespace BisS
open ref01 ref03 ref04 ref06 Part Rungs LeftM TrimM MergeM RoundM BisM BisM4 BisM5 BisM6
structure BB (S D:SS) (R:Nat→Nat→Prop):Prop where
 bis:Bis S D R
 bd:∀{x y},R x y→x<S.sT.length∧y<D.sT.length
theorem BB.symm {S D:SS} {R:Nat→Nat→Prop} (h:BB S D R):BB D S (fun y x=>R x y):=
 ⟨⟨fun g=>(h.bis.acc g).symm,fun g=>(h.bis.len g).symm,fun {y x} g a ha=>by
   obtain⟨h1,h2⟩:=h.bis.nxt g a (by rw[h.bis.len g];exact ha)
   exact⟨h1.symm,fun h0=>h2 O⟩⟩,fun g=>⟨(h.bd g).2,(h.bd g).1⟩⟩
theorem LW {S D:SS} {R:Nat→Nat→Prop} (h:BB S D R) {x y:Nat} (hxy:R x y) (hh:Hol S x):Hol D y:=by
 have key:Closed S (fun x=> ∀y,R x y→Hol D y):=by
  intro x hx hc y hxy
  refine oF D y (h.bd hxy).2 (fun i hi=> ?_)
  have ea:(ix S.sT x).aP=(ix D.sT y).aP:=h.bis.acc hxy
  have el:(ix S.sT x).next.length=(ix D.sT y).next.length:=h.bis.len hxy
  obtain⟨a,ha,h1,h2,h3⟩:=hc i (by rw[ea];exact hi)
  obtain⟨g1,g2⟩:=h.bis.nxt hxy a ha
  have g1:ix (ix S.sT x).next a<0↔ix (ix D.sT y).next a<0:=g1
  exact⟨a,by rw[←el];exact ha,O,by rw[←ea];exact h2,h3 _ (g2 h1)⟩
 exact hh _ key y hxy
theorem DF {S D:SS} {R:Nat→Nat→Prop} (h:BB S D R) {x y:Nat} (hxy:R x y):ix (hOl S) x=ix (hOl D) y:=by
 rw[Bool.eq_iff_iff,jH (h.bd hxy).1,jH (h.bd hxy).2]
 exact⟨LW h hxy,LW h.symm hxy⟩
theorem Im {S D:SS} {R:Nat→Nat→Prop} (h:BB S D R) {x y:Nat} (hxy:R x y):keep S x=keep D y:=by
 have ea:(ix S.sT x).aP=(ix D.sT y).aP:=h.bis.acc hxy
 have el:(ix S.sT x).next.length=(ix D.sT y).next.length:=h.bis.len hxy
 unfold keep
 rw[ea,DF h hxy]
 congr 1
 funext t
 congr 2
 unfold dF
 rw[el]
 refine FG fun a ha=> ?_
 have hal:=List.mem_range.1 ha
 obtain⟨g1,g2⟩:=h.bis.nxt hxy a (by show a<(ix S.sT x).next.length;omega)
 have g1:ix (ix S.sT x).next a<0↔ix (ix D.sT y).next a<0:=g1
 by_cases hn:0≤ix (ix S.sT x).next a
 ·have hg:R (ix (ix S.sT x).next a).toNat (ix (ix D.sT y).next a).toNat:=g2 hn
  rw[decide_eq_true hn,decide_eq_true (show 0≤ix (ix D.sT y).next a by omega),DF h hg]
 ·rw[decide_eq_false hn,decide_eq_false (show ¬0≤ix (ix D.sT y).next a by omega)];rfl
theorem OC {S D:SS} (hS:oK S) (hD:oK D) {R:Nat→Nat→Prop} (h:BB S D R):Bis (aA S) (aA D) R:=by
 have hl:∀{x y},R x y→S.aC.length=D.aC.length:=fun {x y} hxy=>by
  have h1:=(hS.st x (h.bd hxy).1).len
  have h2:=(hD.st y (h.bd hxy).2).len
  have h3:(ix S.sT x).next.length=(ix D.sT y).next.length:=h.bis.len hxy
  omega
 refine⟨fun {x y} hxy=>by rw[hO (h.bd hxy).1,hO (h.bd hxy).2,Im h hxy],fun {x y} hxy=>by rw[gW hS (h.bd hxy).1,gW hD (h.bd hxy).2,hl hxy],fun {x y} hxy a ha=> ?_⟩
 have hx:=(h.bd hxy).1
 rw[gW hS hx] at ha
 have hal:a<(nxt S x).length:=by have:(nxt S x).length=S.aC.length:=(hS.st x hx).len;omega
 rw[kC hS hx ha,kC hD (h.bd hxy).2 (by rw[←hl hxy];exact ha),Im h hxy]
 by_cases g:has (aV (keep D y)) (a:Int)=true
 ·rw[if_pos g,if_pos g];exact h.bis.nxt hxy a hal
 ·rw[if_neg g,if_neg g];exact⟨Iff.rfl,fun h0=>absurd h0 (by decide)⟩
theorem Vi {S D:SS} (hS:oK S) (hD:oK D) (ha:S.aC=D.aC) {R:Nat→Nat→Prop} (h:BB S D R) (h0:R 0 0):jN S D∧jN D S:=(uX hS hD ha).2 ⟨R,OC hS hD h,h0⟩
structure pI {α:Type} [DecidableEq α] [Inhabited α] (A:α→List Int) (N:α→Nat→α) (n:Nat) (z:α) (l:List α) (D:SS):Prop where
 len:D.sT.length=l.length
 nd:l.Nodup
 ne:0<l.length
 hd:ix l 0=z
 acc:∀i,i<l.length→acc D i=A (ix l i)
 nl:∀i,i<l.length→(nxt D i).length=n
 nx:∀i,i<l.length→∀a,a<n→ix (nxt D i) a=if has (aV (A (ix l i))) (a:Int)=true then(l.idxOf (N (ix l i) a):Int) else-1
 cl:∀i,i<l.length→∀a,a<n→has (aV (A (ix l i))) (a:Int)=true→N (ix l i) a∈l
theorem Sq {α:Type} [DecidableEq α] [Inhabited α] {A:α→List Int} {N:α→Nat→α} {n:Nat} {z:α} {l r:List α} {S D:SS} (h:pI A N n z l S) (g:pI A N n z r D):
 BB S D (fun x y=>x<l.length∧y<r.length∧ix l x=ix r y):=by
 refine⟨⟨fun {x y} ⟨hx,hy,e⟩=>by rw[h.acc x hx,g.acc y hy,e],fun {x y} ⟨hx,hy,e⟩=>by rw[h.nl x hx,g.nl y hy],fun {x y} ⟨hx,hy,e⟩ a ha=> ?_⟩,fun {x y} ⟨hx,hy,_⟩=>⟨by rw[h.len];exact hx,by rw[g.len];exact hy⟩⟩
 rw[h.nl x hx] at ha
 rw[h.nx x hx a ha,g.nx y hy a ha,e]
 by_cases c:has (aV (A (ix r y))) (a:Int)=true
 ·rw[if_pos c,if_pos c]
  have h1:=h.cl x hx a ha (by rw[e];exact c)
  have h2:=g.cl y hy a ha c
  rw[e] at h1
  have i1:=List.idxOf_lt_length_of_mem h1
  have i2:=List.idxOf_lt_length_of_mem h2
  refine⟨O,fun _=>⟨by rw[Int.toNat_natCast];exact i1,by rw[Int.toNat_natCast];exact i2,?_⟩⟩
  rw[Int.toNat_natCast,Int.toNat_natCast,aF i1,aF i2,List.getElem_idxOf,List.getElem_idxOf]
 ·rw[if_neg c,if_neg c];exact⟨Iff.rfl,fun h0=>absurd h0 (by decide)⟩
theorem OD {α:Type} [DecidableEq α] [Inhabited α] {A:α→List Int} {N:α→Nat→α} {n:Nat} {z:α} {l r:List α} {S D:SS} (hS:oK S) (hD:oK D) (ha:S.aC=D.aC) (h:pI A N n z l S) (g:pI A N n z r D):
 jN S D∧jN D S:=Vi hS hD ha (Sq h g) ⟨h.ne,g.ne,h.hd.trans g.hd.symm⟩
end BisS
end
section
open ref01 ref03 ref04 ref06 prog prog2 prog3 prog6 prog13 Part Rungs LeftM TrimM RoundM MergeM BisM BisM4 BisM5 WalkM StepM WitM JudgM JudgM2 refw judg wit refj sysw divr divs divd dive divg LevM LevM2
structure Vj (s:SS) (z:aB × Int):Prop where
 bad:bT s=false→z=(⟨[],[]⟩,30)
 hol:bT s=true→ix (hOl s) 0=true→z=(⟨[],[]⟩,3)
 fit:bT s=true→ix (hOl s) 0=false→z.2=0∧BC (tS s) [] z.1
namespace divw
end divw
end
section
open ref01 ref03 ref04 ref06 prog prog2 prog3 prog6 prog13 Part Rungs LeftM TrimM RoundM MergeM BisM BisM4 BisM5 WalkM StepM WitM JudgM JudgM2 refw judg wit refj sysw divr divs divd dive divg divw LevM LevM2
namespace divv
theorem OE (l:List ByteArray) (hl:l.length≤8):
 Fn0 Tryz.prog 91 [strs l] (spec (qC l)):=by
 refine fnI Tryz.func91 rfl rfl (fun w0 F0=> ?_)
 have h2n:2^l.length≤2^8:=Nat.pow_le_pow_right O hl
 refine fcC (aT 0 J) (fun hm0=> ?_)
 refine sq (rg (al (key:=2) T.z28 (eC (eC eZ)) fun b2=>(nl (th (sq (rg (mv (lnF J T.dW (mk (key:=7) (m:=l.length) (enc:=nE) (y:=(0:Int)) J J T.bS (eC eZ) (by unfold aQ at*;omega) (by unfold aQ at*;omega) fun v7=>(fz 7 7 J J (bd (css:= [(1,_)]) T.vR (eC (eC eZ)) ⟨J,J,p1 (φ:=sl 1 nE (List.replicate l.length (0:Int))) J,tV⟩ (al (key:=3) T.z79 (eC (eC eZ)) fun b3=>(sPA (cs':= [eqv (.slice none 0 0),sl 1 nE (List.replicate l.length (0:Int))]) J J J T.cR J J (nl (th (sq (sq (rg (mv (lnF J T.dW (bi J J (pX O O) (mv (nl (th (bk ?_)))))))))))))))))))))))))
 refine nwC 30 3 1 nE (iJ 3 0 (osl 30 (.slice none 0 0)) rfl rfl cS ?_)
 have hI0_0:0≤2^l.length:=by
  first|omega|simp
 have hI0_1:([]:List Int)=(List.range 0).map fun(x:Nat)=>(x:Int):=by
  rfl
 refine lp (κ:=Nat × Value × (List Int)) (fun p=> [(0,sl 1 rE_ l),(2,ptr 2 b2 0),(3,ptr 3 b3 0),(11,int ((2^l.length:Nat):Int)),(12,int (p.1:Int))]) (fun p=> [(2,cell b2 [eqv (.slice none 0 0),eqv (.slice none 0 0)]),(3,cell b3 [osl 30 p.2.1,sl 1 nE (List.replicate l.length 0)]),(30,own p.2.1 3 1 nE p.2.2)]) (fun p=>(p.1≤2^l.length)∧(p.2.2=(List.range p.1).map fun(x:Nat)=>(x:Int))) (fun p=>2^l.length- p.1) ⟨0,(.slice none 0 0),([]:List Int)⟩ ⟨hI0_0,hI0_1⟩ ⟨id,id,id,id,id,tV⟩ ⟨rI,rI,rI,tV⟩ ?_
 intro⟨k,v,acc⟩ hG0
 obtain⟨hk0,hI0⟩:(k≤2^l.length)∧(acc=(List.range k).map fun(x:Nat)=>(x:Int)):=hG0
 show Ct _ _ _ _ [(0,sl 1 rE_ l),(2,ptr 2 b2 0),(3,ptr 3 b3 0),(11,int ((2^l.length:Nat):Int)),(12,int (k:Int))] [(2,cell b2 [eqv (.slice none 0 0),eqv (.slice none 0 0)]),(3,cell b3 [osl 30 v,sl 1 nE (List.replicate l.length 0)]),(30,own v 3 1 nE acc)] _
 have hlen:acc.length=k:=by rw[hI0];simp
 refine sq (rg (bi J J aO (nl (th (sq ?_)))))
 refine cd J (fun hc0=> ?_) (fun hc0=> ?_)
 ·try simp at hc0
  have hkk:k<2^l.length:=by exact_mod_cast hc0
  refine sk (th (sq (bk (sq (rg (mv (ag (nl (th (rg (fP J T.cJ (lP J J J T.aY (mv (bsE (enc:=nE) (xs:= [(k:Int)]) (css:= [[int (k:Int)]]) T.bS ⟨J,J,p1 (φ:=int (k:Int)) J,tV⟩ J J J J (ap (key:=30) (zs:= [(k:Int)]) bP J J J T.bS (by unfold aQ at*;simp;omega) (by unfold aQ at*;simp;omega) fun v19=>(fP J T.cJ (bY J J J J T.aY J (nl (eb (th (rg (bi J J (aG i6) (mv (nl ?_))))))))))))))))))))))))
  have hN0:(k+1)≤2^l.length:=by
   first|omega|simp_all
  have hN1:(acc++ [(k:Int)])=(List.range (k+1)).map fun(x:Nat)=>(x:Int):=by
   rw[hI0,List.range_succ,List.map_append];rfl
  exact ln (⟨k+1,v19,acc++ [(k:Int)]⟩:Nat × Value × (List Int)) ⟨hN0,hN1⟩ dO ⟨id,id,id,id,id,tV⟩ ⟨rI,rI,rI,tV⟩
 ·try simp at hc0
  have hkk:2^l.length≤k:=by first|exact_mod_cast hc0|exact Nat.le_of_not_lt (by exact_mod_cast hc0)
  refine ex (xt_ (xt_ (xb (th (sq (EV 3 30 0 J J J J (dr (nh:=5) [0,1,0,4,15,31] T.mixed kR ?_)))))))
  refine st_ J (fun _ _ _ gq kq=>mv' (gq.1.trans J) kq) ?_
  refine st_ J (fun _ _ _ gq kq=>lB (φs:= [sl 1 rE_ l]) (φ:=sl 1 rE_ l) ⟨(gq.1.trans J),tV⟩ (prog.gG _ O) T.tK (fun N hN=>fun h=>jQ h) kq) ?_
  refine st_ J (fun _ _ _ gq kq=>lPA (gq.1.trans J) J T.cR J kq) ?_
  refine st_ J (fun _ _ _ gq kq=>bsE (enc:=sE) (xs:= [(⟨acc,List.replicate l.length 0⟩)]) (css:= [[sl 1 nE acc,sl 1 nE (List.replicate l.length 0)]]) T.kS ⟨J,J,pA (cs:= [sl 1 nE acc,sl 1 nE (List.replicate l.length 0)]) (by exact(gq.1.trans J)),tV⟩ J J J J kq) ?_
  refine st_ J (fun _ _ _ gq kq=>bd (css:= [(0,_),(1,_)]) T.nA (eC (eC eZ)) ⟨J,J,p1 (φ:=sl 1 rE_ l) (by exact(gq.1.trans J)),⟨J,J,p1 (φ:=sl 2 sE [(⟨acc,List.replicate l.length 0⟩)]) (by exact(gq.2.1.trans J)),tV⟩⟩ kq) ?_
  refine pn (sPA (cs':= [sl 1 rE_ l,sl 2 sE [(⟨acc,List.replicate l.length 0⟩)]]) J J J T.aW J J (nl (th (rt ?_))))
  have hr0:l=(qC l).aC:=by
   rfl
  have hr1: [(⟨acc,List.replicate l.length 0⟩)]=(qC l).sT:=by
   unfold qC;rw[hI0,show k=2^l.length by omega]
  exact rE () [.cell 2 28] J [agg [sl 1 rE_ l,sl 2 sE [(⟨acc,List.replicate l.length 0⟩)]]] ⟨.agg J J T.aW J J,tV⟩ (cA2 (fun x0 x1=>rV [agg [sl 1 rE_ x0,sl 2 sE x1]]) hr0 hr1) trivial eX
end divv
end
section
open ref01 ref03 ref04 ref06 prog prog2 prog3 prog6 prog13 Part Rungs LeftM TrimM RoundM MergeM BisM BisM4 BisM5 WalkM StepM WitM JudgM JudgM2 refw judg wit refj sysw divr divs divd dive divg divw divv LevM LevM2
namespace divf
end divf
end
section
namespace ChsM
open ref01 ref03 divs divf
end ChsM
end
section
open ref01 ref03 ref04 ref06 Part Rungs LeftM TrimM
namespace ValidM
theorem CJ {u n:Nat} (h:∀a,u.testBit a=true→a<n):u<2^n:=
 Nat.lt_pow_two_of_testBit u (fun i hi=>by
  cases hb:u.testBit i with
  |false=>rfl
  |true=>exact absurd (h i hb) O)
theorem JO {x:SA} {N n:Nat} (h:okState x N n):cT x (N:Int) n=true:=by
 unfold cT
 simp only [Bool.and_eq_true,decide_eq_true_eq]
 refine⟨⟨⟨by rw[h.len],h.rise⟩,List.all_eq_true.2 (fun j hj=> ?_)⟩,List.all_eq_true.2 (fun u hu=> ?_)⟩
 ·obtain⟨a,ha,rfl⟩:=mM hj
  have:=h.nx a (by rw[←h.len];exact ha)
  simp;omega
 ·obtain⟨i,hi,rfl⟩:=mM hu
  have h1:=h.ac i hi
  have h2:=h.go i hi
  unfold fW
  rw[Bool.and_eq_true]
  constructor
  ·unfold eG
   have:(ix x.aP i).toNat<2^n:=CJ (fun a ha=>(h2 a (by unfold has;rw[Int.toNat_natCast];exact ha)).1)
   simp only [Bool.and_eq_true,decide_eq_true_eq,Int.toNat_natCast]
   omega
  ·refine List.all_eq_true.2 (fun a ha=> ?_)
   obtain⟨b,rfl,hb,hh⟩:=eB.1 ha
   have:=(h2 b hh).2
   rw[Int.toNat_natCast];simpa using this
theorem DG {s:SS} (h:oK s) (h5:s.sT.length≤500):bT s=true:=by
 unfold bT
 simp only [Bool.and_eq_true,decide_eq_true_eq]
 exact⟨⟨⟨h.acts,h.few0⟩,h5⟩,List.all_eq_true.2 (fun x hx=>by
  obtain⟨k,hk,rfl⟩:=List.getElem_of_mem hx
  have:=JO (h.st k hk)
  rwa [aF hk] at this)⟩
theorem JP {s:SS} (h:bT s=true):s.sT.length≤500:=by
 unfold bT at h
 simp only [Bool.and_eq_true,decide_eq_true_eq] at h
 exact h.1.2
end ValidM
end
end Go.Proofs.YtnlfjojfgghchaaGreatDoor
