/- The walks of the functions and the plain laws. Own texts of this claim, packed: MkLawP, MkJudgM, Mksysw, Mkdivr, Mkdivs, MkLevM, Mkdivd, MkJudgM2, Mkrefj, Mkdive, MkLevM2, Mkdivg, MkWitSat, MkWitVal, MkBisS, Mkdivw, Mkdivv, Mkdivf, MkChsM, MkValidM, MkTrimI, MkQuoM, MkFailM, MkDivM. -/
import Derived.Test.YtnlfjojfgghchaaGreatDoorX04
import Derived.Test.YtnlfjojfgghchaaGreatDoorX12
import Derived.Test.YtnlfjojfgghchaaGreatDoorX13
import Derived.Test.YtnlfjojfgghchaaGreatDoorRows
import Derived.ProofKit
import Derived.LaidMore
import Derived.Lib.LaidTab
import Derived.Lib.SmallJoins
import Derived.OpenShut
import Derived.Stop.Joined
import Derived.Test.YtnlfjojfgghchaaGreatDoorX10
import Derived.Test.YtnlfjojfgghchaaGreatDoorX06
import Derived.Test.YtnlfjojfgghchaaGreatDoorX08
set_option linter.all false
namespace Go.Proofs.YtnlfjojfgghchaaGreatDoor
open AL Go
set_option maxRecDepth 100000
section
open ref01 ref03 ref04 ref06 prog prog2 prog6 Itoa
open Go.ChangeShapes Go.WideShapes Go.ChangeAt Go.WideElems Go.RowKit
namespace LawOpen
theorem laidOut:laidOutB Tryz.prog=true:=by kernel_rfl
theorem own:ownKnob Tryz.prog.godebug=none:=by kernel_rfl
theorem zS {H:Type} {P:Program} {t:TypeId} {fs:Array Field} {ps:List (DataW H)} (h:P.underlying t=some (.struct fs)):(DataW.agg ps:DataW H).weights P t=DataW.weightsEach P (fs.toList.map (·.type)) ps:=by
 simp[DataW.weights,h]
section
variable {H:Type} {enc:TypeId × Value→H} {W:World}
attribute [local semireducible] agg in
theorem Hg {m:Nat} {cs:List Value} {y:DataW H × List MemPlace} (h:DataW.trod enc Tryz.prog W 0 (fun _=>true) true m 79 cs=some y) (hz:∀k∈y.1.weights Tryz.prog 79,k≤reachBytes) (hl:cs.length=2):
 ∃x:SA,All2 W (sL W) (sE x) cs∧∀t∈x.aP,t<2^63:=by
 obtain⟨y0,y1,n,hx,_,h0,h1⟩:=trod_struct2 Tryz.underlying79 h
 subst hx
 have hz:∀k∈y0.1.weights Tryz.prog 66++(y1.1.weights Tryz.prog 66++ []),k≤reachBytes:=by
  have e:(DataW.agg [y0.1,y1.1]:DataW H).weights Tryz.prog 79=y0.1.weights Tryz.prog 66++(y1.1.weights Tryz.prog 66++ []):=by
   rw[zS Tryz.underlying79]
   simp[DataW.weightsEach]
  rw[←e];exact hz
 have c28:Tryz.prog.cellsOf 66=1:=by kernel_rfl
 have c3:Tryz.prog.cellsOf 3=1:=by kernel_rfl
 have b3:1≤Tryz.prog.bytesOf 3:=by have:Tryz.prog.bytesOf 3=8:=kR;omega
 match cs,hl with
 | [v0,v1],_=>
   have h0:DataW.trod enc Tryz.prog W 0 (fun _=>true) true n 66 (([v0,v1].drop 0).take (Tryz.prog.cellsOf 66))=some y0:=h0
   have h1:DataW.trod enc Tryz.prog W 0 (fun _=>true) true n 66 (([v0,v1].drop 1).take (Tryz.prog.cellsOf 66))=some y1:=h1
   rw[c28] at h0 h1
   obtain⟨ys,g1,g2⟩:=BM Tryz.underlying66 Tryz.underlying3 c3 b3 h0 (fun k hk=>hz k (List.mem_append.2 (.inl hk)))
   obtain⟨zs,g3,_⟩:=BM Tryz.underlying66 Tryz.underlying3 c3 b3 h1 (fun k hk=>hz k (List.mem_append.2 (.inr (List.mem_append.2 (.inl hk)))))
   exact⟨⟨ys,zs⟩,⟨g1,g3,tV⟩,fun t ht=>by have:=g2 t ht;omega⟩
attribute [local semireducible] agg in
theorem JI {r:Reach} {b0:Nat} {v:Value} {d:DataW H} {p:List MemPlace} (hv:Value.okWide Tryz.prog W r b0 28 v) (h:DataW.Trod enc Tryz.prog W 0 (fun _=>true) true 28 v d p) (hz:∀k∈d.weights Tryz.prog 28,k≤reachBytes):
 ∃s:SS,(spec s).p W (sL W) v∧iZ s:=by
 obtain⟨v0,v1,y0,y1,n,rfl,rfl,rfl,h0,h1⟩:=Go.Joins.open_agg2 Tryz.underlying28 kR kR hv h
 have hz:∀k∈y0.1.weights Tryz.prog 22++(y1.1.weights Tryz.prog 26++ []),k≤reachBytes:=by
  have e:(DataW.agg [y0.1,y1.1]:DataW H).weights Tryz.prog 28=y0.1.weights Tryz.prog 22++(y1.1.weights Tryz.prog 26++ []):=by
   rw[zS Tryz.underlying28]
   simp[DataW.weightsEach]
  rw[←e];exact hz
 have c9:Tryz.prog.cellsOf 9=1:=by kernel_rfl
 have b9:1≤Tryz.prog.bytesOf 9:=by have:Tryz.prog.bytesOf 9=16:=kR;omega
 have c69:Tryz.prog.cellsOf 79=2:=by kernel_rfl
 have b69:1≤Tryz.prog.bytesOf 79:=by have:Tryz.prog.bytesOf 79=48:=kR;omega
 obtain⟨al,g1⟩:=JG Tryz.underlying22 Tryz.underlying9 c9 b9 h0 (fun k hk=>hz k (List.mem_append.2 (.inl hk)))
 obtain⟨xs,g2,g3⟩:=Ap (n:=2) (E:=sE) Tryz.underlying26 c69 (by decide) b69 h1 (fun k hk=>hz k (List.mem_append.2 (.inr (List.mem_append.2 (.inl hk))))) (fun x=> ∀t∈x.aP,t<2^63) (fun m cs y hy hw hl=>Hg hy hw hl)
 refine⟨⟨al,xs⟩,⟨[v0,v1],rfl,g1,g2,tV⟩,fun k hk i hi=> ?_⟩
 have hk:k<xs.length:=hk
 have hi:i<(ix xs k).aP.length:=hi
 exact g3 (ix xs k) (Rungs.aR hk) _ (Rungs.iW hi)
end
abbrev BO:List (String × DataW Unit):= [("math/bits.deBruijn32tab",Rows.laid_math_bits_deBruijn32tab),("math/bits.deBruijn64tab",Rows.laid_math_bits_deBruijn64tab),("internal/strconv.uint64pow10",Rows.laid_internal_strconv_uint64pow10)]
theorem Hh {W:World} (h:laidMetH Tryz.prog BO W) (v:Value):tab.p W (sL W) v:=by
 rw[MakeChecks.laidMetH_plain _ _ _ kR] at h
 obtain⟨ps,⟨g0,t0,cs0,f0,p0,q0,hg0,ht0,hv0,hd0,⟨g1,t1,cs1,f1,p1,q1,hg1,ht1,hv1,hd1,⟨g2,t2,cs2,f2,p2,q2,hg2,ht2,hv2,hd2,_,_⟩,_⟩,_⟩,_,_⟩:=h
 have e0:g2=0:=Option.some.inj (hg2.symm.trans (show Tryz.prog.globalNamed "internal/strconv.uint64pow10" =some 0 by kernel_rfl))
 subst e0
 have e1:t2=267:=Option.some.inj (ht2.symm.trans (show(Tryz.prog.globals[0]?).map (·.type)=some 267 by kernel_rfl))
 subst e1
 have hc:=Lib.cells_of_tab (zs:=Lib.pow10Tab) (k:= .u64) Tryz.underlying267 Tryz.underlying219 kR kR hd2
 refine⟨0,by kernel_rfl,?_,?_⟩
 ·have h2:=hv2
  unfold World.var? at h2
  rw[show Tryz.prog.globalNamed "internal/strconv.uint64pow10" =some 0 by kernel_rfl] at h2
  simp only [Option.bind_some] at h2
  show 0<W.heap.size
  cases hh:W.heap[0]? with
  |none=>rw[hh] at h2;cases h2
  |some o=>exact(Array.getElem?_eq_some_iff.1 hh).1
 ·unfold Lib.TabIs CE
  rw[hv2,←hc]
end LawOpen
open LawOpen
namespace LawOpen2
theorem Oy (os:Os) (args:Array Value):laidMetH Tryz.prog BO ((World.doorLaid Tryz.prog 400 os).forCall (fun _ _=>0) ⟨#[],args,[]⟩).memory:=
 laidMetH_of_parts3 (fuel:=8) (laidMet_of_run' 8 kR kR) kR kR
end LawOpen2
open LawOpen2 WitM wit
namespace LawOpen3
section
variable {H:Type} {enc:TypeId × Value→H} {W:World}
end
end LawOpen3
end
section
open ref01 ref03 ref04 ref06 prog15 starts Part Rungs LeftM TrimM RoundM BisM BisM5 BisM6 WalkM StepM WitM
namespace JudgM
def dR (es:List PP):Int:=bC (es.map fun e=>((2^e.1.toNat:Nat):Int))
abbrev edg (m:aA) (x:Nat):List PP:=ix m.sT x
abbrev bQ (m:aA) (x:Nat):Int:=dR (edg m x)
def edM (m:aA) (x:Nat):List (Nat × Nat):=(edg m x).map fun e=>(e.1.toNat,e.2.toNat)
theorem HX (a b:Nat):has ((2^a:Nat):Int) (b:Int)=decide (a=b):=by
 unfold has;rw[Int.toNat_natCast,Int.toNat_natCast,Nat.testBit_two_pow]
theorem iP {es:List PP} {a:Nat}:has (dR es) (a:Int)=true↔∃e∈es,e.1.toNat=a:=by
 unfold dR
 rw[cY]
 constructor
 ·rintro⟨u,hu,hh⟩
  obtain⟨e,he,rfl⟩:=List.mem_map.1 hu
  rw[HX] at hh
  exact⟨e,he,by simpa using hh⟩
 ·rintro⟨e,he,rfl⟩
  exact⟨_,List.mem_map.2 ⟨e,he,rfl⟩,by rw[HX];simp⟩
theorem xR (m:aA):Es (bQ m) (edM m):=fun x a=>by
 rw[iP]
 unfold edM
 constructor
 ·rintro⟨e,he,h⟩;exact⟨_,List.mem_map.2 ⟨e,he,rfl⟩,h⟩
 ·rintro⟨e,he,h⟩
  obtain⟨e',he',rfl⟩:=List.mem_map.1 he
  exact⟨e',he',h⟩
structure aY (m:aA):Prop where
 acts:bW m.aC=true
 n8:m.aC.length≤8
 few0:1≤m.sT.length
 few1:m.sT.length≤10000
 ed:∀x,x<m.sT.length→∀e∈edg m x,0≤e.1∧e.1<(m.aC.length:Int)∧0≤e.2∧e.2<(m.sT.length:Int)
 many:∀x,x<m.sT.length→(edg m x).length≤400000
def fX (m:aA) (t:SS):Prop:=Sat (bQ m) (edM m) t 0 0
structure QJ (m:aA) (t:SS) (q:List Mt):Prop where
 ne:0<q.length
 hd:ix q 0=⟨0,0,-1,0⟩
 bd:∀p∈q,0≤p.s∧p.s<(m.sT.length:Int)∧0≤p.t∧p.t<(t.sT.length:Int)
 nd:(q.map dL).Nodup
 back:∀k,0<k→k<q.length→∃(b:Nat) (e:PP),(ix q k).before=(b:Int)∧(ix q k).action=e.1∧b<k∧e∈edg m (ix q b).s.toNat∧(ix q k).s=e.2∧(ix q k).t=ix (nxt t (ix q b).t.toNat) e.1.toNat∧bQ m (ix q b).s.toNat∈acc t (ix q b).t.toNat
 all:∀R,JF (bQ m) (edM m) t R→R 0 0→∀p∈q,R p.s.toNat p.t.toNat
def lL (m:aA) (t:SS) (q:List Mt) (k:Nat):Prop:=
 bQ m (ix q k).s.toNat∈acc t (ix q k).t.toNat∧∀e∈edg m (ix q k).s.toNat,(e.2,ix (nxt t (ix q k).t.toNat) e.1.toNat)∈q.map dL
theorem RZ {m:aA} {t:SS} (hm:aY m) (ht:oK t):QJ m t [⟨0,0,-1,0⟩]:=by
 have f1:=hm.few0
 have f2:=ht.few0
 refine⟨by simp,rfl,fun p hp=> ?_,by simp,fun k h1 h2=> ?_,fun R hR h p hp=> ?_⟩
 ·have:p=⟨0,0,-1,0⟩:=by simpa using hp
  subst this
  show 0≤(0:Int)∧(0:Int)<_∧0≤(0:Int)∧(0:Int)<_
  omega
 ·simp at h2;omega
 ·have:p=⟨0,0,-1,0⟩:=by simpa using hp
  subst this;exact h
theorem pF {m:aA} {t:SS} (hm:aY m) (ht:oK t) {x y:Nat} (hx:x<m.sT.length) (hy:y<t.sT.length) (ha:bQ m x∈acc t y) {e:PP} (he:e∈edg m x):
 e.1.toNat<t.aC.length∧0≤ix (nxt t y) e.1.toNat∧ix (nxt t y) e.1.toNat<(t.sT.length:Int):=by
 have:=rH ht hy (a:=e.1.toNat) ((cY _ _).2 ⟨_,ha,iP.2 ⟨e,he,rfl⟩⟩)
 exact this
theorem Sa {m:aA} {t:SS} (hm:aY m) (ht:oK t) {q:List Mt} (h:QJ m t q) {i:Nat} (hi:i<q.length) (ha:bQ m (ix q i).s.toNat∈acc t (ix q i).t.toNat) {e:PP} (he:e∈edg m (ix q i).s.toNat)
 (hn:(e.2,ix (nxt t (ix q i).t.toNat) e.1.toNat)∉q.map dL):QJ m t (q++ [⟨e.2,ix (nxt t (ix q i).t.toNat) e.1.toNat,(i:Int),e.1⟩]):=by
 have hb:=h.bd _ (aR hi)
 have g1:=hm.ed (ix q i).s.toNat O e he
 have g2:=pF hm ht (x:=(ix q i).s.toNat) (y:=(ix q i).t.toNat) O O ha he
 refine⟨by simp,by rw[oY h.ne];exact h.hd,fun p hp=> ?_,?_,fun k h1 h2=> ?_,fun R hR h0 p hp=> ?_⟩
 ·rcases List.mem_append.1 hp with hp|hp
  ·exact h.bd p hp
  ·have:p=_:=List.mem_singleton.1 hp
   subst this
   exact⟨g1.2.2.1,g1.2.2.2,g2.2.1,g2.2.2⟩
 ·rw[List.map_append,List.nodup_append]
  exact⟨h.nd,by simp,fun p hp p' hp' e'=>hn (by
   have:p'=_:=List.mem_singleton.1 hp'
   rw[e',this] at hp;exact hp)⟩
 ·simp at h2
  by_cases e':k=q.length
  ·subst e'
   refine⟨i,e,?_⟩
   rw[Oj,oY hi]
   exact⟨rfl,rfl,hi,he,rfl,rfl,ha⟩
  ·obtain⟨b,a',p1,p2,p3,p4⟩:=h.back k h1 O
   refine⟨b,a',?_⟩
   rw[oY O,oY O]
   exact⟨p1,p2,p3,p4⟩
 ·rcases List.mem_append.1 hp with hp|hp
  ·exact h.all R hR h0 p hp
  ·have:p=_:=List.mem_singleton.1 hp
   subst this
   have:=(hR.nxt (h.all R hR h0 _ (aR hi)) (e.1.toNat,e.2.toNat) (List.mem_map.2 ⟨e,he,rfl⟩)).2
   exact this
theorem JJ {m:aA} {t:SS} {q:List Mt} {p:Mt} {k:Nat} (hk:k<q.length) (h:lL m t q k):lL m t (q++ [p]) k:=by
 unfold lL
 rw[oY hk]
 exact⟨h.1,fun e he=>by rw[List.map_append];exact List.mem_append_left _ (h.2 e he)⟩
theorem Sb {m:aA} {t:SS} {q:List Mt} (h:QJ m t q):LD q:=fun k hk h0=>by
 rcases Nat.eq_zero_or_pos k with e|e
 ·subst e;rw[h.hd] at h0
  have h0:(0:Int)≤ -1:=h0
  omega
 ·obtain⟨b,a,e1,e2,e3,_⟩:=h.back k e hk
  rw[e1];omega
theorem kV:∀(n m:Nat) (l:List (Int × Int)),l.Nodup→(∀p∈l,0≤p.1∧p.1<(n:Int)∧0≤p.2∧p.2<(m:Int))→l.length≤n*m:=by
 intro n m l hnd hb
 have h1:(l.map fun p=>p.1.toNat*m+p.2.toNat).Nodup:=by
  rw[List.nodup_iff_pairwise_ne,List.pairwise_map]
  refine List.Pairwise.imp_of_mem ?_ hnd
  intro a b ha hb' hne e
  have b1:=hb a ha
  have b2:=hb b hb'
  have hm:0<m:=by omega
  have e1:a.1.toNat=b.1.toNat:=by
   have:=congrArg (· /m) e
   simp only [Nat.mul_comm _ m] at this
   rw[Nat.mul_add_div hm,Nat.mul_add_div hm,Nat.div_eq_of_lt O,Nat.div_eq_of_lt O] at this
   omega
  have e2:a.2.toNat=b.2.toNat:=by rw[e1] at e;omega
  exact hne (Prod.ext O O)
 have h2:∀x∈(l.map fun p=>p.1.toNat*m+p.2.toNat),x∈List.range (n*m):=fun x hx=>by
  obtain⟨p,hp,rfl⟩:=List.mem_map.1 hx
  have b1:=hb p hp
  rw[List.mem_range]
  have:(p.1.toNat+1)*m≤n*m:=Nat.mul_le_mul_right m O
  rw[Nat.add_mul] at this
  omega
 have h3:=List.Nodup.length_le_of_subset h1 h2
 simpa using h3
theorem LM {m:aA} {t:SS} {q:List Mt} (h:QJ m t q):q.length≤m.sT.length*t.sT.length:=by
 have:=kV m.sT.length t.sT.length (q.map dL) h.nd (fun p hp=>by
  obtain⟨m,hm,rfl⟩:=List.mem_map.1 hp
  exact h.bd m hm)
 simpa using this
structure sM (m:aA) (t:SS) (q:List Mt) (i:Nat) (k:Nat) (q2:List Mt) (mm2:List ((Int × Int) × Bool)):Prop where
 qi:QJ m t q2
 sm:qQ mm2 q2
 pre:q<+:q2
 dn:∀k,k<i→lL m t q2 k
 al:∀e∈(edg m (ix q i).s.toNat).take k,(e.2,ix (nxt t (ix q i).t.toNat) e.1.toNat)∈q2.map dL
theorem HY {q r:List Mt} {k:Nat} (h:q<+:r) (hk:k<q.length):ix r k=ix q k:=by
 obtain⟨u,rfl⟩:=h
 exact oY hk
theorem LN {m:aA} {t:SS} {q:List Mt} {i:Nat} {mm:List ((Int × Int) × Bool)} (h:QJ m t q) (hs:qQ mm q) (hd:∀k,k<i→lL m t q k):sM m t q i 0 q mm:=⟨h,hs,List.prefix_rfl,hd,fun e he=>by simp at he⟩
theorem LO {m:aA} {t:SS} (hm:aY m) (ht:oK t) {q:List Mt} {i k:Nat} {q2:List Mt} {mm2:List ((Int × Int) × Bool)} (h:sM m t q i k q2 mm2) (hi:i<q.length) (ha:bQ m (ix q i).s.toNat∈acc t (ix q i).t.toNat) (hk:k<(edg m (ix q i).s.toNat).length) {e:PP} (he:ix (edg m (ix q i).s.toNat) k=e)
 {y:Int} (hy:ix (nxt t (ix q i).t.toNat) e.1.toNat=y) (hn:(bM mm2 (e.2,y)).getD false=false):sM m t q i (k+1) (q2++ [⟨e.2,y,(i:Int),e.1⟩]) (cB mm2 (e.2,y) true):=by
 subst hy
 have hl:=h.pre.length_le
 have hqi:=HY h.pre hi
 have hem:e∈edg m (ix q i).s.toNat:=by rw[←he];exact aR hk
 have hn':(e.2,ix (nxt t (ix q i).t.toNat) e.1.toNat)∉q2.map dL:=by
  rw[Fp h.sm] at hn
  simpa using hn
 have hp:=Sa hm ht h.qi (i:=i) O (by rw[hqi];exact ha) (e:=e) (by rw[hqi];exact hem) (by rw[hqi];exact hn')
 rw[hqi] at hp
 refine⟨hp,Dz h.sm ⟨e.2,ix (nxt t (ix q i).t.toNat) e.1.toNat,(i:Int),e.1⟩,h.pre.trans (List.prefix_append _ _),fun k hk=>JJ O (h.dn k hk),fun b hb=> ?_⟩
 rw[List.map_append,List.mem_append]
 rw[bJ hk,he,List.mem_append] at hb
 rcases hb with h1|h1
 ·exact .inl (h.al b h1)
 ·have:b=e:=by simpa using h1
  subst this
  exact .inr (List.mem_singleton.2 rfl)
theorem LQ {m:aA} {t:SS} {q:List Mt} {i k:Nat} {q2:List Mt} {mm2:List ((Int × Int) × Bool)} (h:sM m t q i k q2 mm2) (hk:k<(edg m (ix q i).s.toNat).length) {e:PP} (he:ix (edg m (ix q i).s.toNat) k=e)
 {y:Int} (hy:ix (nxt t (ix q i).t.toNat) e.1.toNat=y) (hn:(bM mm2 (e.2,y)).getD false=true):sM m t q i (k+1) q2 mm2:=by
 subst hy
 refine⟨h.qi,h.sm,h.pre,h.dn,fun b hb=> ?_⟩
 rw[bJ hk,he,List.mem_append] at hb
 rcases hb with h1|h1
 ·exact h.al b h1
 ·have:b=e:=by simpa using h1
  subst this
  rw[Fp h.sm] at hn
  simpa using hn
theorem Oz {m:aA} {t:SS} {q:List Mt} {i k:Nat} {q2:List Mt} {mm2:List ((Int × Int) × Bool)} (h:sM m t q i k q2 mm2) (hi:i<q.length) (ha:bQ m (ix q i).s.toNat∈acc t (ix q i).t.toNat) (hk:(edg m (ix q i).s.toNat).length≤k):
 QJ m t q2∧qQ mm2 q2∧i+1≤q2.length∧∀k,k<i+1→lL m t q2 k:=by
 have hl:=h.pre.length_le
 refine⟨h.qi,h.sm,O,fun j hj=> ?_⟩
 by_cases e:j=i
 ·subst e
  have hqi:=HY h.pre hi
  have hal:=h.al
  rw[List.take_of_length_le hk] at hal
  unfold lL
  rw[hqi]
  exact⟨ha,hal⟩
 ·exact h.dn j O
theorem Sc {m:aA} {t:SS} (hm:aY m) (ht:oK t) {q:List Mt} (h:QJ m t q) (hd:∀k,k<q.length→lL m t q k):fX m t:=by
 have hat:∀{x y:Nat},((x:Int),(y:Int))∈q.map dL→∃k,k<q.length∧(ix q k).s=(x:Int)∧(ix q k).t=(y:Int):=fun {x y} hm=>by
  obtain⟨m,hm,e⟩:=List.mem_map.1 hm
  obtain⟨k,hk,rfl⟩:=List.getElem_of_mem hm
  unfold dL at e
  simp only [Prod.mk.injEq] at e
  exact⟨k,hk,by rw[aH hk];exact e.1,by rw[aH hk];exact e.2⟩
 refine⟨fun x y=>((x:Int),(y:Int))∈q.map dL,⟨fun {x y} hm=> ?_,fun {x y} hm=> ?_,fun {x y} hxy e he=> ?_,fun {x y} hxy e he=> ?_⟩,?_⟩
 ·obtain⟨k,hk,e1,e2⟩:=hat hm
  have:=h.bd _ (aR hk)
  omega
 ·obtain⟨k,hk,e1,e2⟩:=hat hm
  have:=(hd k hk).1
  rw[e1,e2,Int.toNat_natCast,Int.toNat_natCast] at this
  exact this
 ·obtain⟨k,hk,e1,e2⟩:=hat hxy
  have hb:=h.bd _ (aR hk)
  have ha:=(hd k hk).1
  rw[e1,e2,Int.toNat_natCast,Int.toNat_natCast] at ha
  obtain⟨e',he',rfl⟩:=List.mem_map.1 he
  have:=(pF hm ht (x:=x) (y:=y) O O ha he').1
  show e'.1.toNat<_
  rw[(ht.st y O).len];exact this
 ·obtain⟨k,hk,e1,e2⟩:=hat hxy
  have hb:=h.bd _ (aR hk)
  obtain⟨ha,hed⟩:=hd k hk
  rw[e1,e2,Int.toNat_natCast,Int.toNat_natCast] at ha
  rw[e1,e2,Int.toNat_natCast,Int.toNat_natCast] at hed
  obtain⟨e',he',rfl⟩:=List.mem_map.1 he
  have g1:=(pF hm ht (x:=x) (y:=y) O O ha he').2.1
  have g2:=hm.ed x O e' he'
  have g3:=hed e' he'
  refine⟨g1,?_⟩
  show(((e'.2.toNat:Nat):Int),_)∈_
  rw[show((e'.2.toNat:Nat):Int)=e'.2 by omega,show(((ix (nxt t y) e'.1.toNat).toNat:Nat):Int)=ix (nxt t y) e'.1.toNat by omega]
  exact g3
 ·have:=aR (l:=q) h.ne
  rw[h.hd] at this
  exact List.mem_map.2 ⟨_,this,rfl⟩
theorem UT {m:aA} {t:SS} {q:List Mt} (h:QJ m t q) {i:Nat} (hi:i<q.length) (hn:bQ m (ix q i).s.toNat∉acc t (ix q i).t.toNat):¬fX m t:=fun⟨R,hR,h0⟩=>hn (hR.acc (h.all R hR h0 _ (aR hi)))
structure VJ where
 holds:Bool
 pairs:List PP
 word:List Int
 state:Int
structure zD (m:aA) (t:SS) (v:VJ):Prop where
 yes:v.holds=true→fX m t∧v.word= []∧v.state=0∧∃q,QJ m t q∧(∀k,k<q.length→lL m t q k)∧v.pairs=cF (q.map dL)
 no:v.holds=false→¬fX m t∧v.pairs= []∧∃q i,QJ m t q∧i<q.length∧v.word=mQ q i∧v.state=(ix q i).s∧(∀k,k<i→lL m t q k)∧bQ m (ix q i).s.toNat∉acc t (ix q i).t.toNat
theorem LR {m:aA} {t:SS} {v:VJ} (h:zD m t v):v.holds=true↔fX m t:=by
 constructor
 ·exact fun e=>(h.yes e).1
 ·intro hs
  cases e:v.holds with
  |true=>rfl
  |false=>exact absurd hs (h.no e).1
end JudgM
end
section
open ref01 ref03 ref04 ref06 prog prog2 prog3 prog6 prog13 prog15 starts search Part Rungs LeftM TrimM RoundM BisM BisM5 WalkM StepM WitM JudgM refw judg wit
def pG (d e:Int × Int):Int:=if d.1=e.1 then d.2- e.2 else d.1- e.1
theorem Sg {d e:Int × Int} (h:¬0≤pG d e):d.1<e.1∨(d.1=e.1∧d.2<e.2):=by
 unfold pG at h
 split at h<;>omega
theorem Si {d e:Int × Int} (h:0≤pG d e):¬(d.1<e.1∨(d.1=e.1∧d.2<e.2)):=by
 unfold pG at h
 split at h<;>omega
def iK (A N:Nat) (e:Int × Int):Bool:=decide (0≤e.1)&&decide (e.1<(A:Int))&&decide (0≤e.2)&&decide (e.2<(N:Int))
theorem dZ {A N:Nat} {e:Int × Int}:iK A N e=true↔0≤e.1∧e.1<(A:Int)∧0≤e.2∧e.2<(N:Int):=by
 unfold iK;simp[and_assoc]
def ltP (d e:Int × Int):Bool:=decide (d.1<e.1)||(decide (d.1=e.1)&&decide (d.2<e.2))
theorem pH {d e:Int × Int}:ltP d e=true↔d.1<e.1∨(d.1=e.1∧d.2<e.2):=by unfold ltP;simp
def dS (A N:Nat) (l:List (Int × Int)):Bool:=l.all (iK A N)&&(List.range (l.length- 1)).all fun i=>ltP (ix l i) (ix l (i+1))
def bX (l:List (List (Int × Int))):Nat:=(l.map List.length).sum
theorem mR (l:List (List (Int × Int))) (x:List (Int × Int)):bX (l++ [x])=bX l+x.length:=by simp[bX]
theorem zT (l:List (List (Int × Int))) (k:Nat):bX (l.take k)≤bX l:=by
 conv=>rhs;rw[←List.take_append_drop k l]
 unfold bX
 rw[List.map_append,List.sum_append];omega
theorem LU {l:List (List (Int × Int))} {k:Nat} (h:k<l.length):(ix l k).length≤bX l:=by
 have:=zT l (k+1)
 rw[bJ h,mR] at this
 omega
def bI (m:aA):Bool:=bW m.aC&&decide (1≤m.sT.length)&&decide (m.sT.length≤5000)&&m.sT.all (dS m.aC.length m.sT.length)&&decide (bX m.sT≤400000)
theorem fR {m:aA} (h:bI m=true):aY m:=by
 unfold bI at h
 simp only [Bool.and_eq_true,decide_eq_true_eq] at h
 obtain⟨⟨⟨⟨h1,h2⟩,h3⟩,h4⟩,h5⟩:=h
 refine⟨h1,gU h1,h2,O,fun x hx e he=> ?_,fun x hx=> ?_⟩
 ·have g:=uT h4 hx
  unfold dS at g
  rw[Bool.and_eq_true] at g
  exact dZ.1 (List.all_eq_true.1 g.1 e he)
 ·exact Nat.le_trans (LU hx) h5
theorem sQ {A N:Nat} {l:List (Int × Int)} (h1:∀j,j<l.length→iK A N (ix l j)=true) (h2:∀j,j+1<l.length→ltP (ix l j) (ix l (j+1))=true):dS A N l=true:=by
 unfold dS
 rw[Bool.and_eq_true]
 refine⟨List.all_eq_true.2 (fun e he=> ?_),List.all_eq_true.2 (fun j hj=>h2 j (by have:=List.mem_range.1 hj;omega))⟩
 obtain⟨j,hj,rfl⟩:=List.getElem_of_mem he
 rw[←aH hj];exact h1 j hj
theorem DD {A N:Nat} {l:List (Int × Int)} {j:Nat} (hj:j<l.length) (h:iK A N (ix l j)=false):dS A N l=false:=by
 cases g:dS A N l with
 |false=>rfl
 |true=>
  unfold dS at g
  rw[Bool.and_eq_true] at g
  rw[uT g.1 hj] at h;cases h
theorem DF {A N:Nat} {l:List (Int × Int)} {j:Nat} (hj:j<l.length) (h0:0<j) (h:ltP (ix l (j- 1)) (ix l j)=false):dS A N l=false:=by
 cases g:dS A N l with
 |false=>rfl
 |true=>
  unfold dS at g
  rw[Bool.and_eq_true] at g
  have:=List.all_eq_true.1 g.2 (j- 1) (List.mem_range.2 O)
  rw[show j- 1+1=j by omega,h] at this;cases this
theorem cG {m:aA} (h:Inh (sys m)):m.aC.length≤140737488355328∧m.sT.length≤140737488355328∧∀k,k<m.sT.length→(ix m.sT k).length≤140737488355328:=
 ⟨(h.agg 0 rfl).len,(h.agg 1 rfl).len,fun _ hk=>((h.agg 1 rfl).el (gK hk) 0 rfl).len⟩
namespace T
theorem cR:fC Tryz.prog 94 0 0:=eK kR
theorem cS:fC Tryz.prog 94 1 1:=eK kR
theorem cC:IsSlice Tryz.prog 87 94 2:=iG kR
theorem bY:jF Tryz.prog 94 2:=jT kR
theorem z94:eY Tryz.prog 94 [.int .i64 0,.int .i64 0]:=cX kR
theorem bN:fC Tryz.prog 25 1 1:=eK kR
theorem cH:eE Tryz.prog 23:=gC kR
theorem eB:IsSlice Tryz.prog 23 87 1:=iG kR
theorem gS:fC Tryz.prog 25 0 0:=eK kR
theorem fB:eE Tryz.prog 87:=gC kR
theorem UU:Ent Tryz.prog 114:=aO kR
end T
namespace sysw
theorem OA (d e:Int × Int) (hd:bdP d) (he:bdP e):
 Fn0 Tryz.prog 114 [agg [int d.1,int d.2],agg [int e.1,int e.2]] (int (pG d e)):=by
 refine fnI Tryz.func114 rfl rfl (fun w0 F0=> ?_)
 unfold bdP at hd he
 refine sq (rg (bx (key:=2) (cs:= [int d.1,int d.2]) J fun b2=>(bx (key:=3) (cs:= [int e.1,int e.2]) J fun b3=>(ag (nl (th (sq (sq (rg (fP J T.cR (lP J J J T.aD (fP J T.cR (lP J J J T.aD (bi J J gG (nl (th ?_))))))))))))))))
 refine cd J (fun hc0=> ?_) (fun hc0=> ?_)
 ·try simp at hc0
  refine sq (rg (fP J T.cR (lP J J J T.aD (fP J T.cR (lP J J J T.aD (bi J J (kI i6) (ag (nl (th (rt (rt_ ?_)))))))))))
  have hr0:((d.1- e.1):Int)=(pG d e):=by
   unfold pG;rw[if_neg hc0]
  exact rE () [.tmp 4] J [int (d.1- e.1)] ⟨.tmp J,tV⟩ (cA1 (fun x0=>rV [int x0]) hr0) trivial eX
 ·try simp at hc0
  refine sk (th (sq (rg (fP J T.cS (lP J J J T.aD (fP J T.cS (lP J J J T.aD (bi J J (kI i6) (ag (nl (th (rt ?_))))))))))))
  have hr0:((d.2- e.2):Int)=(pG d e):=by
   unfold pG;rw[if_pos hc0]
  exact rE () [.tmp 4] J [int (d.2- e.2)] ⟨.tmp J,tV⟩ (cA1 (fun x0=>rV [int x0]) hr0) trivial eX
theorem xS (l:List (Int × Int)) (hl:∀e∈l,0≤e.1∧e.1<8):
 Fn0 Tryz.prog 98 [sl 2 pE l] (int (dR l)):=by
 refine fnI Tryz.func98 rfl rfl (fun w0 F0=> ?_)
 refine fcC (aW 0 J) (fun hm0=> ?_)
 refine sq (rg (ag (nl (th (sq (rg (ag (nl (th (sq (sq (rg (mv (lnF J T.cC (mv (nl (th (bk ?_))))))))))))))))))
 have hI0_0:0≤l.length:=by
  first|omega|simp
 have hI0_1:(0:Int)=dR (l.take 0)∧0≤(0:Int)∧(0:Int)<256:=by
  exact⟨rfl,O,O⟩
 refine lp (κ:=Nat × Int) (fun p=> [(2,int 0),(3,int p.2),(6,sl 2 pE l),(7,int (l.length:Int)),(8,int (p.1:Int))]) (fun p=> []) (fun p=>(p.1≤l.length)∧(p.2=dR (l.take p.1)∧0≤p.2∧p.2<256)) (fun p=>l.length- p.1) ⟨0,(0:Int)⟩ ⟨hI0_0,hI0_1⟩ ⟨id,id,id,id,id,tV⟩ trivial ?_
 intro⟨k,u⟩ hG0
 obtain⟨hk0,⟨hu,hu0,hu1⟩⟩:(k≤l.length)∧(u=dR (l.take k)∧0≤u∧u<256):=hG0
 show Ct _ _ _ _ [(2,int 0),(3,int u),(6,sl 2 pE l),(7,int (l.length:Int)),(8,int (k:Int))] [] _
 refine sq (rg (bi J J aN (nl (th (sq ?_)))))
 refine cd J (fun hc0=> ?_) (fun hc0=> ?_)
 ·try simp at hc0
  have hek:=hl _ (aR hc0)
  have hp:2^ ((ix l k).1).toNat≤2^7:=Nat.pow_le_pow_right O O
  have hp0:0≤((2^ ((ix l k).1).toNat:Nat):Int):=Int.natCast_nonneg _
  refine sk (th (sq (bk (sq (rg (iF J J T.cC O gB (lFA J T.bY (Nat.le_of_ble_eq_true J) (al (key:=5) T.z94 (eC (eC eZ)) fun b5=>(sPA (cs':= [int ((ix l k).1),int ((ix l k).2)]) J J J T.bY J J (nl (th (rg (mv (fP J T.cR (lP J J J T.aD (bi J J (uP O O) (bi J J (yQ O O O O) (ag (nl (eb (th (rg (bi J J (aK i6) (mv (nl ?_)))))))))))))))))))))))))
  have hN0:(k+1)≤l.length:=by
   first|omega|simp_all
  have hN1:((u.toNat|||(2^ ((ix l k).1).toNat):Nat):Int)=dR (l.take (k+1))∧0≤((u.toNat|||(2^ ((ix l k).1).toNat):Nat):Int)∧((u.toNat|||(2^ ((ix l k).1).toNat):Nat):Int)<256:=by
   refine⟨?_,O,nG (b:=((2^ ((ix l k).1).toNat:Nat):Int)) hu1 O⟩
   rw[bJ hc0]
   unfold dR
   rw[List.map_append,List.map_cons,List.map_nil,jQ,hu];rfl
  exact ln (⟨k+1,((u.toNat|||(2^ ((ix l k).1).toNat):Nat):Int)⟩:Nat × Int) ⟨hN0,hN1⟩ dO ⟨id,id,id,id,id,tV⟩ trivial
 ·try simp at hc0
  refine ex (xt_ (xt_ (xb (th (sq (rg (mv (ag (nl (th (rt ?_)))))))))))
  have hr0:(u:Int)=(dR l):=by
   rw[hu,show k=l.length by omega,List.take_length]
  exact rE () [.tmp 2] J [int u] ⟨.tmp J,tV⟩ (cA1 (fun x0=>rV [int x0]) hr0) trivial eX
theorem jW (m:aA):
 Fn0 Tryz.prog 66 [sys m] (bl (bI m)):=by
 refine fnI Tryz.func66 rfl rfl (fun w0 F0=> ?_)
 refine fcC (cE 0 J) (fun hS0=> ?_)
 obtain⟨hma0,hms0,hme0⟩:=cG hS0
 refine sq (rg (bx (key:=1) (cs:= [sl 1 rE_ m.aC,sl 1 gE m.sT]) J fun b1=>(ag (nl (th (sq (rg (fP J T.bN (lP J J J T.cH (fc (aW 10 J) fun hm10=>(lnF J T.eB (ag (nl (th (sq (sq (rg (fP J T.gS (lP J J J T.dE (bE (φs:= [sl 1 rE_ m.aC]) (φ:=bl (bW m.aC)) ⟨J,tV⟩ (prog.Dr _) T.KX (no J (mv ?_))))))))))))))))))))))
 apply gOr (t:=16) (pd:=19) rfl
 rotate_left
 ·intro hg0 fin
  have hg0':=hg0
  try simp at hg0'
  exact gy J J J hg0 (mv (gy J J J hg0 (bi J J aN (pkF J hg0 J (drp (X:= [(18,_),(17,_)]) ⟨J,J,tV⟩ fin)))))
 ·intro hg0 fin
  exact gn J J J hg0 J J (gn J J J hg0 J J (pkT J hg0 J (drp (X:= [(18,_),(17,_)]) ⟨J,J,tV⟩ fin)))
 refine mv ?_
 apply gOr (t:=20) (pd:=23) rfl
 rotate_left
 ·intro hg1 fin
  have hg1':=hg1
  try simp at hg1'
  exact gy J J J hg1 (mv (gy J J J hg1 (bi J J gF (pkF J hg1 J (drp (X:= [(22,_),(21,_)]) ⟨J,J,tV⟩ fin)))))
 ·intro hg1 fin
  exact gn J J J hg1 J J (gn J J J hg1 J J (pkT J hg1 J (drp (X:= [(22,_),(21,_)]) ⟨J,J,tV⟩ fin)))
 refine nl (th ?_)
 refine cd J (fun hc0=> ?_) (fun hc0=> ?_)
 ·try simp at hc0
  refine sq (rg (ag (nl (th (rt (rt_ ?_))))))
  have hr0:false=(bI m):=by
   unfold bI
   by_cases h:bW m.aC=true
   ·simp[h] at hc0 ⊢
    omega
   ·simp[h]
  exact rE () [.tmp 2] J [bl false] ⟨.tmp J,tV⟩ (cA1 (fun x0=>rV [bl x0]) hr0) trivial eX
 ·try simp at hc0
  have hact:=gU (l:=m.aC) (by simp_all)
  refine sk (th (sq (rg (ag (nl (th (sq (sq (rg (fP J T.bN (lP J J J T.cH (lnF J T.eB (mv (nl (th (bk ?_))))))))))))))))
  have hI0_0:0≤m.sT.length:=by
   first|omega|simp
  have hI0_1:(0:Int)=(bX (m.sT.take 0):Int)∧(m.sT.take 0).all (dS m.aC.length m.sT.length)=true∧(0:Int)≤400000:=by
   exact⟨rfl,by simp,O⟩
  refine lp (κ:=Nat × Int) (fun p=> [(1,ptr 1 b1 0),(3,int (m.sT.length:Int)),(4,int p.2),(25,sl 1 gE m.sT),(26,int (m.sT.length:Int)),(27,int (p.1:Int))]) (fun p=> [(1,cell b1 [sl 1 rE_ m.aC,sl 1 gE m.sT])]) (fun p=>(p.1≤m.sT.length)∧(p.2=(bX (m.sT.take p.1):Int)∧(m.sT.take p.1).all (dS m.aC.length m.sT.length)=true∧p.2≤400000)) (fun p=>m.sT.length- p.1) ⟨0,(0:Int)⟩ ⟨hI0_0,hI0_1⟩ ⟨id,id,id,id,id,id,tV⟩ ⟨rI,tV⟩ ?_
  intro⟨k,n⟩ hG0
  obtain⟨hk0,⟨hn,hal,hn4⟩⟩:(k≤m.sT.length)∧(n=(bX (m.sT.take k):Int)∧(m.sT.take k).all (dS m.aC.length m.sT.length)=true∧n≤400000):=hG0
  show Ct _ _ _ _ [(1,ptr 1 b1 0),(3,int (m.sT.length:Int)),(4,int n),(25,sl 1 gE m.sT),(26,int (m.sT.length:Int)),(27,int (k:Int))] [(1,cell b1 [sl 1 rE_ m.aC,sl 1 gE m.sT])] _
  have hmk:=hme0 k
  refine sq (rg (bi J J aN (nl (th (sq ?_)))))
  refine cd J (fun hc1=> ?_) (fun hc1=> ?_)
  ·try simp at hc1
   refine sk (th (sq (bk (sq (rg (iF J J T.eB O gB (lF J J T.fB (ag (nl (th (sq (rg (mv (mv (fc (aW 32 J) fun hm32=>(lnF J T.cC (bi J J (aK i6) (ag (nl (th (sq (sq (rg (mv (bi J J gF (nl (th ?_)))))))))))))))))))))))))))
   refine cd J (fun hc2=> ?_) (fun hc2=> ?_)
   ·try simp at hc2
    refine sq (rg (ag (nl (th (rt (rt_ (rb (rt_ (rt_ (rb (rt_ ?_)))))))))))
    have hr0:false=(bI m):=by
     unfold bI
     rw[decide_eq_false (p:=bX m.sT≤400000) (by have:=zT m.sT (k+1);rw[bJ O,mR] at this;omega)]
     simp
    exact rE () [.tmp 2] J [bl false] ⟨.tmp J,tV⟩ (cA1 (fun x0=>rV [bl x0]) hr0) trivial eX
   ·try simp at hc2
    refine sk (th (sq (rg (mv (lnF J T.cC (mv (nl (th (bk ?_)))))))))
    have hI1_0:0≤(ix m.sT k).length:=by
     first|omega|simp
    have hI1_1:(∀j,j<0→iK m.aC.length m.sT.length (ix (ix m.sT k) j)=true)∧∀j,j+1<0→ltP (ix (ix m.sT k) j) (ix (ix m.sT k) (j+1))=true:=by
     exact⟨fun j hj=>by omega,fun j hj=>by omega⟩
    refine lp (κ:=Nat) (fun p=> [(1,ptr 1 b1 0),(3,int (m.sT.length:Int)),(4,int (n+((ix m.sT k).length:Int))),(6,sl 2 pE (ix m.sT k)),(25,sl 1 gE m.sT),(26,int (m.sT.length:Int)),(27,int (k:Int)),(37,sl 2 pE (ix m.sT k)),(38,int ((ix m.sT k).length:Int)),(39,int (p:Int))]) (fun p=> [(1,cell b1 [sl 1 rE_ m.aC,sl 1 gE m.sT])]) (fun p=>(p≤(ix m.sT k).length)∧((∀j,j<p→iK m.aC.length m.sT.length (ix (ix m.sT k) j)=true)∧∀j,j+1<p→ltP (ix (ix m.sT k) j) (ix (ix m.sT k) (j+1))=true)) (fun p=>(ix m.sT k).length- p) 0 ⟨hI1_0,hI1_1⟩ ⟨id,id,id,id,id,id,id,id,id,id,tV⟩ ⟨rI,tV⟩ ?_
    intro k1 hG1
    obtain⟨hk1,hI1⟩:(k1≤(ix m.sT k).length)∧((∀j,j<k1→iK m.aC.length m.sT.length (ix (ix m.sT k) j)=true)∧∀j,j+1<k1→ltP (ix (ix m.sT k) j) (ix (ix m.sT k) (j+1))=true):=hG1
    refine sq (rg (bi J J aN (nl (th (sq ?_)))))
    refine cd J (fun hc3=> ?_) (fun hc3=> ?_)
    ·try simp at hc3
     refine sk (th (sq (bk (sq (rg (mv (iF J J T.cC O gB (lFA J T.bY (Nat.le_of_ble_eq_true J) (al (key:=8) T.z94 (eC (eC eZ)) fun b8=>(ag (sPA (cs':= [int ((ix (ix m.sT k) k1).1),int ((ix (ix m.sT k) k1).2)]) J J J T.bY J J (nl (th (sq (dr (nh:=36) [0,1,3,7,15,31,15,79,207,511,1023,2047,4095,8191,16383,32767,65535,131071,262143,131071,1048575,2097151,4194303,8388607,16777215,33554431,67108863,67108863,201326591,536870911,1073741823,67108863,4294967295,8589934591,17179869183,34359738367] T.mixed kR ?_)))))))))))))))
     refine st_ J (fun _ _ _ gq kq=>fP (gq.1.trans J) T.cR kq) ?_
     refine st_ J (fun _ _ _ gq kq=>lP (gq.1.trans J) J J T.aD kq) ?_
     refine st_ J (fun _ _ _ gq kq=>bi (gq.1.trans J) J aN kq) ?_
     refine st_ J (fun _ _ _ gq kq=>mv' (gq.1.trans J) kq) ?_
     refine sg_ (φ:=ptr 8 b8 0) J J J J (List.mem_of_elem_eq_true J) (fun hgd=> ?_) ?_
     ·have hgd':=hgd
      try simp at hgd'
      exact fun _ _ _ gq kq=>fP (gq.1.trans J) T.cR kq
     refine sg_ (φ:=int ((ix (ix m.sT k) k1).1)) J J J J (List.mem_of_elem_eq_true J) (fun hgd=> ?_) ?_
     ·have hgd':=hgd
      try simp at hgd'
      exact fun _ _ _ gq kq=>lP (gq.1.trans (bR hgd)) J J T.aD kq
     refine sg_ (φ:=ptr 1 b1 0) J J J J (List.mem_of_elem_eq_true J) (fun hgd=> ?_) ?_
     ·have hgd':=hgd
      try simp at hgd'
      exact fun _ _ _ gq kq=>fP (gq.1.trans J) T.gS kq
     refine sg_ (φ:=sl 1 rE_ m.aC) J J J J (List.mem_of_elem_eq_true J) (fun hgd=> ?_) ?_
     ·have hgd':=hgd
      try simp at hgd'
      exact fun _ _ _ gq kq=>lP (gq.1.trans (bR hgd)) J J T.dE kq
     refine sg_ (φ:=int (m.aC.length:Int)) J J J J (List.mem_of_elem_eq_true J) (fun hgd=> ?_) ?_
     ·have hgd':=hgd
      try simp at hgd'
      exact fun _ _ _ gq kq=>lnF (gq.1.trans (bR hgd)) T.eS kq
     refine sg_ (φ:=bl (decide ((m.aC.length:Int)≤((ix (ix m.sT k) k1).1)))) J J J J (List.mem_of_elem_eq_true J) (fun hgd=> ?_) ?_
     ·have hgd':=hgd
      try simp at hgd'
      exact fun _ _ _ gq kq=>bi (gq.1.trans (bR hgd)) (gq.2.1.trans (bR hgd)) gW kq
     refine st_ J (fun _ _ _ gq kq=>pk (gq.1.trans J) (pS (x:= .tmp 47) (gq.1.trans J) (gq.2.1.trans J) J) kq) ?_
     refine st_ J (fun _ _ _ gq kq=>mv' (gq.1.trans J) kq) ?_
     refine sg_ (φ:=ptr 8 b8 1) J J J J (List.mem_of_elem_eq_true J) (fun hgd=> ?_) ?_
     ·have hgd':=hgd
      try simp at hgd'
      exact fun _ _ _ gq kq=>fP (gq.1.trans J) T.cS kq
     refine sg_ (φ:=int ((ix (ix m.sT k) k1).2)) J J J J (List.mem_of_elem_eq_true J) (fun hgd=> ?_) ?_
     ·have hgd':=hgd
      try simp at hgd'
      exact fun _ _ _ gq kq=>lP (gq.1.trans (bR hgd)) J J T.aD kq
     refine sg_ (φ:=bl (decide (((ix (ix m.sT k) k1).2)<0))) J J J J (List.mem_of_elem_eq_true J) (fun hgd=> ?_) ?_
     ·have hgd':=hgd
      try simp at hgd'
      exact fun _ _ _ gq kq=>bi (gq.1.trans (bR hgd)) J aN kq
     refine st_ J (fun _ _ _ gq kq=>pk (gq.1.trans J) (pS (x:= .tmp 55) (gq.1.trans J) (gq.2.1.trans J) J) kq) ?_
     refine st_ J (fun _ _ _ gq kq=>mv' (gq.1.trans J) kq) ?_
     refine sg_ (φ:=ptr 8 b8 1) J J J J (List.mem_of_elem_eq_true J) (fun hgd=> ?_) ?_
     ·have hgd':=hgd
      try simp at hgd'
      exact fun _ _ _ gq kq=>fP (gq.1.trans J) T.cS kq
     refine sg_ (φ:=int ((ix (ix m.sT k) k1).2)) J J J J (List.mem_of_elem_eq_true J) (fun hgd=> ?_) ?_
     ·have hgd':=hgd
      try simp at hgd'
      exact fun _ _ _ gq kq=>lP (gq.1.trans (bR hgd)) J J T.aD kq
     refine sg_ (φ:=int (m.sT.length:Int)) J J J J (List.mem_of_elem_eq_true J) (fun hgd=> ?_) ?_
     ·have hgd':=hgd
      try simp at hgd'
      exact fun _ _ _ gq kq=>mv' (gq.1.trans J) kq
     refine sg_ (φ:=bl (decide ((m.sT.length:Int)≤((ix (ix m.sT k) k1).2)))) J J J J (List.mem_of_elem_eq_true J) (fun hgd=> ?_) ?_
     ·have hgd':=hgd
      try simp at hgd'
      exact fun _ _ _ gq kq=>bi (gq.1.trans (bR hgd)) (gq.2.1.trans (bR hgd)) gW kq
     refine st_ J (fun _ _ _ gq kq=>pk (gq.1.trans J) (pS (x:= .tmp 60) (gq.1.trans J) (gq.2.1.trans J) J) kq) ?_
     refine st_ J (fun _ _ _ gq kq=>mv' (gq.1.trans J) kq) ?_
     refine sg_ (φ:=int (k1:Int)) J J J J (List.mem_of_elem_eq_true J) (fun hgd=> ?_) ?_
     ·have hgd':=hgd
      try simp at hgd'
      exact fun _ _ _ gq kq=>mv' (gq.1.trans J) kq
     refine sg_ (φ:=bl (decide (0<(k1:Int)))) J J J J (List.mem_of_elem_eq_true J) (fun hgd=> ?_) ?_
     ·have hgd':=hgd
      try simp at hgd'
      exact fun _ _ _ gq kq=>bi (gq.1.trans (bR hgd)) J gF kq
     refine sg_ (φ:=bl (decide (0<(k1:Int)))) J J J J (List.mem_of_elem_eq_true J) (fun hgd=> ?_) ?_
     ·have hgd':=hgd
      try simp at hgd'
      exact fun _ _ _ gq kq=>mv' (gq.1.trans (bR hgd)) kq
     refine jJ (φ:=sl 2 pE (ix m.sT k)) rfl rfl rfl rfl (List.mem_of_elem_eq_true rfl) (fun hgd hgd2=> ?_) ?_
     ·have hgd':=hgd
      try simp at hgd'
      have hgd2':=hgd2
      try simp at hgd2'
      exact fun _ _ _ gq kq=>mv' (gq.1.trans J) kq
     refine jJ (φ:=int (k1:Int)) rfl rfl rfl rfl (List.mem_of_elem_eq_true rfl) (fun hgd hgd2=> ?_) ?_
     ·have hgd':=hgd
      try simp at hgd'
      have hgd2':=hgd2
      try simp at hgd2'
      exact fun _ _ _ gq kq=>mv' (gq.1.trans J) kq
     refine jJ (φ:=int ((k1:Int)- 1)) rfl rfl rfl rfl (List.mem_of_elem_eq_true rfl) (fun hgd hgd2=> ?_) ?_
     ·have hgd':=hgd
      try simp at hgd'
      have hgd2':=hgd2
      try simp at hgd2'
      exact fun _ _ _ gq kq=>bi (gq.1.trans (fE hgd hgd2)) J (kI i6) kq
     refine jJ (φ:=fp [int ((ix (ix m.sT k) ((k1:Int)- 1).toNat).1),int ((ix (ix m.sT k) ((k1:Int)- 1).toNat).2)]) rfl rfl rfl rfl (List.mem_of_elem_eq_true rfl) (fun hgd hgd2=> ?_) ?_
     ·have hgd':=hgd
      try simp at hgd'
      have hgd2':=hgd2
      try simp at hgd2'
      exact fun _ _ _ gq kq=>iF (gq.1.trans (fE hgd hgd2)) (gq.2.1.trans (fE hgd hgd2)) T.cC O gB kq
     refine jJ (φ:=agg [int ((ix (ix m.sT k) ((k1:Int)- 1).toNat).1),int ((ix (ix m.sT k) ((k1:Int)- 1).toNat).2)]) rfl rfl rfl rfl (List.mem_of_elem_eq_true rfl) (fun hgd hgd2=> ?_) ?_
     ·have hgd':=hgd
      try simp at hgd'
      have hgd2':=hgd2
      try simp at hgd2'
      exact fun _ _ _ gq kq=>lFA (gq.1.trans (fE hgd hgd2)) T.bY (Nat.le_of_ble_eq_true J) kq
     refine jJ (φ:=agg [int ((ix (ix m.sT k) k1).1),int ((ix (ix m.sT k) k1).2)]) rfl rfl rfl rfl (List.mem_of_elem_eq_true rfl) (fun hgd hgd2=> ?_) ?_
     ·have hgd':=hgd
      try simp at hgd'
      have hgd2':=hgd2
      try simp at hgd2'
      exact fun _ _ _ gq kq=>lPA (gq.1.trans J) J T.bY J kq
     refine jJ (φ:=int (pG ((ix (ix m.sT k) ((k1:Int)- 1).toNat).1,(ix (ix m.sT k) ((k1:Int)- 1).toNat).2) ((ix (ix m.sT k) k1).1,(ix (ix m.sT k) k1).2))) rfl rfl rfl rfl (List.mem_of_elem_eq_true rfl) (fun hgd hgd2=> ?_) ?_
     ·have hgd':=hgd
      try simp at hgd'
      have hgd2':=hgd2
      try simp at hgd2'
      have hp1:=dZ.1 (hI1.1 ((k1:Int)- 1).toNat O)
      have hb1:bdP ((ix (ix m.sT k) ((k1:Int)- 1).toNat).1,(ix (ix m.sT k) ((k1:Int)- 1).toNat).2):=by unfold bdP;dsimp only;omega
      have hb2:bdP ((ix (ix m.sT k) k1).1,(ix (ix m.sT k) k1).2):=by unfold bdP;dsimp only;omega
      exact fun _ _ _ gq kq=>bE (φs:= [agg [int ((ix (ix m.sT k) ((k1:Int)- 1).toNat).1),int ((ix (ix m.sT k) ((k1:Int)- 1).toNat).2)],agg [int ((ix (ix m.sT k) k1).1),int ((ix (ix m.sT k) k1).2)]]) (φ:=int (pG ((ix (ix m.sT k) ((k1:Int)- 1).toNat).1,(ix (ix m.sT k) ((k1:Int)- 1).toNat).2) ((ix (ix m.sT k) k1).1,(ix (ix m.sT k) k1).2))) ⟨(gq.1.trans (fE hgd hgd2)),(gq.2.1.trans (fE hgd hgd2)),tV⟩ (sysw.OA ((ix (ix m.sT k) ((k1:Int)- 1).toNat).1,(ix (ix m.sT k) ((k1:Int)- 1).toNat).2) ((ix (ix m.sT k) k1).1,(ix (ix m.sT k) k1).2) aS aS) T.UU kq
     refine jJ (φ:=bl (decide (0≤(pG ((ix (ix m.sT k) ((k1:Int)- 1).toNat).1,(ix (ix m.sT k) ((k1:Int)- 1).toNat).2) ((ix (ix m.sT k) k1).1,(ix (ix m.sT k) k1).2))))) rfl rfl rfl rfl (List.mem_of_elem_eq_true rfl) (fun hgd hgd2=> ?_) ?_
     ·have hgd':=hgd
      try simp at hgd'
      have hgd2':=hgd2
      try simp at hgd2'
      exact fun _ _ _ gq kq=>bi (gq.1.trans (fE hgd hgd2)) J gW kq
     refine sg_ (φ:=bl ((decide (0<(k1:Int)))&&(decide (0≤(pG ((ix (ix m.sT k) ((k1:Int)- 1).toNat).1,(ix (ix m.sT k) ((k1:Int)- 1).toNat).2) ((ix (ix m.sT k) k1).1,(ix (ix m.sT k) k1).2)))))) J J J J (List.mem_of_elem_eq_true J) (fun hgd=> ?_) ?_
     ·have hgd':=hgd
      try simp at hgd'
      exact fun _ _ _ gq kq=>pk (gq.1.trans (bR hgd)) (pZ (x:= .tmp 69) (gq.1.trans (bR hgd)) (gq.2.1.trans (Cs hgd)) J) kq
     refine st_ J (fun _ _ _ gq kq=>pk (gq.1.trans J) (pS (x:= .tmp 66) (gq.1.trans J) (gq.2.1.trans J) J) kq) ?_
     refine pn (nl (th ?_))
     refine cd J (fun hc4=> ?_) (fun hc4=> ?_)
     ·skip
      simp only [Bool.or_eq_true,Bool.and_eq_true,decide_eq_true_eq] at hc4
      refine sq (rg (ag (nl (th (rt (rb (rt_ (rt_ (rb (rb (rt_ (rt_ (rb (rt_ ?_))))))))))))))
      have hr0:false=(bI m):=by
       unfold bI
       rw[gJ (xs:=m.sT) (k:=k) O ?_];simp
       have hno:∀{p:Prop},(iK m.aC.length m.sT.length (ix (ix m.sT k) k1)=true→¬p)→p→dS m.aC.length m.sT.length (ix m.sT k)=false:=fun hh hp=>DD hc3 (by cases g:iK m.aC.length m.sT.length (ix (ix m.sT k) k1) with|false=>rfl|true=>exact absurd hp (hh g))
       rcases hc4 with(((h|h)|h)|h)|h
       ·exact hno (fun g=>by have:=dZ.1 g;omega) h
       ·exact hno (fun g=>by have:=dZ.1 g;omega) h
       ·exact hno (fun g=>by have:=dZ.1 g;omega) h
       ·exact hno (fun g=>by have:=dZ.1 g;omega) h
       ·have h5:=Si h.2
        rw[show((k1:Int)- 1).toNat=k1- 1 by omega] at h5
        refine DF hc3 O ?_
        cases g:ltP (ix (ix m.sT k) (k1- 1)) (ix (ix m.sT k) k1) with
        |false=>rfl
        |true=>exact absurd (pH.1 g) h5
      exact rE () [.tmp 2] J [bl false] ⟨.tmp J,tV⟩ (cA1 (fun x0=>rV [bl x0]) hr0) trivial eX
     ·skip
      simp only [Bool.or_eq_false_iff,Bool.and_eq_false_iff,decide_eq_false_iff_not] at hc4
      obtain⟨⟨⟨⟨h41,h42⟩,h43⟩,h44⟩,h45⟩:=hc4
      refine sk (eb (th (rg (bi J J (aK i6) (mv (nl ?_))))))
      have hN0:(k1+1)≤(ix m.sT k).length:=by
       first|omega|simp_all
      have hN1:(∀j,j<(k1+1)→iK m.aC.length m.sT.length (ix (ix m.sT k) j)=true)∧∀j,j+1<(k1+1)→ltP (ix (ix m.sT k) j) (ix (ix m.sT k) (j+1))=true:=by
       refine⟨fun j hj=> ?_,fun j hj=> ?_⟩
       ·by_cases e:j=k1
        ·subst e;exact dZ.2 ⟨O,O,O,O⟩
        ·exact hI1.1 j O
       ·by_cases e:j+1=k1
        ·subst e
         rcases h45 with h|h
         ·exact absurd O h
         ·rw[show(((j+1:Nat):Int)- 1).toNat=j by omega] at h
          exact pH.2 (Sg h)
        ·exact hI1.2 j O
      exact ln (k1+1) ⟨hN0,hN1⟩ dO ⟨id,id,id,id,id,id,id,id,id,id,tV⟩ ⟨rI,tV⟩
    ·try simp at hc3
     refine ex (xt_ (xt_ (xb (eb (th (rg (bi J J (aK i6) (mv (nl ?_)))))))))
     have hN0:(k+1)≤m.sT.length:=by
      first|omega|simp_all
     have hN1:(n+((ix m.sT k).length:Int))=(bX (m.sT.take (k+1)):Int)∧(m.sT.take (k+1)).all (dS m.aC.length m.sT.length)=true∧(n+((ix m.sT k).length:Int))≤400000:=by
      refine⟨?_,?_,O⟩
      ·rw[bJ O,mR];omega
      ·rw[eT O,hal,sQ (fun j hj=>hI1.1 j O) (fun j hj=>hI1.2 j O)];rfl
     exact ln (⟨k+1,n+((ix m.sT k).length:Int)⟩:Nat × Int) ⟨hN0,hN1⟩ dO ⟨id,id,id,id,id,id,tV⟩ ⟨rI,tV⟩
  ·try simp at hc1
   refine ex (xt_ (xt_ (xb (th (sq (rg (ag (nl (th (rt ?_))))))))))
   have hr0:true=(bI m):=by
    have hkk:k=m.sT.length:=by omega
    rw[hkk,List.take_length] at hal hn
    unfold bI
    rw[hal,hc0.1.1]
    simp;omega
   exact rE () [.tmp 2] J [bl true] ⟨.tmp J,tV⟩ (cA1 (fun x0=>rV [bl x0]) hr0) trivial eX
end sysw
end
section
open ref01 ref03 ref04 ref06 prog prog2 prog3 prog6 Part Rungs LeftM TrimM RoundM BisM BisM5
def qG (l:List ByteArray):SS:=⟨l,[⟨(List.range (2^l.length)).map fun(x:Nat)=>(x:Int),List.replicate l.length 0⟩]⟩
namespace divr
theorem rC (l:List Int) (x:Int):
 Fn0 Tryz.prog 128 [ints l,int x] (bl (decide (x∈l))):=by
 refine fnI Tryz.func128 rfl rfl (fun w0 F0=> ?_)
 refine fcC (aW 0 J) (fun hm0=> ?_)
 refine sq (rg (ag (nl (th (sq (sq (rg (mv (lnF J T.aU (mv (nl (th (bk ?_)))))))))))))
 have hI0_0:0≤l.length:=by
  first|omega|simp
 have hI0_1:∀j,j<0→x≠ix l j:=by
  intro j hj;omega
 refine lp (κ:=Nat) (fun p=> [(1,int x),(7,sl 1 nE l),(8,int (l.length:Int)),(9,int (p:Int))]) (fun p=> []) (fun p=>(p≤l.length)∧(∀j,j<p→x≠ix l j)) (fun p=>l.length- p) 0 ⟨hI0_0,hI0_1⟩ ⟨id,id,id,id,tV⟩ trivial ?_
 intro k hG0
 obtain⟨hk0,hI0⟩:(k≤l.length)∧(∀j,j<k→x≠ix l j):=hG0
 refine sq (rg (bi J J aN (nl (th (sq ?_)))))
 refine cd J (fun hc0=> ?_) (fun hc0=> ?_)
 ·try simp at hc0
  refine sk (th (sq (bk (sq (rg (iF J J T.aU O gB (lF J J T.aD (ag (nl (th (sq (rg (mv (mv (bi J J fJ (nl (th ?_)))))))))))))))))
  refine cd J (fun hc1=> ?_) (fun hc1=> ?_)
  ·try simp at hc1
   refine sq (rg (ag (nl (th (rt (rb (rt_ (rt_ (rb (rt_ ?_))))))))))
   have hr0:true=(decide (x∈l)):=by
    exact(decide_eq_true (by rw[hc1];exact iW O)).symm
   exact rE () [.tmp 4] J [bl true] ⟨.tmp J,tV⟩ (cA1 (fun x0=>rV [bl x0]) hr0) trivial eX
  ·try simp at hc1
   refine sk (eb (th (rg (bi J J (aK i6) (mv (nl ?_))))))
   have hN0:(k+1)≤l.length:=by
    first|omega|simp_all
   have hN1:∀j,j<(k+1)→x≠ix l j:=by
    intro j hj
    by_cases e:j=k
    ·subst e;exact hc1
    ·exact hI0 j O
   exact ln (k+1) ⟨hN0,hN1⟩ dO ⟨id,id,id,id,tV⟩ trivial
 ·try simp at hc0
  refine ex (xt_ (xt_ (xb (th (sq (rg (ag (nl (th (rt ?_))))))))))
  have hr0:false=(decide (x∈l)):=by
   refine(decide_eq_false (fun hx=> ?_)).symm
   obtain⟨j,hj,e⟩:=List.getElem_of_mem hx
   exact hI0 j O (by rw[aH hj];exact e.symm)
  exact rE () [.tmp 4] J [bl false] ⟨.tmp J,tV⟩ (cA1 (fun x0=>rV [bl x0]) hr0) trivial eX
end divr
end
section
open ref01 ref03 ref04 ref06 prog prog2 prog3 prog6 prog13 Part Rungs LeftM TrimM RoundM BisM BisM5 WalkM StepM WitM JudgM refw judg wit sysw divr
def cJ (u o:Int):Int:=((u.toNat&&&o.toNat:Nat):Int)
def WA (x y:SA) (u:Int):Bool:=y.aP.all fun o=>decide (cJ u o∈x.aP)
def vZ (m:aA):Bool:=decide (m.aC.length=0)&&decide (m.sT.length=0)
def xT (s:SS) (x u:Int):Bool:=decide (0≤x)&&decide (u∈acc s x.toNat)
namespace T
theorem UV:Ent Tryz.prog 128:=aO kR
theorem QL:Ent Tryz.prog 63:=aO kR
end T
namespace divs
theorem OB (m:aA):
 Fn0 Tryz.prog 26 [sys m] (bl (vZ m)):=by
 refine fnI Tryz.func26 rfl rfl (fun w0 F0=> ?_)
 refine fcC (cE 0 J) (fun hS0=> ?_)
 obtain⟨hma0,hms0,hme0⟩:=cG hS0
 refine sq (rg (bx (key:=1) (cs:= [sl 1 rE_ m.aC,sl 1 gE m.sT]) J fun b1=>(ag (nl (th (sq (rg (fP J T.gS (lP J J J T.dE (fc (aW 4 J) fun hm4=>(lnF J T.eS (bi J J fJ (mv ?_)))))))))))))
 apply dX (t:=7) (pd:=12) rfl
 rotate_left
 ·intro hg0 fin
  have hg0':=hg0
  try simp at hg0'
  exact gy J J J hg0 (fP J T.bN (gy J J J hg0 (lP J J J T.cH (gy J J J hg0 (fc (aW 9 J) fun hm9=>(lnF J T.eB (gy J J J hg0 (bi J J fJ (pkT J hg0 J (drp (X:= [(11,_),(10,_),(9,_),(8,_)]) ⟨J,J,J,J,tV⟩ fin))))))))))
 ·intro hg0 fin
  exact gn J J J hg0 J J (gn J J J hg0 J J (gn J J J hg0 J J (gn J J J hg0 J J (pkF J hg0 J (drp (X:= [(11,_),(10,_),(9,_),(8,_)]) ⟨J,J,J,J,tV⟩ fin)))))
 refine ag (nl (th (rt ?_)))
 have hr0:((decide ((m.aC.length:Int)=0))&&(decide ((m.sT.length:Int)=0)))=(vZ m):=by
  unfold vZ;simp
 exact rE () [.tmp 2] J [bl ((decide ((m.aC.length:Int)=0))&&(decide ((m.sT.length:Int)=0)))] ⟨.tmp J,tV⟩ (cA1 (fun x0=>rV [bl x0]) hr0) trivial eX
theorem rG (s:SS) (x u:Int) (hx:x<(s.sT.length:Int)):
 Fn0 Tryz.prog 88 [spec s,int x,int u] (bl (xT s x u)):=by
 refine fnI Tryz.func88 rfl rfl (fun w0 F0=> ?_)
 refine fcC (cE 0 J) (fun hS0=> ?_)
 obtain⟨hsa0,hss0,hse0⟩:=sLn hS0
 refine sq (rg (bx (key:=3) (cs:= [sl 1 rE_ s.aC,sl 2 sE s.sT]) J fun b3=>(ag (nl (th (sq (rg (mv (bi J J gW (mv ?_))))))))))
 apply dX (t:=9) (pd:=18) rfl
 rotate_left
 ·intro hg0 fin
  have hg0':=hg0
  try simp at hg0'
  exact gy J J J hg0 (fP J T.bP (gy J J J hg0 (lP J J J T.cO (gy J J J hg0 (mv (gy J J J hg0 (iF J J T.dI O gB (gy J J J hg0 (fF J T.dG (gy J J J hg0 (lF J J T.bG (gy J J J hg0 (mv (gy J J J hg0 (bE (φs:= [sl 1 nE (ix s.sT x.toNat).aP,int u]) (φ:=bl (decide (u∈(ix s.sT x.toNat).aP))) ⟨J,J,tV⟩ (divr.rC _ _) T.UV (pkT J hg0 J (drp (X:= [(17,_),(16,_),(15,_),(14,_),(13,_),(12,_),(11,_),(10,_)]) ⟨J,J,J,J,J,J,J,J,tV⟩ fin)))))))))))))))))
 ·intro hg0 fin
  exact gn J J J hg0 J J (gn J J J hg0 J J (gn J J J hg0 J J (gn J J J hg0 J J (gn J J J hg0 J J (gn J J J hg0 J J (gn J J J hg0 J J (gn J J J hg0 J J (pkF J hg0 J (drp (X:= [(17,_),(16,_),(15,_),(14,_),(13,_),(12,_),(11,_),(10,_)]) ⟨J,J,J,J,J,J,J,J,tV⟩ fin)))))))))
 refine ag (nl (th (rt ?_)))
 have hr0:((decide (0≤x))&&(decide (u∈(ix s.sT x.toNat).aP)))=(xT s x u):=by
  first|rfl|simp_all|omega
 exact rE () [.tmp 6] J [bl ((decide (0≤x))&&(decide (u∈(ix s.sT x.toNat).aP)))] ⟨.tmp J,tV⟩ (cA1 (fun x0=>rV [bl x0]) hr0) trivial eX
theorem DG (d e:Int × Int):
 Fn0 Tryz.prog 63 [agg [int d.1,int d.2],agg [int e.1,int e.2]] (bl (ltP d e)):=by
 refine fnI Tryz.func63 rfl rfl (fun w0 F0=> ?_)
 refine sq (rg (bx (key:=2) (cs:= [int d.1,int d.2]) J fun b2=>(bx (key:=3) (cs:= [int e.1,int e.2]) J fun b3=>(ag (nl (th (sq (rg (fP J T.cR (lP J J J T.aD (fP J T.cR (lP J J J T.aD (bi J J aN (mv ?_))))))))))))))
 apply gOr (t:=10) (pd:=23) rfl
 rotate_left
 ·intro hg0 fin
  have hg0':=hg0
  try simp at hg0'
  refine gy rfl rfl rfl hg0 (fP rfl T.cR (gy rfl rfl rfl hg0 (lP rfl rfl rfl T.aD (gy rfl rfl rfl hg0 (fP rfl T.cR (gy rfl rfl rfl hg0 (lP rfl rfl rfl T.aD (gy rfl rfl rfl hg0 (bi rfl rfl fJ (gy rfl rfl rfl hg0 (mv ?_)))))))))))
  apply dX (t:=16) (pd:=22) rfl
  rotate_left
  ·intro hg1 fin
   have hg1':=hg1
   try simp at hg1'
   exact gy J J J hg1 (fP J T.cS (gy J J J hg1 (lP J J J T.aD (gy J J J hg1 (fP J T.cS (gy J J J hg1 (lP J J J T.aD (gy J J J hg1 (bi J J aN (gy J J J hg0 (pkT J hg1 J (drp (X:= [(21,_),(20,_),(19,_),(18,_),(17,_)]) ⟨J,J,J,J,J,tV⟩ fin))))))))))))
  ·intro hg1 fin
   exact gn J J J hg1 J J (gn J J J hg1 J J (gn J J J hg1 J J (gn J J J hg1 J J (gn J J J hg1 J J (gy J J J hg0 (pkF J hg1 J (drp (X:= [(21,_),(20,_),(19,_),(18,_),(17,_)]) ⟨J,J,J,J,J,tV⟩ fin)))))))
  exact pkF rfl hg0 rfl (drp (X:= [(22,_),(16,_),(15,_),(14,_),(13,_),(12,_),(11,_)]) ⟨rfl,rfl,rfl,rfl,rfl,rfl,rfl,tV⟩ fin)
 ·intro hg0 fin
  exact gn J J J hg0 J J (gn J J J hg0 J J (gn J J J hg0 J J (gn J J J hg0 J J (gn J J J hg0 J J (gn J J J hg0 J J (gu J J J J J (gu J J J J J (gu J J J J J (gu J J J J J (gu J J J J J (gn J J J hg0 J J (pkT J hg0 J (drp (X:= [(22,_),(21,_),(20,_),(19,_),(18,_),(17,_),(16,_),(15,_),(14,_),(13,_),(12,_),(11,_)]) ⟨J,J,J,J,J,J,J,J,J,J,J,J,tV⟩ fin)))))))))))))
 refine ag (nl (th (rt ?_)))
 have hr0:((decide (d.1<e.1))||((decide (d.1=e.1))&&(decide (d.2<e.2))))=(ltP d e):=by
  first|rfl|simp_all|omega
 exact rE () [.tmp 4] J [bl ((decide (d.1<e.1))||((decide (d.1=e.1))&&(decide (d.2<e.2))))] ⟨.tmp J,tV⟩ (cA1 (fun x0=>rV [bl x0]) hr0) trivial eX
theorem OC (m:aA) (x:Int) (hm:∀e∈ix m.sT x.toNat,0≤e.1∧e.1<8) (h0:0≤x) (hx:x<(m.sT.length:Int)):
 Fn0 Tryz.prog 89 [sys m,int x] (int (bQ m x.toNat)):=by
 refine fnI Tryz.func89 rfl rfl (fun w0 F0=> ?_)
 refine fcC (cE 0 J) (fun hS0=> ?_)
 obtain⟨hma0,hms0,hme0⟩:=cG hS0
 refine sq (rg (bx (key:=2) (cs:= [sl 1 rE_ m.aC,sl 1 gE m.sT]) J fun b2=>(ag (nl (th (sq (rg (ag (nl (th (sq (sq (rg (fP J T.bN (lP J J J T.cH (mv (iF J J T.eB O gB (lF J J T.fB (fc (aW 12 J) fun hm12=>(lnF J T.cC (mv (nl (th (bk ?_))))))))))))))))))))))))
 have hI0_0:0≤(ix m.sT x.toNat).length:=by
  first|omega|simp
 have hI0_1:(0:Int)=dR ((ix m.sT x.toNat).take 0)∧0≤(0:Int)∧(0:Int)<256:=by
  exact⟨rfl,O,O⟩
 refine lp (κ:=Nat × Int) (fun p=> [(4,int 0),(5,int p.2),(12,sl 2 pE (ix m.sT x.toNat)),(13,int ((ix m.sT x.toNat).length:Int)),(14,int (p.1:Int))]) (fun p=> [(2,cell b2 [sl 1 rE_ m.aC,sl 1 gE m.sT])]) (fun p=>(p.1≤(ix m.sT x.toNat).length)∧(p.2=dR ((ix m.sT x.toNat).take p.1)∧0≤p.2∧p.2<256)) (fun p=>(ix m.sT x.toNat).length- p.1) ⟨0,(0:Int)⟩ ⟨hI0_0,hI0_1⟩ ⟨id,id,id,id,id,tV⟩ ⟨rI,tV⟩ ?_
 intro⟨k,u⟩ hG0
 obtain⟨hk0,⟨hu,hu0,hu1⟩⟩:(k≤(ix m.sT x.toNat).length)∧(u=dR ((ix m.sT x.toNat).take k)∧0≤u∧u<256):=hG0
 show Ct _ _ _ _ [(4,int 0),(5,int u),(12,sl 2 pE (ix m.sT x.toNat)),(13,int ((ix m.sT x.toNat).length:Int)),(14,int (k:Int))] [(2,cell b2 [sl 1 rE_ m.aC,sl 1 gE m.sT])] _
 refine sq (rg (bi J J aN (nl (th (sq ?_)))))
 refine cd J (fun hc0=> ?_) (fun hc0=> ?_)
 ·try simp at hc0
  have hek:=hm _ (aR hc0)
  have hp:2^ ((ix (ix m.sT x.toNat) k).1).toNat≤2^7:=Nat.pow_le_pow_right O O
  have hp0:0≤((2^ ((ix (ix m.sT x.toNat) k).1).toNat:Nat):Int):=Int.natCast_nonneg _
  refine sk (th (sq (bk (sq (rg (iF J J T.cC O gB (lFA J T.bY (Nat.le_of_ble_eq_true J) (al (key:=7) T.z94 (eC (eC eZ)) fun b7=>(sPA (cs':= [int ((ix (ix m.sT x.toNat) k).1),int ((ix (ix m.sT x.toNat) k).2)]) J J J T.bY J J (nl (th (rg (mv (fP J T.cR (lP J J J T.aD (bi J J (uP O O) (bi J J (yQ O O O O) (ag (nl (eb (th (rg (bi J J (aK i6) (mv (nl ?_)))))))))))))))))))))))))
  have hN0:(k+1)≤(ix m.sT x.toNat).length:=by
   first|omega|simp_all
  have hN1:((u.toNat|||(2^ ((ix (ix m.sT x.toNat) k).1).toNat):Nat):Int)=dR ((ix m.sT x.toNat).take (k+1))∧0≤((u.toNat|||(2^ ((ix (ix m.sT x.toNat) k).1).toNat):Nat):Int)∧((u.toNat|||(2^ ((ix (ix m.sT x.toNat) k).1).toNat):Nat):Int)<256:=by
   refine⟨?_,O,nG (b:=((2^ ((ix (ix m.sT x.toNat) k).1).toNat:Nat):Int)) hu1 O⟩
   rw[bJ hc0]
   unfold dR
   rw[List.map_append,List.map_cons,List.map_nil,jQ,hu];rfl
  exact ln (⟨k+1,((u.toNat|||(2^ ((ix (ix m.sT x.toNat) k).1).toNat):Nat):Int)⟩:Nat × Int) ⟨hN0,hN1⟩ dO ⟨id,id,id,id,id,tV⟩ ⟨rI,tV⟩
 ·try simp at hc0
  refine ex (xt_ (xt_ (xb (th (sq (rg (mv (ag (nl (th (rt ?_)))))))))))
  have hr0:(u:Int)=(bQ m x.toNat):=by
   rw[hu,show k=(ix m.sT x.toNat).length by omega,List.take_length]
  exact rE () [.tmp 4] J [int u] ⟨.tmp J,tV⟩ (cA1 (fun x0=>rV [int x0]) hr0) trivial eX
theorem yX (m:aA):
 Fn0 Tryz.prog 27 [sys m] (bl (bI m)):=by
 refine fnI Tryz.func27 rfl rfl (fun w0 F0=> ?_)
 refine fcC (cE 0 J) (fun hS0=> ?_)
 obtain⟨hma0,hms0,hme0⟩:=cG hS0
 refine sq (rg (bx (key:=1) (cs:= [sl 1 rE_ m.aC,sl 1 gE m.sT]) J fun b1=>(ag (nl (th (sq (sq (rg (fP J T.gS (lP J J J T.dE (bE (φs:= [sl 1 rE_ m.aC]) (φ:=bl (bW m.aC)) ⟨J,tV⟩ (ref01.yX _) T.QC (no J (mv ?_)))))))))))))
 apply gOr (t:=12) (pd:=17) rfl
 rotate_left
 ·intro hg0 fin
  have hg0':=hg0
  try simp at hg0'
  exact gy J J J hg0 (fP J T.bN (gy J J J hg0 (lP J J J T.cH (gy J J J hg0 (fc (aW 14 J) fun hm14=>(lnF J T.eB (gy J J J hg0 (bi J J aN (pkF J hg0 J (drp (X:= [(16,_),(15,_),(14,_),(13,_)]) ⟨J,J,J,J,tV⟩ fin))))))))))
 ·intro hg0 fin
  exact gn J J J hg0 J J (gn J J J hg0 J J (gn J J J hg0 J J (gn J J J hg0 J J (pkT J hg0 J (drp (X:= [(16,_),(15,_),(14,_),(13,_)]) ⟨J,J,J,J,tV⟩ fin)))))
 refine mv ?_
 apply gOr (t:=18) (pd:=23) rfl
 rotate_left
 ·intro hg1 fin
  have hg1':=hg1
  try simp at hg1'
  exact gy J J J hg1 (fP J T.bN (gy J J J hg1 (lP J J J T.cH (gy J J J hg1 (fc (aW 20 J) fun hm20=>(lnF J T.eB (gy J J J hg1 (bi J J gF (pkF J hg1 J (drp (X:= [(22,_),(21,_),(20,_),(19,_)]) ⟨J,J,J,J,tV⟩ fin))))))))))
 ·intro hg1 fin
  exact gn J J J hg1 J J (gn J J J hg1 J J (gn J J J hg1 J J (gn J J J hg1 J J (pkT J hg1 J (drp (X:= [(22,_),(21,_),(20,_),(19,_)]) ⟨J,J,J,J,tV⟩ fin)))))
 refine nl (th ?_)
 refine cd J (fun hc0=> ?_) (fun hc0=> ?_)
 ·try simp at hc0
  refine sq (rg (ag (nl (th (rt (rt_ ?_))))))
  have hr0:false=(bI m):=by
   unfold bI
   by_cases h:bW m.aC=true
   ·simp[h] at hc0 ⊢
    omega
   ·simp[h]
  exact rE () [.tmp 2] J [bl false] ⟨.tmp J,tV⟩ (cA1 (fun x0=>rV [bl x0]) hr0) trivial eX
 ·try simp at hc0
  have hact:=gU (l:=m.aC) (by simp_all)
  refine sk (th (sq (rg (ag (nl (th (sq (sq (rg (fP J T.bN (lP J J J T.cH (fc (aW 25 J) fun hm25=>(lnF J T.eB (mv (nl (th (bk ?_)))))))))))))))))
  have hI0_0:0≤m.sT.length:=by
   first|omega|simp
  have hI0_1:(0:Int)=(bX (m.sT.take 0):Int)∧(m.sT.take 0).all (dS m.aC.length m.sT.length)=true∧(0:Int)≤140737488355328*(0:Int):=by
   exact⟨rfl,by simp,O⟩
  refine lp (κ:=Nat × Int) (fun p=> [(1,ptr 1 b1 0),(3,int p.2),(25,sl 1 gE m.sT),(26,int (m.sT.length:Int)),(27,int (p.1:Int))]) (fun p=> [(1,cell b1 [sl 1 rE_ m.aC,sl 1 gE m.sT])]) (fun p=>(p.1≤m.sT.length)∧(p.2=(bX (m.sT.take p.1):Int)∧(m.sT.take p.1).all (dS m.aC.length m.sT.length)=true∧p.2≤140737488355328*(p.1:Int))) (fun p=>m.sT.length- p.1) ⟨0,(0:Int)⟩ ⟨hI0_0,hI0_1⟩ ⟨id,id,id,id,id,tV⟩ ⟨rI,tV⟩ ?_
  intro⟨k,n⟩ hG0
  obtain⟨hk0,⟨hn,hal,hn4⟩⟩:(k≤m.sT.length)∧(n=(bX (m.sT.take k):Int)∧(m.sT.take k).all (dS m.aC.length m.sT.length)=true∧n≤140737488355328*(k:Int)):=hG0
  show Ct _ _ _ _ [(1,ptr 1 b1 0),(3,int n),(25,sl 1 gE m.sT),(26,int (m.sT.length:Int)),(27,int (k:Int))] [(1,cell b1 [sl 1 rE_ m.aC,sl 1 gE m.sT])] _
  have hmk:=hme0 k
  refine sq (rg (bi J J aN (nl (th (sq ?_)))))
  refine cd J (fun hc1=> ?_) (fun hc1=> ?_)
  ·try simp at hc1
   refine sk (th (sq (bk (sq (rg (iF J J T.eB O gB (lF J J T.fB (ag (nl (th (sq (rg (mv (mv (fc (aW 32 J) fun hm32=>(lnF J T.cC (bi J J (aK i6) (ag (nl (th (sq (rg (mv (lnF J T.cC (mv (nl (th (bk ?_))))))))))))))))))))))))))))
   have hI1_0:0≤(ix m.sT k).length:=by
    first|omega|simp
   have hI1_1:(∀j,j<0→iK m.aC.length m.sT.length (ix (ix m.sT k) j)=true)∧∀j,j+1<0→ltP (ix (ix m.sT k) j) (ix (ix m.sT k) (j+1))=true:=by
    exact⟨fun j hj=>by omega,fun j hj=>by omega⟩
   refine lp (κ:=Nat) (fun p=> [(1,ptr 1 b1 0),(3,int (n+((ix m.sT k).length:Int))),(5,sl 2 pE (ix m.sT k)),(25,sl 1 gE m.sT),(26,int (m.sT.length:Int)),(27,int (k:Int)),(35,sl 2 pE (ix m.sT k)),(36,int ((ix m.sT k).length:Int)),(37,int (p:Int))]) (fun p=> [(1,cell b1 [sl 1 rE_ m.aC,sl 1 gE m.sT])]) (fun p=>(p≤(ix m.sT k).length)∧((∀j,j<p→iK m.aC.length m.sT.length (ix (ix m.sT k) j)=true)∧∀j,j+1<p→ltP (ix (ix m.sT k) j) (ix (ix m.sT k) (j+1))=true)) (fun p=>(ix m.sT k).length- p) 0 ⟨hI1_0,hI1_1⟩ ⟨id,id,id,id,id,id,id,id,id,tV⟩ ⟨rI,tV⟩ ?_
   intro k1 hG1
   obtain⟨hk1,hI1⟩:(k1≤(ix m.sT k).length)∧((∀j,j<k1→iK m.aC.length m.sT.length (ix (ix m.sT k) j)=true)∧∀j,j+1<k1→ltP (ix (ix m.sT k) j) (ix (ix m.sT k) (j+1))=true):=hG1
   refine sq (rg (bi J J aN (nl (th (sq ?_)))))
   refine cd J (fun hc2=> ?_) (fun hc2=> ?_)
   ·try simp at hc2
    refine sk (th (sq (bk (sq (rg (mv (iF J J T.cC O gB (lFA J T.bY (Nat.le_of_ble_eq_true J) (al (key:=7) T.z94 (eC (eC eZ)) fun b7=>(ag (sPA (cs':= [int ((ix (ix m.sT k) k1).1),int ((ix (ix m.sT k) k1).2)]) J J J T.bY J J (nl (th (sq (dr (nh:=38) [0,1,3,7,15,31,15,79,207,511,1023,2047,4095,8191,16383,32767,65535,131071,262143,131071,655359,1703935,4194303,8388607,16777215,33554431,67108863,134217727,268435455,268435455,805306367,2147483647,4294967295,268435455,17179869183,34359738367,68719476735,137438953471] T.mixed kR ?_)))))))))))))))
    refine st_ J (fun _ _ _ gq kq=>fP (gq.1.trans J) T.cR kq) ?_
    refine st_ J (fun _ _ _ gq kq=>lP (gq.1.trans J) J J T.aD kq) ?_
    refine st_ J (fun _ _ _ gq kq=>bi (gq.1.trans J) J aN kq) ?_
    refine st_ J (fun _ _ _ gq kq=>mv' (gq.1.trans J) kq) ?_
    refine sg_ (φ:=ptr 7 b7 0) J J J J (List.mem_of_elem_eq_true J) (fun hgd=> ?_) ?_
    ·have hgd':=hgd
     try simp at hgd'
     exact fun _ _ _ gq kq=>fP (gq.1.trans J) T.cR kq
    refine sg_ (φ:=int ((ix (ix m.sT k) k1).1)) J J J J (List.mem_of_elem_eq_true J) (fun hgd=> ?_) ?_
    ·have hgd':=hgd
     try simp at hgd'
     exact fun _ _ _ gq kq=>lP (gq.1.trans (bR hgd)) J J T.aD kq
    refine sg_ (φ:=ptr 1 b1 0) J J J J (List.mem_of_elem_eq_true J) (fun hgd=> ?_) ?_
    ·have hgd':=hgd
     try simp at hgd'
     exact fun _ _ _ gq kq=>fP (gq.1.trans J) T.gS kq
    refine sg_ (φ:=sl 1 rE_ m.aC) J J J J (List.mem_of_elem_eq_true J) (fun hgd=> ?_) ?_
    ·have hgd':=hgd
     try simp at hgd'
     exact fun _ _ _ gq kq=>lP (gq.1.trans (bR hgd)) J J T.dE kq
    refine sg_ (φ:=int (m.aC.length:Int)) J J J J (List.mem_of_elem_eq_true J) (fun hgd=> ?_) ?_
    ·have hgd':=hgd
     try simp at hgd'
     exact fun _ _ _ gq kq=>lnF (gq.1.trans (bR hgd)) T.eS kq
    refine sg_ (φ:=bl (decide ((m.aC.length:Int)≤((ix (ix m.sT k) k1).1)))) J J J J (List.mem_of_elem_eq_true J) (fun hgd=> ?_) ?_
    ·have hgd':=hgd
     try simp at hgd'
     exact fun _ _ _ gq kq=>bi (gq.1.trans (bR hgd)) (gq.2.1.trans (bR hgd)) gW kq
    refine st_ J (fun _ _ _ gq kq=>pk (gq.1.trans J) (pS (x:= .tmp 45) (gq.1.trans J) (gq.2.1.trans J) J) kq) ?_
    refine st_ J (fun _ _ _ gq kq=>mv' (gq.1.trans J) kq) ?_
    refine sg_ (φ:=ptr 7 b7 1) J J J J (List.mem_of_elem_eq_true J) (fun hgd=> ?_) ?_
    ·have hgd':=hgd
     try simp at hgd'
     exact fun _ _ _ gq kq=>fP (gq.1.trans J) T.cS kq
    refine sg_ (φ:=int ((ix (ix m.sT k) k1).2)) J J J J (List.mem_of_elem_eq_true J) (fun hgd=> ?_) ?_
    ·have hgd':=hgd
     try simp at hgd'
     exact fun _ _ _ gq kq=>lP (gq.1.trans (bR hgd)) J J T.aD kq
    refine sg_ (φ:=bl (decide (((ix (ix m.sT k) k1).2)<0))) J J J J (List.mem_of_elem_eq_true J) (fun hgd=> ?_) ?_
    ·have hgd':=hgd
     try simp at hgd'
     exact fun _ _ _ gq kq=>bi (gq.1.trans (bR hgd)) J aN kq
    refine st_ J (fun _ _ _ gq kq=>pk (gq.1.trans J) (pS (x:= .tmp 53) (gq.1.trans J) (gq.2.1.trans J) J) kq) ?_
    refine st_ J (fun _ _ _ gq kq=>mv' (gq.1.trans J) kq) ?_
    refine sg_ (φ:=ptr 7 b7 1) J J J J (List.mem_of_elem_eq_true J) (fun hgd=> ?_) ?_
    ·have hgd':=hgd
     try simp at hgd'
     exact fun _ _ _ gq kq=>fP (gq.1.trans J) T.cS kq
    refine sg_ (φ:=int ((ix (ix m.sT k) k1).2)) J J J J (List.mem_of_elem_eq_true J) (fun hgd=> ?_) ?_
    ·have hgd':=hgd
     try simp at hgd'
     exact fun _ _ _ gq kq=>lP (gq.1.trans (bR hgd)) J J T.aD kq
    refine sg_ (φ:=ptr 1 b1 1) J J J J (List.mem_of_elem_eq_true J) (fun hgd=> ?_) ?_
    ·have hgd':=hgd
     try simp at hgd'
     exact fun _ _ _ gq kq=>fP (gq.1.trans J) T.bN kq
    refine sg_ (φ:=sl 1 gE m.sT) J J J J (List.mem_of_elem_eq_true J) (fun hgd=> ?_) ?_
    ·have hgd':=hgd
     try simp at hgd'
     exact fun _ _ _ gq kq=>lP (gq.1.trans (bR hgd)) J J T.cH kq
    refine sg_ (φ:=int (m.sT.length:Int)) J J J J (List.mem_of_elem_eq_true J) (fun hgd=> ?_) ?_
    ·have hgd':=hgd
     try simp at hgd'
     exact fun _ _ _ gq kq=>lnF (gq.1.trans (bR hgd)) T.eB kq
    refine sg_ (φ:=bl (decide ((m.sT.length:Int)≤((ix (ix m.sT k) k1).2)))) J J J J (List.mem_of_elem_eq_true J) (fun hgd=> ?_) ?_
    ·have hgd':=hgd
     try simp at hgd'
     exact fun _ _ _ gq kq=>bi (gq.1.trans (bR hgd)) (gq.2.1.trans (bR hgd)) gW kq
    refine st_ J (fun _ _ _ gq kq=>pk (gq.1.trans J) (pS (x:= .tmp 58) (gq.1.trans J) (gq.2.1.trans J) J) kq) ?_
    refine st_ J (fun _ _ _ gq kq=>mv' (gq.1.trans J) kq) ?_
    refine sg_ (φ:=int (k1:Int)) J J J J (List.mem_of_elem_eq_true J) (fun hgd=> ?_) ?_
    ·have hgd':=hgd
     try simp at hgd'
     exact fun _ _ _ gq kq=>mv' (gq.1.trans J) kq
    refine sg_ (φ:=bl (decide (0<(k1:Int)))) J J J J (List.mem_of_elem_eq_true J) (fun hgd=> ?_) ?_
    ·have hgd':=hgd
     try simp at hgd'
     exact fun _ _ _ gq kq=>bi (gq.1.trans (bR hgd)) J gF kq
    refine sg_ (φ:=bl (decide (0<(k1:Int)))) J J J J (List.mem_of_elem_eq_true J) (fun hgd=> ?_) ?_
    ·have hgd':=hgd
     try simp at hgd'
     exact fun _ _ _ gq kq=>mv' (gq.1.trans (bR hgd)) kq
    refine jJ (φ:=sl 2 pE (ix m.sT k)) rfl rfl rfl rfl (List.mem_of_elem_eq_true rfl) (fun hgd hgd2=> ?_) ?_
    ·have hgd':=hgd
     try simp at hgd'
     have hgd2':=hgd2
     try simp at hgd2'
     exact fun _ _ _ gq kq=>mv' (gq.1.trans J) kq
    refine jJ (φ:=int (k1:Int)) rfl rfl rfl rfl (List.mem_of_elem_eq_true rfl) (fun hgd hgd2=> ?_) ?_
    ·have hgd':=hgd
     try simp at hgd'
     have hgd2':=hgd2
     try simp at hgd2'
     exact fun _ _ _ gq kq=>mv' (gq.1.trans J) kq
    refine jJ (φ:=int ((k1:Int)- 1)) rfl rfl rfl rfl (List.mem_of_elem_eq_true rfl) (fun hgd hgd2=> ?_) ?_
    ·have hgd':=hgd
     try simp at hgd'
     have hgd2':=hgd2
     try simp at hgd2'
     exact fun _ _ _ gq kq=>bi (gq.1.trans (fE hgd hgd2)) J (kI i6) kq
    refine jJ (φ:=fp [int ((ix (ix m.sT k) ((k1:Int)- 1).toNat).1),int ((ix (ix m.sT k) ((k1:Int)- 1).toNat).2)]) rfl rfl rfl rfl (List.mem_of_elem_eq_true rfl) (fun hgd hgd2=> ?_) ?_
    ·have hgd':=hgd
     try simp at hgd'
     have hgd2':=hgd2
     try simp at hgd2'
     exact fun _ _ _ gq kq=>iF (gq.1.trans (fE hgd hgd2)) (gq.2.1.trans (fE hgd hgd2)) T.cC O gB kq
    refine jJ (φ:=agg [int ((ix (ix m.sT k) ((k1:Int)- 1).toNat).1),int ((ix (ix m.sT k) ((k1:Int)- 1).toNat).2)]) rfl rfl rfl rfl (List.mem_of_elem_eq_true rfl) (fun hgd hgd2=> ?_) ?_
    ·have hgd':=hgd
     try simp at hgd'
     have hgd2':=hgd2
     try simp at hgd2'
     exact fun _ _ _ gq kq=>lFA (gq.1.trans (fE hgd hgd2)) T.bY (Nat.le_of_ble_eq_true J) kq
    refine jJ (φ:=agg [int ((ix (ix m.sT k) k1).1),int ((ix (ix m.sT k) k1).2)]) rfl rfl rfl rfl (List.mem_of_elem_eq_true rfl) (fun hgd hgd2=> ?_) ?_
    ·have hgd':=hgd
     try simp at hgd'
     have hgd2':=hgd2
     try simp at hgd2'
     exact fun _ _ _ gq kq=>lPA (gq.1.trans J) J T.bY J kq
    refine jJ (φ:=bl (ltP ((ix (ix m.sT k) ((k1:Int)- 1).toNat).1,(ix (ix m.sT k) ((k1:Int)- 1).toNat).2) ((ix (ix m.sT k) k1).1,(ix (ix m.sT k) k1).2))) rfl rfl rfl rfl (List.mem_of_elem_eq_true rfl) (fun hgd hgd2=> ?_) ?_
    ·have hgd':=hgd
     try simp at hgd'
     have hgd2':=hgd2
     try simp at hgd2'
     exact fun _ _ _ gq kq=>bE (φs:= [agg [int ((ix (ix m.sT k) ((k1:Int)- 1).toNat).1),int ((ix (ix m.sT k) ((k1:Int)- 1).toNat).2)],agg [int ((ix (ix m.sT k) k1).1),int ((ix (ix m.sT k) k1).2)]]) (φ:=bl (ltP ((ix (ix m.sT k) ((k1:Int)- 1).toNat).1,(ix (ix m.sT k) ((k1:Int)- 1).toNat).2) ((ix (ix m.sT k) k1).1,(ix (ix m.sT k) k1).2))) ⟨(gq.1.trans (fE hgd hgd2)),(gq.2.1.trans (fE hgd hgd2)),tV⟩ (divs.DG ((ix (ix m.sT k) ((k1:Int)- 1).toNat).1,(ix (ix m.sT k) ((k1:Int)- 1).toNat).2) ((ix (ix m.sT k) k1).1,(ix (ix m.sT k) k1).2)) T.QL kq
    refine jJ (φ:=bl (!(ltP ((ix (ix m.sT k) ((k1:Int)- 1).toNat).1,(ix (ix m.sT k) ((k1:Int)- 1).toNat).2) ((ix (ix m.sT k) k1).1,(ix (ix m.sT k) k1).2)))) rfl rfl rfl rfl (List.mem_of_elem_eq_true rfl) (fun hgd hgd2=> ?_) ?_
    ·have hgd':=hgd
     try simp at hgd'
     have hgd2':=hgd2
     try simp at hgd2'
     exact fun _ _ _ gq kq=>no (gq.1.trans (fE hgd hgd2)) kq
    refine sg_ (φ:=bl ((decide (0<(k1:Int)))&&(!(ltP ((ix (ix m.sT k) ((k1:Int)- 1).toNat).1,(ix (ix m.sT k) ((k1:Int)- 1).toNat).2) ((ix (ix m.sT k) k1).1,(ix (ix m.sT k) k1).2))))) J J J J (List.mem_of_elem_eq_true J) (fun hgd=> ?_) ?_
    ·have hgd':=hgd
     try simp at hgd'
     exact fun _ _ _ gq kq=>pk (gq.1.trans (bR hgd)) (pZ (x:= .tmp 69) (gq.1.trans (bR hgd)) (gq.2.1.trans (Cs hgd)) J) kq
    refine st_ J (fun _ _ _ gq kq=>pk (gq.1.trans J) (pS (x:= .tmp 66) (gq.1.trans J) (gq.2.1.trans J) J) kq) ?_
    refine pn (nl (th ?_))
    refine cd J (fun hc3=> ?_) (fun hc3=> ?_)
    ·skip
     simp only [Bool.or_eq_true,Bool.and_eq_true,decide_eq_true_eq] at hc3
     refine sq (rg (ag (nl (th (rt (rb (rt_ (rt_ (rb (rb (rt_ (rt_ (rb (rt_ ?_))))))))))))))
     have hr0:false=(bI m):=by
      unfold bI
      rw[gJ (xs:=m.sT) (k:=k) O ?_];simp
      have hno:∀{p:Prop},(iK m.aC.length m.sT.length (ix (ix m.sT k) k1)=true→¬p)→p→dS m.aC.length m.sT.length (ix m.sT k)=false:=fun hh hp=>DD hc2 (by cases g:iK m.aC.length m.sT.length (ix (ix m.sT k) k1) with|false=>rfl|true=>exact absurd hp (hh g))
      rcases hc3 with(((h|h)|h)|h)|h
      ·exact hno (fun g=>by have:=dZ.1 g;omega) h
      ·exact hno (fun g=>by have:=dZ.1 g;omega) h
      ·exact hno (fun g=>by have:=dZ.1 g;omega) h
      ·exact hno (fun g=>by have:=dZ.1 g;omega) h
      ·have h5:=h.2
       rw[show((k1:Int)- 1).toNat=k1- 1 by omega] at h5
       refine DF hc2 O ?_
       simpa using h5
     exact rE () [.tmp 2] J [bl false] ⟨.tmp J,tV⟩ (cA1 (fun x0=>rV [bl x0]) hr0) trivial eX
    ·skip
     simp only [Bool.or_eq_false_iff,Bool.and_eq_false_iff,decide_eq_false_iff_not] at hc3
     obtain⟨⟨⟨⟨h41,h42⟩,h43⟩,h44⟩,h45⟩:=hc3
     refine sk (eb (th (rg (bi J J (aK i6) (mv (nl ?_))))))
     have hN0:(k1+1)≤(ix m.sT k).length:=by
      first|omega|simp_all
     have hN1:(∀j,j<(k1+1)→iK m.aC.length m.sT.length (ix (ix m.sT k) j)=true)∧∀j,j+1<(k1+1)→ltP (ix (ix m.sT k) j) (ix (ix m.sT k) (j+1))=true:=by
      refine⟨fun j hj=> ?_,fun j hj=> ?_⟩
      ·by_cases e:j=k1
       ·subst e;exact dZ.2 ⟨O,O,O,O⟩
       ·exact hI1.1 j O
      ·by_cases e:j+1=k1
       ·subst e
        rcases h45 with h|h
        ·exact absurd O h
        ·rw[show(((j+1:Nat):Int)- 1).toNat=j by omega] at h
         simpa using h
       ·exact hI1.2 j O
     exact ln (k1+1) ⟨hN0,hN1⟩ dO ⟨id,id,id,id,id,id,id,id,id,tV⟩ ⟨rI,tV⟩
   ·try simp at hc2
    refine ex (xt_ (xt_ (xb (eb (th (rg (bi J J (aK i6) (mv (nl ?_)))))))))
    have hN0:(k+1)≤m.sT.length:=by
     first|omega|simp_all
    have hN1:(n+((ix m.sT k).length:Int))=(bX (m.sT.take (k+1)):Int)∧(m.sT.take (k+1)).all (dS m.aC.length m.sT.length)=true∧(n+((ix m.sT k).length:Int))≤140737488355328*((k+1):Int):=by
     refine⟨?_,?_,O⟩
     ·rw[bJ O,mR];omega
     ·rw[eT O,hal,sQ (fun j hj=>hI1.1 j O) (fun j hj=>hI1.2 j O)];rfl
    exact ln (⟨k+1,n+((ix m.sT k).length:Int)⟩:Nat × Int) ⟨hN0,hN1⟩ dO ⟨id,id,id,id,id,tV⟩ ⟨rI,tV⟩
  ·try simp at hc1
   refine ex (xt_ (xt_ (xb (th (sq (rg (mv (bi J J tI (ag (nl (th (rt ?_))))))))))))
   have hr0:(decide (n≤400000))=(bI m):=by
    have hkk:k=m.sT.length:=by omega
    rw[hkk,List.take_length] at hal hn
    unfold bI
    rw[hal,hc0.1.1,hn,decide_eq_true (p:=1≤m.sT.length) O,decide_eq_true (p:=m.sT.length≤5000) O]
    simp only [Bool.true_and,Bool.and_true]
    exact decide_eq_decide.2 O
   exact rE () [.tmp 2] J [bl (decide (n≤400000))] ⟨.tmp J,tV⟩ (cA1 (fun x0=>rV [bl x0]) hr0) trivial eX
end divs
end
section
namespace LevM
open ref01 ref03 ref04 ref06 Part Rungs LeftM TrimM BisM BisM5 WitM
inductive Rch (B:PP→Prop) (S:PP→PP→Prop):PP→Prop
 |zero:Rch B S (0,0)
 |step {p q:PP}:Rch B S p→¬B p→S p q→Rch B S q
def OD (B:PP→Prop) (S:PP→PP→Prop):Prop:=∀p,Rch B S p→¬B p
def Fin (B:PP→Prop) (S:PP→PP→Prop) (vis:List PP) (p:PP):Prop:=¬B p∧∀q,S p q→q∈vis
structure LI (B:PP→Prop) (S:PP→PP→Prop) (vis op:List PP):Prop where
 nd:vis.Nodup
 z:((0,0):PP)∈vis
 rch:∀p∈vis,Rch B S p
 opn:∀p∈op,p∈vis
 dn:∀p∈vis,p∈op∨Fin B S vis p
variable {B:PP→Prop} {S:PP→PP→Prop} {vis op:List PP}
theorem Sj:LI B S [(0,0)] [(0,0)]:=
 ⟨by simp,by simp,fun p hp=>by rw[List.mem_singleton.1 hp];exact .zero,fun p hp=>hp,fun p hp=> .inl hp⟩
theorem OE {v:List PP} {p:PP} (h:Fin B S vis p):Fin B S (vis++v) p:=⟨h.1,fun q hq=>List.mem_append.2 (.inl (h.2 q hq))⟩
theorem Sk (h:LI B S vis op) {q:PP} (hq:q∉vis) (hr:Rch B S q):LI B S (vis++ [q]) (op++ [q]):=by
 refine⟨?_,List.mem_append.2 (.inl h.z),fun p hp=> ?_,fun p hp=> ?_,fun p hp=> ?_⟩
 ·rw[List.nodup_append]
  refine⟨h.nd,by simp,fun a ha b hb e=> ?_⟩
  rw[List.mem_singleton.1 hb] at e
  subst e;exact hq ha
 ·rcases List.mem_append.1 hp with g|g
  ·exact h.rch p g
  ·rw[List.mem_singleton.1 g];exact hr
 ·rcases List.mem_append.1 hp with g|g
  ·exact List.mem_append.2 (.inl (h.opn p g))
  ·exact List.mem_append.2 (.inr g)
 ·rcases List.mem_append.1 hp with g|g
  ·rcases h.dn p g with g|g
   ·exact .inl (List.mem_append.2 (.inl g))
   ·exact .inr (OE g)
  ·exact .inl (List.mem_append.2 (.inr g))
theorem UW {p:PP} (h:LI B S vis (p::op)) (hf:Fin B S vis p):LI B S vis op:=
 ⟨h.nd,h.z,h.rch,fun q hq=>h.opn q (List.mem_cons_of_mem _ hq),fun q hq=>by
   rcases h.dn q hq with g|g
   ·rcases List.mem_cons.1 g with g|g
    ·subst g;exact .inr hf
    ·exact .inl g
   ·exact .inr g⟩
theorem UX (h:LI B S vis []):OD B S:=fun p hp=>by
 have:p∈vis∧Fin B S vis p:=by
  induction hp with
  |zero=>exact⟨h.z,by rcases h.dn _ h.z with g|g;cases g;exact g⟩
  |step h1 h2 h3 ih=>
   have hq:=ih.2.2 _ h3
   exact⟨hq,by rcases h.dn _ hq with g|g;cases g;exact g⟩
 exact this.2.1
theorem WB (h:LI B S vis op) {p:PP} (hp:p∈vis) (hb:B p):¬OD B S:=fun hw=>hw p (h.rch p hp) hb
theorem HZ {l:List PP} {k:Nat} (h:k<l.length):l.drop k=ix l k::l.drop (k+1):=by
 rw[aH h];exact List.drop_eq_getElem_cons h
def mat (n m:Nat) (vis:List PP):List (List Bool):=(List.range n).map fun(x:Nat)=>(List.range m).map fun(y:Nat)=>decide (((x:Int),(y:Int))∈vis)
theorem OG (n m:Nat):mat n m []=List.replicate n (List.replicate m false):=by
 unfold mat
 rw[show(fun(x:Nat)=>(List.range m).map fun(y:Nat)=>decide (((x:Int),(y:Int))∈([]:List PP)))=fun _=>List.replicate m false from funext fun x=>by
  rw[show(fun(y:Nat)=>decide (((x:Int),(y:Int))∈([]:List PP)))=fun _=>false from funext fun y=>by simp]
  rw[List.map_const'];simp]
 rw[List.map_const'];simp
theorem CM (n m:Nat) (vis:List PP):(mat n m vis).length=n:=by simp[mat]
theorem CN {n m:Nat} {vis:List PP} {x:Nat} (hx:x<n):ix (mat n m vis) x=(List.range m).map fun(y:Nat)=>decide (((x:Int),(y:Int))∈vis):=bS hx
theorem wA {n m:Nat} {vis:List PP} {x:Nat} (hx:x<n):(ix (mat n m vis) x).length=m:=by rw[CN hx];simp
theorem UY {n m:Nat} {vis:List PP} {x y:Nat} (hx:x<n) (hy:y<m):ix (ix (mat n m vis) x) y=decide (((x:Int),(y:Int))∈vis):=by
 rw[CN hx];exact bS hy
theorem Ia {n m:Nat} {vis:List PP} {x y:Nat} (hx:x<n) (hy:y<m):(mat n m vis).set x ((ix (mat n m vis) x).set y true)=mat n m (vis++ [((x:Int),(y:Int))]):=by
 rw[CN hx]
 refine mD hx ?_ (fun z _ hne=> ?_)
 ·refine(mD hy ?_ (fun z _ hne=> ?_)).symm
  ·simp
  ·rw[decide_eq_decide]
   constructor
   ·intro h
    rcases List.mem_append.1 h with h|h
    ·exact h
    ·have h:=List.mem_singleton.1 h
     simp only [Prod.mk.injEq] at h
     omega
   ·exact fun h=>List.mem_append.2 (.inl h)
 ·refine List.map_congr_left fun w _=> ?_
  rw[decide_eq_decide]
  constructor
  ·intro h
   rcases List.mem_append.1 h with h|h
   ·exact h
   ·have h:=List.mem_singleton.1 h
    simp only [Prod.mk.injEq] at h
    omega
  ·exact fun h=>List.mem_append.2 (.inl h)
end LevM
end
section
open ref01 ref03 ref04 ref06 prog prog2 prog3 prog6 prog13 Part Rungs LeftM TrimM RoundM MergeM BisM BisM4 BisM5 WalkM StepM WitM JudgM refw judg wit sysw divr divs LevM
theorem nX {s:SS} (hs:oK s):oK (tR s).1:=by
 cases h:ix (hOl s) 0 with
 |true=>rw[fZ h];exact vV hs.acts
 |false=>rw[eU h];exact QE hs
theorem qI (s:SS):(tR s).1.aC=s.aC:=by
 cases h:ix (hOl s) 0 with
 |true=>rw[fZ h];rfl
 |false=>rw[eU h]
theorem Ib {α:Type} (a b:α) {n k:Nat} (h:k<n):(List.replicate k a++List.replicate (n- k) b).set k a=List.replicate (k+1) a++List.replicate (n- (k+1)) b:=by
 rw[List.set_append_right _ _ (by simp),List.length_replicate,Nat.sub_self,show n- k=(n- (k+1))+1 by omega,List.replicate_succ,List.set_cons_zero,List.replicate_succ',List.append_assoc]
 rfl
namespace divd
end divd
end
section
open ref01 ref03 ref04 ref06 prog6 prog15 starts Part Rungs LeftM TrimM RoundM MergeM BisM BisM5 BisM6 WalkM StepM WitM JudgM
namespace JudgM2
theorem WC {s:SS} (hs:oK s) (h0:ix (hOl s) 0=false) {x:Nat} (hx:x<(tS s).sT.length):0<(acc (tS s) x).length:=by
 rw[kT] at hx
 rw[sH hx]
 exact List.length_pos_iff.2 (yZ (by have:=iJ hs hx;omega) (xN hs h0 hx))
structure VR where
 holds:Bool
 ladder:List Int
 pairs:List PP
 wit:aA
structure XY (s t:SS) (v:VR):Prop where
 yes:v.holds=true→sG s t∧v.ladder=eV s∧v.wit=⟨[],[]⟩∧(ix (hOl s) 0=true→v.pairs= [])∧(ix (hOl s) 0=false→∃q,JD (tS s) t q∧(∀k,k<q.length→Oi (tS s) t q k)∧v.pairs=q.map fun m=>(ix (aM s) m.s.toNat,m.t))
 no:v.holds=false→¬sG s t∧v.ladder= []∧v.pairs= []∧ix (hOl s) 0=false∧∃q i u,JD (tS s) t q∧i<q.length∧u∈acc (tS s) (ix q i).s.toNat∧u∉acc t (ix q i).t.toNat∧BK (tS s) (Ep (tS s) (mQ q i) u) v.wit
end JudgM2
end
section
open ref01 ref03 ref04 ref06 prog prog2 prog3 prog4 prog5 prog6 prog13 prog15 starts search Part Rungs LeftM TrimM RoundM MergeM BisM BisM5 WalkM StepM WitM JudgM JudgM2 refw judg wit
theorem oK.small {s:SS} (h:oK s):iZ s:=fun k hk i hi=>by
 have:=(h.st k hk).ac i hi
 omega
namespace refj
end refj
end
section
open ref01 ref03 ref04 ref06 prog prog2 prog3 prog6 prog13 Part Rungs LeftM TrimM RoundM MergeM BisM BisM4 BisM5 WalkM StepM WitM JudgM refw judg wit refj sysw divr divs divd LevM
namespace dive
end dive
end
section
namespace LevM2
open ref01 ref03 ref04 ref06 Part Rungs LeftM TrimM BisM BisM5 BisM6 WitM JudgM LevM
def iU (m:aA) (t:SS) (p:PP):Prop:=bQ m p.1.toNat∉acc t p.2.toNat
def jY (m:aA) (t:SS) (p q:PP):Prop:=∃e∈edg m p.1.toNat,q=(e.2,ix (nxt t p.2.toNat) e.1.toNat)
def JK (m:aA) (t:SS) (p:PP):Prop:=0≤p.1∧p.1<(m.sT.length:Int)∧0≤p.2∧p.2<(t.sT.length:Int)
theorem Fw {m:aA} {t:SS} (hm:aY m) (ht:oK t) {p q:PP} (hp:JK m t p) (hb:¬iU m t p) (hs:jY m t p q):JK m t q:=by
 obtain⟨e,he,rfl⟩:=hs
 obtain⟨p0,p1,p2,p3⟩:=hp
 have ha:bQ m p.1.toNat∈acc t p.2.toNat:=Classical.byContradiction hb
 have g1:=hm.ed p.1.toNat O e he
 have g2:=pF hm ht (x:=p.1.toNat) (y:=p.2.toNat) O O ha he
 exact⟨g1.2.2.1,g1.2.2.2,g2.2.1,g2.2.2⟩
theorem nJ {m:aA} {t:SS} (hm:aY m) (ht:oK t) {p:PP} (h:Rch (iU m t) (jY m t) p):JK m t p:=by
 induction h with
 |zero=>exact⟨by simp,by have:=hm.few0;show(0:Int)<_;omega,by simp,by have:=ht.few0;show(0:Int)<_;omega⟩
 |step h1 h2 h3 ih=>exact Fw hm ht ih h2 h3
theorem Fx {m:aA} {t:SS} (hm:aY m) (ht:oK t):OD (iU m t) (jY m t)↔fX m t:=by
 constructor
 ·intro hw
  have hacc:∀{x y:Nat},Rch (iU m t) (jY m t) ((x:Int),(y:Int))→bQ m x∈acc t y:=fun {x y} h=>Classical.byContradiction (hw _ h)
  have hbox:∀{x y:Nat},Rch (iU m t) (jY m t) ((x:Int),(y:Int))→x<m.sT.length∧y<t.sT.length:=fun {x y} h=>by
   obtain⟨_,h1,_,h2⟩:=nJ hm ht h
   dsimp only at h1 h2
   omega
  refine⟨fun x y=>Rch (iU m t) (jY m t) ((x:Int),(y:Int)),⟨fun {x y} h=>(hbox h).2,fun {x y} h=>hacc h,fun {x y} h e he=> ?_,fun {x y} h e he=> ?_⟩,.zero⟩
  ·obtain⟨e',he',rfl⟩:=List.mem_map.1 he
   have:=(pF hm ht (hbox h).1 (hbox h).2 (hacc h) he').1
   show e'.1.toNat<_
   rw[(ht.st y (hbox h).2).len];exact this
  ·obtain⟨e',he',rfl⟩:=List.mem_map.1 he
   have hr:Rch (iU m t) (jY m t) (e'.2,ix (nxt t y) e'.1.toNat):=Rch.step h (hw _ h) ⟨e',he',rfl⟩
   have hb:=nJ hm ht hr
   obtain⟨b0,_,b2,_⟩:=hb
   dsimp only at b0 b2
   refine⟨b2,?_⟩
   show Rch _ _ (((e'.2.toNat:Nat):Int),_)
   rw[Int.toNat_of_nonneg b0,Int.toNat_of_nonneg b2]
   exact hr
 ·rintro⟨R,hR,h0⟩ p hp
  have:JK m t p∧R p.1.toNat p.2.toNat:=by
   induction hp with
   |zero=>exact⟨nJ hm ht .zero,h0⟩
   |step h1 h2 h3 ih=>
    refine⟨Fw hm ht ih.1 h2 h3,?_⟩
    obtain⟨e,he,rfl⟩:=h3
    exact(hR.nxt ih.2 _ (List.mem_map.2 ⟨e,he,rfl⟩)).2
  exact fun hb=>hb (hR.acc this.2)
end LevM2
end
section
open ref01 ref03 ref04 ref06 prog prog2 prog3 prog6 prog13 Part Rungs LeftM TrimM RoundM MergeM BisM BisM4 BisM5 WalkM StepM WitM JudgM refw judg wit refj sysw divr divs divd dive LevM LevM2
noncomputable def xU (m:aA) (s:SS):Bool:= @decide (fX m s) (Classical.propDecidable _)
theorem Fy {m:aA} {s:SS}:xU m s=true↔fX m s:=by unfold xU;simp
theorem FA {m:aA} {t:SS} {p:Int × Int} (h:0≤p.2):xT t p.2 (bQ m p.1.toNat)=true↔¬iU m t p:=by
 unfold xT iU
 simp[h]
theorem UZ {m:aA} (hm:aY m) {x:Nat} (hx:x<m.sT.length):∀e∈ix m.sT x,0≤e.1∧e.1<8:=fun e he=>by
 have:=hm.ed x hx e he
 have:=hm.n8
 omega
namespace T
theorem aZ:jF Tryz.prog 25 2:=jT kR
theorem WE:Ent Tryz.prog 89:=aO kR
theorem WF:Ent Tryz.prog 88:=aO kR
theorem Va:Ent Tryz.prog 122:=aO kR
theorem WG:Ent Tryz.prog 76:=aO kR
end T
namespace divg
theorem Sl (m:aA) (t:SS) (x y:Int) (hm:aY m) (x0:0≤x) (hx:x<(m.sT.length:Int)) (y0:0≤y) (hy:y<(t.sT.length:Int)):
 Fn0 Tryz.prog 122 [sys m,spec t,agg [int x,int y]] (bl (xT t y (bQ m x.toNat))):=by
 refine fnI Tryz.func122 rfl rfl (fun w0 F0=> ?_)
 have h8:=UZ hm (x:=x.toNat) O
 refine fcC (cE 0 J) (fun hS0=> ?_)
 obtain⟨hma0,hms0,hme0⟩:=cG hS0
 refine fcC (cE 1 J) (fun hS1=> ?_)
 obtain⟨hsa1,hss1,hse1⟩:=sLn hS1
 refine sq (rg (bx (key:=3) (cs:= [sl 1 rE_ m.aC,sl 1 gE m.sT]) J fun b3=>(bx (key:=4) (cs:= [sl 1 rE_ t.aC,sl 2 sE t.sT]) J fun b4=>(bx (key:=5) (cs:= [int x,int y]) J fun b5=>(ag (nl (th (sq (dr (nh:=9) [0,0,2,0,0,16,56,127,255] T.mixed kR ?_)))))))))
 refine st_ J (fun _ _ _ gq kq=>lPA (gq.1.trans J) J T.bK J kq) ?_
 refine st_ J (fun _ _ _ gq kq=>iPA (gq.1.trans J) J T.gZ T.aD J kq) ?_
 refine st_ J (fun _ _ _ gq kq=>lP (gq.1.trans J) J J T.aD kq) ?_
 refine st_ J (fun _ _ _ gq kq=>lPA (gq.1.trans J) J T.aZ J kq) ?_
 refine st_ J (fun _ _ _ gq kq=>iPA (gq.1.trans J) J T.gZ T.aD J kq) ?_
 refine st_ J (fun _ _ _ gq kq=>lP (gq.1.trans J) J J T.aD kq) ?_
 refine st_ J (fun _ _ _ gq kq=>bE (φs:= [agg [sl 1 rE_ m.aC,sl 1 gE m.sT],int x]) (φ:=int (bQ m x.toNat)) ⟨(gq.1.trans J),(gq.2.1.trans J),tV⟩ (divs.OC m x aS O O) T.WE kq) ?_
 refine st_ J (fun _ _ _ gq kq=>bE (φs:= [agg [sl 1 rE_ t.aC,sl 2 sE t.sT],int y,int (bQ m x.toNat)]) (φ:=bl (xT t y (bQ m x.toNat))) ⟨(gq.1.trans J),(gq.2.1.trans J),(gq.2.2.1.trans J),tV⟩ (divs.rG t y (bQ m x.toNat) O) T.WF kq) ?_
 refine st_ J (fun _ _ _ gq kq=>ag' (gq.1.trans J) kq) ?_
 refine pn (nl (th (rt ?_)))
 exact rE () [.tmp 6] J [bl (xT t y (bQ m x.toNat))] ⟨.tmp J,tV⟩ J trivial eX
theorem OH (m:aA) (t:SS) (hm:aY m) (ht:oK t):
 AL.Fn Tryz.prog 76 [sys m,spec t] [] (ι:= { z:List (Int × Int) × Int × Bool//z.2.2=true↔fX m t }) (fun _ i=>tup [sl 2 pE i.1.1,int i.1.2.1,bl i.1.2.2]) (fun _=> []):=by
 refine fnI Tryz.func76 rfl rfl (fun w0 F0=> ?_)
 have hT0:=hm.few0;have hT1:=hm.few1;have ht0:=ht.few0;have ht1:=ht.few1;have hn8:=hm.n8;have hm8:=ht.n8
 have hmm:m.sT.length*t.sT.length≤10000*10000:=Nat.mul_le_mul hT1 ht1
 refine fcC (cE 0 J) (fun hS0=> ?_)
 obtain⟨hma0,hms0,hme0⟩:=cG hS0
 refine fcC (cE 1 J) (fun hS1=> ?_)
 obtain⟨hsa1,hss1,hse1⟩:=sLn hS1
 refine sq (rg (bx (key:=2) (cs:= [sl 1 rE_ m.aC,sl 1 gE m.sT]) J fun b2=>(bx (key:=3) (cs:= [sl 1 rE_ t.aC,sl 2 sE t.sT]) J fun b3=>(ag (kn 4 (sl 2 pE []) J slnil (ag (ag (nl (th (sq (rg (fP J T.bN (lP J J J T.cH (fc (aW 22 J) fun hm22=>(lnF J T.eB (mk (key:=24) (m:=m.sT.length) (enc:=cQ) (y:=(.slice none 0 0:Value)) J J T.Jt (eC eZ) mL mL fun v24=>(ag (nl (th (sq (sq (rg (nbB 231 m.sT.length 4 1 blE (mv (lnO J J T.iH (mv (nl (th (bk ?_)))))))))))))))))))))))))))))
 have hI0_0:0≤(List.replicate m.sT.length (.slice none 0 0:Value)).length:=by
  first|omega|simp
 have hI0_1:(List.replicate m.sT.length (.slice none 0 0:Value)).length=m.sT.length∧(List.replicate m.sT.length [])=List.replicate 0 (List.replicate t.sT.length false)++List.replicate (m.sT.length- 0) []:=by
  exact⟨by simp,by simp⟩
 refine lp (κ:=Nat × (List Value) × (List (List Bool))) (fun p=> [(2,ptr 2 b2 0),(3,ptr 3 b3 0),(4,sl 2 pE []),(5,int 0),(6,bl false),(7,osl 24 v24),(26,int ((List.replicate m.sT.length (.slice none 0 0:Value)).length:Int)),(27,int (p.1:Int))]) (fun p=> [(2,cell b2 [sl 1 rE_ m.aC,sl 1 gE m.sT]),(3,cell b3 [sl 1 rE_ t.aC,sl 2 sE t.sT]),(24,own v24 90 1 cQ p.2.1),(231,aX p.2.1 4 1 blE p.2.2 none)]) (fun p=>(p.1≤(List.replicate m.sT.length (.slice none 0 0:Value)).length)∧(p.2.1.length=m.sT.length∧p.2.2=List.replicate p.1 (List.replicate t.sT.length false)++List.replicate (m.sT.length- p.1) [])) (fun p=>(List.replicate m.sT.length (.slice none 0 0:Value)).length- p.1) ⟨0,List.replicate m.sT.length (.slice none 0 0:Value),List.replicate m.sT.length []⟩ ⟨hI0_0,hI0_1⟩ ⟨id,id,id,id,id,id,id,id,tV⟩ ⟨rI,rI,rI,rI,tV⟩ ?_
 intro⟨k,us,mt⟩ hG0
 obtain⟨hk0,⟨hul,hmt⟩⟩:(k≤(List.replicate m.sT.length (.slice none 0 0:Value)).length)∧(us.length=m.sT.length∧mt=List.replicate k (List.replicate t.sT.length false)++List.replicate (m.sT.length- k) []):=hG0
 show Ct _ _ _ _ [(2,ptr 2 b2 0),(3,ptr 3 b3 0),(4,sl 2 pE []),(5,int 0),(6,bl false),(7,osl 24 v24),(26,int ((List.replicate m.sT.length (.slice none 0 0:Value)).length:Int)),(27,int (k:Int))] [(2,cell b2 [sl 1 rE_ m.aC,sl 1 gE m.sT]),(3,cell b3 [sl 1 rE_ t.aC,sl 2 sE t.sT]),(24,own v24 90 1 cQ us),(231,aX us 4 1 blE mt none)] _
 have hml:mt.length=m.sT.length:=by rw[hmt];simp;omega
 refine sq (rg (bi J J aN (nl (th (sq ?_)))))
 refine cd J (fun hc0=> ?_) (fun hc0=> ?_)
 ·try simp at hc0
  refine sk (th (sq (bk (sq (rg (mv (ag (nl (th (Ac 231 2399 k J J (by decide) (gK O) (gK O) (rg (mv (mv (fP J T.bP (lP J J J T.cO (fc (aW 33 J) fun hm33=>(lnF J T.dI (mk (key:=35) (m:=t.sT.length) (enc:=blE) (y:=false) J J T.xC (eC eZ) mL mL fun v35=>(iO J J J T.iH O O (sOO (k2:=35) J J eD J T.fV gB J (y':=v35) J (nl (eb (th (rg (gvB (us:=us) 231 35 k J J (by decide) O (bi J J (aK i6) (mv (nl ?_))))))))))))))))))))))))))))
  have hN0:(k+1)≤(List.replicate m.sT.length (.slice none 0 0:Value)).length:=by
   first|omega|simp_all
  have hN1:(us.set k v35).length=m.sT.length∧(mt.set k (List.replicate t.sT.length false))=List.replicate (k+1) (List.replicate t.sT.length false)++List.replicate (m.sT.length- (k+1)) []:=by
   refine⟨by simpa using hul,?_⟩
   rw[hmt];exact Ib _ _ hc0
  exact ln (⟨k+1,us.set k v35,mt.set k (List.replicate t.sT.length false)⟩:Nat × (List Value) × (List (List Bool))) ⟨hN0,hN1⟩ dO ⟨id,id,id,id,id,id,id,id,tV⟩ ⟨rI,rI,rI,rI,tV⟩
 ·try simp at hc0
  have hmz:mt=mat m.sT.length t.sT.length []:=by rw[hmt,show k=m.sT.length by omega,Nat.sub_self,OG];simp
  have hr0:(ix mt 0).length=t.sT.length:=by rw[hmz];exact wA O
  refine ex (xt_ (xt_ (xb (th (sq (rg (mv (iO J J J T.iH O O (lO J J gB J T.fV (tkB 231 2310 0 J J (by decide) (gK (k:=0) O) (gK (k:=0) O) (kn 40 (osl 2310 (ix us 0)) J dH (iO J J J T.fQ O O (sO (φ:=bl true) J J J T.eH gB J (y':=true) J (nl (th (sq (rg (gvU 231 2310 0 J J (by decide) (gK (k:=0) O) (bd (css:= [(0,_),(1,_)]) T.rX (eC (eC eZ)) ⟨J,J,p1 (φ:=int 0) J,⟨J,J,p1 (φ:=int 0) J,tV⟩⟩ (bsE (enc:=pE) (xs:= [(0,0)]) (css:= [[int 0,int 0]]) T.mJ ⟨J,J,pA (cs:= [int 0,int 0]) J,tV⟩ J J J J (ag (nl (th (sq (sq (rg (ag (nl (th (bk ?_))))))))))))))))))))))))))))))
  have hI1_0:(mt.set 0 ((ix mt 0).set 0 true))=mat m.sT.length t.sT.length ([(0,0)]:List (Int × Int))∧LI (iU m t) (jY m t) ([(0,0)]:List (Int × Int)) ([(0,0)]:List (Int × Int))∧0≤(0:Int)∧(0:Int)+((min ([(0,0)]:List (Int × Int)).length 1:Nat):Int)≤(([(0,0)]:List (Int × Int)).length:Int):=by
   refine⟨?_,Sj,O,by simp⟩
   rw[hmz]
   exact Ia (vis:= []) (x:=0) (y:=0) O O
  refine lp (κ:=(List (List Bool)) × (List (Int × Int)) × (List (Int × Int)) × Int) (fun p=> [(2,ptr 2 b2 0),(3,ptr 3 b3 0),(7,osl 24 v24),(9,sl 2 pE p.2.2.1),(10,int p.2.2.2)]) (fun p=> [(2,cell b2 [sl 1 rE_ m.aC,sl 1 gE m.sT]),(3,cell b3 [sl 1 rE_ t.aC,sl 2 sE t.sT]),(24,own v24 90 1 cQ us),(231,aX us 4 1 blE p.1 none)]) (fun p=>p.1=mat m.sT.length t.sT.length p.2.1∧LI (iU m t) (jY m t) p.2.1 p.2.2.1∧0≤p.2.2.2∧p.2.2.2+((min p.2.2.1.length 1:Nat):Int)≤(p.2.1.length:Int)) (fun p=>m.sT.length*t.sT.length- p.2.1.length+min p.2.2.1.length 1) ⟨mt.set 0 ((ix mt 0).set 0 true),([(0,0)]:List (Int × Int)),([(0,0)]:List (Int × Int)),(0:Int)⟩ hI1_0 ⟨id,id,id,id,id,tV⟩ ⟨rI,rI,rI,rI,tV⟩ ?_
  intro⟨mt1,vis,now,dp⟩ hG1
  obtain⟨hmt1,hLI,hd0,hdp⟩:mt1=mat m.sT.length t.sT.length vis∧LI (iU m t) (jY m t) vis now∧0≤dp∧dp+((min now.length 1:Nat):Int)≤(vis.length:Int):=hG1
  show Ct _ _ _ _ [(2,ptr 2 b2 0),(3,ptr 3 b3 0),(7,osl 24 v24),(9,sl 2 pE now),(10,int dp)] [(2,cell b2 [sl 1 rE_ m.aC,sl 1 gE m.sT]),(3,cell b3 [sl 1 rE_ t.aC,sl 2 sE t.sT]),(24,own v24 90 1 cQ us),(231,aX us 4 1 blE mt1 none)] _
  have hv1:=kV m.sT.length t.sT.length vis hLI.nd (fun p hp=>nJ hm ht (hLI.rch p hp))
  have hml1:mt1.length=m.sT.length:=by rw[hmt1];exact CM _ _ _
  refine sq (sq (rg (mv (fc (aW 44 J) fun hm44=>(lnF J T.iX (bi J J gF (nl (th ?_))))))))
  refine cd J (fun hc1=> ?_) (fun hc1=> ?_)
  ·try simp at hc1
   refine sk (th (sq (bk (sq (rg (nw 11 80 2 pE (ag (rtg (key:=11) 11 J (nl (th (sq (sq (rg (mv (lnF J T.iX (mv (nl (th (bk ?_)))))))))))))))))))
   have hI2_0:0≤now.length:=by
    first|omega|simp
   have hI2_1:mt1=mat m.sT.length t.sT.length vis∧LI (iU m t) (jY m t) vis (now.drop 0++([]:List (Int × Int)))∧vis.length=vis.length+([]:List (Int × Int)).length:=by
    exact⟨hmt1,by simpa using hLI,rfl⟩
   refine lp (κ:=Nat × (List (List Bool)) × Value × (List (Int × Int)) × (List (Int × Int))) (fun p=> [(2,ptr 2 b2 0),(3,ptr 3 b3 0),(7,osl 24 v24),(9,sl 2 pE now),(10,int dp),(11,osl 11 p.2.2.1),(49,sl 2 pE now),(50,int (now.length:Int)),(51,int (p.1:Int))]) (fun p=> [(2,cell b2 [sl 1 rE_ m.aC,sl 1 gE m.sT]),(3,cell b3 [sl 1 rE_ t.aC,sl 2 sE t.sT]),(11,own p.2.2.1 80 2 pE p.2.2.2.1),(24,own v24 90 1 cQ us),(231,aX us 4 1 blE p.2.1 none)]) (fun p=>(p.1≤now.length)∧(p.2.1=mat m.sT.length t.sT.length p.2.2.2.2∧LI (iU m t) (jY m t) p.2.2.2.2 (now.drop p.1++p.2.2.2.1)∧p.2.2.2.2.length=vis.length+p.2.2.2.1.length)) (fun p=>now.length- p.1) ⟨0,mt1,(.slice none 0 0),([]:List (Int × Int)),vis⟩ ⟨hI2_0,hI2_1⟩ ⟨id,id,id,id,id,id,id,id,id,tV⟩ ⟨rI,rI,rI,rI,rI,tV⟩ ?_
   intro⟨k2,mt2,v9x,nx,vis2⟩ hG2
   obtain⟨hk2,⟨hmt2,hLI2,hvl2⟩⟩:(k2≤now.length)∧(mt2=mat m.sT.length t.sT.length vis2∧LI (iU m t) (jY m t) vis2 (now.drop k2++nx)∧vis2.length=vis.length+nx.length):=hG2
   show Ct _ _ _ _ [(2,ptr 2 b2 0),(3,ptr 3 b3 0),(7,osl 24 v24),(9,sl 2 pE now),(10,int dp),(11,osl 11 v9x),(49,sl 2 pE now),(50,int (now.length:Int)),(51,int (k2:Int))] [(2,cell b2 [sl 1 rE_ m.aC,sl 1 gE m.sT]),(3,cell b3 [sl 1 rE_ t.aC,sl 2 sE t.sT]),(11,own v9x 80 2 pE nx),(24,own v24 90 1 cQ us),(231,aX us 4 1 blE mt2 none)] _
   have hv2:=kV m.sT.length t.sT.length vis2 hLI2.nd (fun p hp=>nJ hm ht (hLI2.rch p hp))
   have hml2:mt2.length=m.sT.length:=by rw[hmt2];exact CM _ _ _
   refine sq (rg (bi J J aN (nl (th (sq ?_)))))
   refine cd J (fun hc2=> ?_) (fun hc2=> ?_)
   ·try simp at hc2
    have hpv:ix now k2∈vis2:=hLI2.opn _ (List.mem_append.2 (.inl (by rw[HZ O];exact List.mem_cons_self)))
    have hpr:=hLI2.rch _ hpv
    obtain⟨hp0,hp1,hp2,hp3⟩:=nJ hm ht hpr
    have hel:=hm.many (ix now k2).1.toNat O
    have hyl:=(ht.st (ix now k2).2.toNat O).len
    refine sk (th (sq (bk (sq (rg (iF J J T.iX O gB (lFA J T.eP (Nat.le_of_ble_eq_true J) (al (key:=13) T.z80 (eC (eC eZ)) fun b13=>(sPA (cs':= [int ((ix now k2).1),int ((ix now k2).2)]) J J J T.eP J J (nl (th (sq (sq (rg (lPA J J T.aZ J (lPA J J T.bK J (lPA J J T.eP J (bE (φs:= [agg [sl 1 rE_ m.aC,sl 1 gE m.sT],agg [sl 1 rE_ t.aC,sl 2 sE t.sT],agg [int ((ix now k2).1),int ((ix now k2).2)]]) (φ:=bl (xT t ((ix now k2).2) (bQ m ((ix now k2).1).toNat))) ⟨J,J,J,tV⟩ (divg.Sl m t ((ix now k2).1) ((ix now k2).2) aS O O O O) T.Va (no J (nl (th ?_)))))))))))))))))))))
    refine cd J (fun hc3=> ?_) (fun hc3=> ?_)
    ·skip
     have hbd:iU m t (ix now k2):=Classical.byContradiction fun h=>by have h2:=(FA hp2).2 h;simp[h2] at hc3
     refine sq (rg (mv (ag (kn 4 (sl 2 pE []) J slnil (ag (ag (nl (th (rt (rt_ (rb (rt_ (rt_ (rb (rt_ (rb (rt_ (rt_ (rb (rt_ ?_))))))))))))))))))))
     exact rE ⟨([],dp,false),⟨fun h=>absurd (show false=true from h) (by decide),fun h=>absurd ((Fx hm ht).2 h) (WB hLI2 hpv hbd)⟩⟩ [.tmp 4,.tmp 5,.tmp 6] J [sl 2 pE [],int dp,bl false] ⟨.tmp J,.tmp J,.tmp J,tV⟩ J trivial eX
    ·skip
     have hnb:¬iU m t (ix now k2):=(FA hp2).1 (by simpa using hc3)
     refine sk (th (sq (rg (fP J T.bN (lP J J J T.cH (iPA J J T.gZ T.aD J (lP J J J T.aD (iF J J T.eB O gB (lF J J T.fB (fc (aW 66 J) fun hm66=>(lnF J T.cC (mv (nl (th (bk ?_)))))))))))))))
     have hI3_0:0≤(ix m.sT ((ix now k2).1).toNat).length:=by
      first|omega|simp
     have hI3_1:mt2=mat m.sT.length t.sT.length vis2∧LI (iU m t) (jY m t) vis2 (now.drop k2++nx)∧vis2.length=vis.length+nx.length∧∀j,j<0→((ix (ix m.sT (ix now k2).1.toNat) j).2,ix (ix t.sT (ix now k2).2.toNat).next (ix (ix m.sT (ix now k2).1.toNat) j).1.toNat)∈vis2:=by
      exact⟨hmt2,hLI2,hvl2,fun a ha=>absurd ha O⟩
     refine lp (κ:=Nat × (List (List Bool)) × Value × (List (Int × Int)) × (List (Int × Int))) (fun p=> [(2,ptr 2 b2 0),(3,ptr 3 b3 0),(7,osl 24 v24),(9,sl 2 pE now),(10,int dp),(11,osl 11 p.2.2.1),(13,ptr 13 b13 0),(49,sl 2 pE now),(50,int (now.length:Int)),(51,int (k2:Int)),(66,sl 2 pE (ix m.sT ((ix now k2).1).toNat)),(67,int ((ix m.sT ((ix now k2).1).toNat).length:Int)),(68,int (p.1:Int))]) (fun p=> [(2,cell b2 [sl 1 rE_ m.aC,sl 1 gE m.sT]),(3,cell b3 [sl 1 rE_ t.aC,sl 2 sE t.sT]),(11,own p.2.2.1 80 2 pE p.2.2.2.1),(13,cell b13 [int ((ix now k2).1),int ((ix now k2).2)]),(24,own v24 90 1 cQ us),(231,aX us 4 1 blE p.2.1 none)]) (fun p=>(p.1≤(ix m.sT ((ix now k2).1).toNat).length)∧(p.2.1=mat m.sT.length t.sT.length p.2.2.2.2∧LI (iU m t) (jY m t) p.2.2.2.2 (now.drop k2++p.2.2.2.1)∧p.2.2.2.2.length=vis.length+p.2.2.2.1.length∧∀j,j<p.1→((ix (ix m.sT (ix now k2).1.toNat) j).2,ix (ix t.sT (ix now k2).2.toNat).next (ix (ix m.sT (ix now k2).1.toNat) j).1.toNat)∈p.2.2.2.2)) (fun p=>(ix m.sT ((ix now k2).1).toNat).length- p.1) ⟨0,mt2,v9x,nx,vis2⟩ ⟨hI3_0,hI3_1⟩ ⟨id,id,id,id,id,id,id,id,id,id,id,id,id,tV⟩ ⟨rI,rI,rI,rI,rI,rI,tV⟩ ?_
     intro⟨k3,mt3,v9y,nx3,vis3⟩ hG3
     obtain⟨hk3,⟨hmt3,hLI3,hvl3,hdn⟩⟩:(k3≤(ix m.sT ((ix now k2).1).toNat).length)∧(mt3=mat m.sT.length t.sT.length vis3∧LI (iU m t) (jY m t) vis3 (now.drop k2++nx3)∧vis3.length=vis.length+nx3.length∧∀j,j<k3→((ix (ix m.sT (ix now k2).1.toNat) j).2,ix (ix t.sT (ix now k2).2.toNat).next (ix (ix m.sT (ix now k2).1.toNat) j).1.toNat)∈vis3):=hG3
     show Ct _ _ _ _ [(2,ptr 2 b2 0),(3,ptr 3 b3 0),(7,osl 24 v24),(9,sl 2 pE now),(10,int dp),(11,osl 11 v9y),(13,ptr 13 b13 0),(49,sl 2 pE now),(50,int (now.length:Int)),(51,int (k2:Int)),(66,sl 2 pE (ix m.sT ((ix now k2).1).toNat)),(67,int ((ix m.sT ((ix now k2).1).toNat).length:Int)),(68,int (k3:Int))] [(2,cell b2 [sl 1 rE_ m.aC,sl 1 gE m.sT]),(3,cell b3 [sl 1 rE_ t.aC,sl 2 sE t.sT]),(11,own v9y 80 2 pE nx3),(13,cell b13 [int ((ix now k2).1),int ((ix now k2).2)]),(24,own v24 90 1 cQ us),(231,aX us 4 1 blE mt3 none)] _
     have hv3:=kV m.sT.length t.sT.length vis3 hLI3.nd (fun p hp=>nJ hm ht (hLI3.rch p hp))
     have hml3:mt3.length=m.sT.length:=by rw[hmt3];exact CM _ _ _
     refine sq (rg (bi J J aN (nl (th (sq ?_)))))
     refine cd J (fun hc4=> ?_) (fun hc4=> ?_)
     ·try simp at hc4
      have hein:(ix (ix m.sT (ix now k2).1.toNat) k3)∈edg m (ix now k2).1.toNat:=aR (l:=(ix m.sT (ix now k2).1.toNat)) O
      have hes:=hm.ed _ O _ hein
      have hga:=pF hm ht (x:=(ix now k2).1.toNat) (y:=(ix now k2).2.toNat) O O (Classical.byContradiction hnb) hein
      obtain⟨hga1,hga2,hga3⟩:=hga
      dsimp only [nxt] at hga2 hga3
      have hrq:Rch (iU m t) (jY m t) ((ix (ix m.sT (ix now k2).1.toNat) k3).2,ix (ix t.sT (ix now k2).2.toNat).next (ix (ix m.sT (ix now k2).1.toNat) k3).1.toNat):=Rch.step hpr hnb ⟨_,hein,rfl⟩
      have hrl:(ix mt3 (ix (ix m.sT (ix now k2).1.toNat) k3).2.toNat).length=t.sT.length:=by rw[hmt3];exact wA O
      have hmq:ix (ix mt3 (ix (ix m.sT (ix now k2).1.toNat) k3).2.toNat) (ix (ix t.sT (ix now k2).2.toNat).next (ix (ix m.sT (ix now k2).1.toNat) k3).1.toNat).toNat=decide (((ix (ix m.sT (ix now k2).1.toNat) k3).2,ix (ix t.sT (ix now k2).2.toNat).next (ix (ix m.sT (ix now k2).1.toNat) k3).1.toNat)∈vis3):=by
       rw[hmt3,UY O O,Int.toNat_of_nonneg O,Int.toNat_of_nonneg O]
      refine sk (th (sq (bk (sq (rg (iF J J T.cC O gB (lFA J T.bY (Nat.le_of_ble_eq_true J) (al (key:=15) T.z94 (eC (eC eZ)) fun b15=>(sPA (cs':= [int ((ix (ix m.sT ((ix now k2).1).toNat) k3).1),int ((ix (ix m.sT ((ix now k2).1).toNat) k3).2)]) J J J T.bY J J (nl (th (sq ?_))))))))))))
      refine drH (nh:=16) [0,1,0,4,0,16,60,124,252,0,512,2044,4092,8191,0,32767] [(none,[]),(none,[15]),(none,[]),(none,[3]),(none,[]),(none,[13]),(none,[]),(none,[]),(none,[]),(none,[]),(none,[15]),(none,[]),(none,[]),(none,[]),(some 16,[]),(some 16,[16])] T.mixed kR kR ?_
      refine stv (d:=72) (fun β0=>ptr 15 b15 1) [] J bH (fun β0 _ _ _ _ gq gh kq=>fP (gq.1.trans J) T.cS kq) ?_
      refine stv (d:=73) (fun β0=>int ((ix (ix m.sT ((ix now k2).1).toNat) k3).2)) [15] J bH (fun β0 _ _ _ _ gq gh kq=>lP (gq.1.trans J) (gh.1.trans J) J T.aD kq) ?_
      refine stv (d:=74) (fun β0=>ptr 3 b3 1) [] J bH (fun β0 _ _ _ _ gq gh kq=>fP (gq.1.trans J) T.bP kq) ?_
      refine stv (d:=75) (fun β0=>sl 2 sE t.sT) [3] J bH (fun β0 _ _ _ _ gq gh kq=>lP (gq.1.trans J) (gh.1.trans J) J T.cO kq) ?_
      refine stv (d:=76) (fun β0=>ptr 13 b13 1) [] J bH (fun β0 _ _ _ _ gq gh kq=>iPA (gq.1.trans J) J T.gZ T.aD J kq) ?_
      refine stv (d:=77) (fun β0=>int ((ix now k2).2)) [13] J bH (fun β0 _ _ _ _ gq gh kq=>lP (gq.1.trans J) (gh.1.trans J) J T.aD kq) ?_
      refine stv (d:=78) (fun β0=>fp [sl 1 nE (ix t.sT ((ix now k2).2).toNat).aP,sl 1 nE (ix t.sT ((ix now k2).2).toNat).next]) [] J bH (fun β0 _ _ _ _ gq gh kq=>iF (gq.1.trans J) (gq.2.1.trans J) T.dI O gB kq) ?_
      refine stv (d:=79) (fun β0=>fp [sl 1 nE (ix t.sT ((ix now k2).2).toNat).next]) [] J bH (fun β0 _ _ _ _ gq gh kq=>fF (gq.1.trans J) T.eG kq) ?_
      refine stv (d:=80) (fun β0=>sl 1 nE (ix t.sT ((ix now k2).2).toNat).next) [] J bH (fun β0 _ _ _ _ gq gh kq=>lF (gq.1.trans J) J T.bG kq) ?_
      refine stv (d:=81) (fun β0=>ptr 15 b15 0) [] J bH (fun β0 _ _ _ _ gq gh kq=>fP (gq.1.trans J) T.cR kq) ?_
      refine stv (d:=82) (fun β0=>int ((ix (ix m.sT ((ix now k2).1).toNat) k3).1)) [15] J bH (fun β0 _ _ _ _ gq gh kq=>lP (gq.1.trans J) (gh.1.trans J) J T.aD kq) ?_
      refine stv (d:=83) (fun β0=>fp [int (ix (ix t.sT ((ix now k2).2).toNat).next ((ix (ix m.sT ((ix now k2).1).toNat) k3).1).toNat)]) [] J bH (fun β0 _ _ _ _ gq gh kq=>iF (gq.1.trans J) (gq.2.1.trans J) T.aU O gB kq) ?_
      refine stv (d:=84) (fun β0=>int (ix (ix t.sT ((ix now k2).2).toNat).next ((ix (ix m.sT ((ix now k2).1).toNat) k3).1).toNat)) [] J bH (fun β0 _ _ _ _ gq gh kq=>lF (gq.1.trans J) J T.aD kq) ?_
      refine stv (d:=85) (fun β0=>agg [int ((ix (ix m.sT ((ix now k2).1).toNat) k3).2),int (ix (ix t.sT ((ix now k2).2).toNat).next ((ix (ix m.sT ((ix now k2).1).toNat) k3).1).toNat)]) [] J bH (fun β0 _ _ _ _ gq gh kq=>bd (css:= [(0,_),(1,_)]) T.rX (eC (eC eZ)) ⟨J,J,p1 (φ:=int ((ix (ix m.sT ((ix now k2).1).toNat) k3).2)) (by exact(gq.1.trans J)),⟨J,J,p1 (φ:=int (ix (ix t.sT ((ix now k2).2).toNat).next ((ix (ix m.sT ((ix now k2).1).toNat) k3).1).toNat)) (by exact(gq.2.1.trans J)),tV⟩⟩ kq) ?_
      refine sta 16 T.z80 (eC (eC eZ)) ?_
      refine stw 16 (fun β0=>cell (gbk (β0 14)) [int ((ix (ix m.sT ((ix now k2).1).toNat) k3).2),int (ix (ix t.sT ((ix now k2).2).toNat).next ((ix (ix m.sT ((ix now k2).1).toNat) k3).1).toNat)]) [16] J (fun β β' hb=>by first|rw[hb 14 J]|(dsimp only;rw[hb 14 J])) (fun β0 _ _ _ _ gq gh kq=>sPA (cs':= [int ((ix (ix m.sT ((ix now k2).1).toNat) k3).2),int (ix (ix t.sT ((ix now k2).2).toNat).next ((ix (ix m.sT ((ix now k2).1).toNat) k3).1).toNat)]) (gq.1.trans J) (gh.1.trans J) (gq.2.1.trans J) T.eP J J kq) ?_
      refine pnH fun β0=>(nl (th (sq (Ac 231 2310 ((ix (ix m.sT (ix now k2).1.toNat) k3).2.toNat) J J (by decide) (gK O) (gK O) (dr (nh:=10) [0,0,2,7,15,0,32,127,255,511] T.mixed kR ?_)))))
      refine st_ J (fun _ _ _ gq kq=>mv' (gq.1.trans J) kq) ?_
      refine st_ J (fun _ _ _ gq kq=>iPA (gq.1.trans J) J T.gZ T.aD J kq) ?_
      refine st_ J (fun _ _ _ gq kq=>lP (gq.1.trans J) J J T.aD kq) ?_
      refine st_ J (fun _ _ _ gq kq=>iO (gq.1.trans J) J (gq.2.1.trans J) T.iH O O kq) ?_
      refine st_ J (fun _ _ _ gq kq=>lO (gq.1.trans J) J gB J T.fV kq) ?_
      refine st_ J (fun _ _ _ gq kq=>iPA (gq.1.trans J) J T.gZ T.aD J kq) ?_
      refine st_ J (fun _ _ _ gq kq=>lP (gq.1.trans J) J J T.aD kq) ?_
      refine st_ J (fun _ _ _ gq kq=>iO ((gq.1.trans J).trans (eD (key:=2310)).symm) J (gq.2.1.trans J) T.fQ O O kq) ?_
      refine st_ J (fun _ _ _ gq kq=>lO (gq.1.trans J) J gB J T.eH kq) ?_
      refine st_ J (fun _ _ _ gq kq=>no (gq.1.trans J) kq) ?_
      refine pn (nl (th ?_))
      refine cd J (fun hc5=> ?_) (fun hc5=> ?_)
      ·skip
       have hnq:((ix (ix m.sT (ix now k2).1.toNat) k3).2,ix (ix t.sT (ix now k2).2.toNat).next (ix (ix m.sT (ix now k2).1.toNat) k3).1.toNat)∉vis3:=by
        intro h
        rw[hmq] at hc5
        simp[h] at hc5
       refine sq (dr (nh:=8) [0,0,2,7,15,0,32,127,255] T.mixed kR ?_)
       refine st_ J (fun _ _ _ gq kq=>mv' (gq.1.trans J) kq) ?_
       refine st_ J (fun _ _ _ gq kq=>iPA (gq.1.trans J) J T.gZ T.aD J kq) ?_
       refine st_ J (fun _ _ _ gq kq=>lP (gq.1.trans J) J J T.aD kq) ?_
       refine st_ J (fun _ _ _ gq kq=>iO (gq.1.trans J) J (gq.2.1.trans J) T.iH O O kq) ?_
       refine st_ J (fun _ _ _ gq kq=>lO (gq.1.trans J) J gB J T.fV kq) ?_
       refine st_ J (fun _ _ _ gq kq=>iPA (gq.1.trans J) J T.gZ T.aD J kq) ?_
       refine st_ J (fun _ _ _ gq kq=>lP (gq.1.trans J) J J T.aD kq) ?_
       refine st_ J (fun _ _ _ gq kq=>iO ((gq.1.trans J).trans (eD (key:=2310)).symm) J (gq.2.1.trans J) T.fQ O O kq) ?_
       refine pn (sO (φ:=bl true) J J J T.eH gB J (y':=true) J (nl (th (rg (gvU 231 2310 ((ix (ix m.sT (ix now k2).1.toNat) k3).2.toNat) J J (by decide) (gK O) (mv (lPA J J T.eP J (bs (css:= [[int ((ix (ix m.sT ((ix now k2).1).toNat) k3).2),int (ix (ix t.sT ((ix now k2).2).toNat).next ((ix (ix m.sT ((ix now k2).1).toNat) k3).1).toNat)]]) T.mJ ⟨J,J,pA (cs:= [int ((ix (ix m.sT ((ix now k2).1).toNat) k3).2),int (ix (ix t.sT ((ix now k2).2).toNat).next ((ix (ix m.sT ((ix now k2).1).toNat) k3).1).toNat)]) J,tV⟩ J J J (ap (key:=11) (zs:= [((ix (ix m.sT ((ix now k2).1).toNat) k3).2,ix (ix t.sT ((ix now k2).2).toNat).next ((ix (ix m.sT ((ix now k2).1).toNat) k3).1).toNat)]) cD J J J T.mJ (by unfold aT at*;simp;omega) (by unfold aT at*;simp;omega) fun v107=>(ag (nl (eb (th (rg (bi J J (aK i6) (mv (nl ?_)))))))))))))))))
       have hN0:(k3+1)≤(ix m.sT ((ix now k2).1).toNat).length:=by
        first|omega|simp_all
       have hN1:(mt3.set ((ix (ix m.sT (ix now k2).1.toNat) k3).2.toNat) ((ix mt3 ((ix (ix m.sT (ix now k2).1.toNat) k3).2.toNat)).set (ix (ix t.sT ((ix now k2).2).toNat).next ((ix (ix m.sT ((ix now k2).1).toNat) k3).1).toNat).toNat true))=mat m.sT.length t.sT.length (vis3++ [((ix (ix m.sT (ix now k2).1.toNat) k3).2,ix (ix t.sT (ix now k2).2.toNat).next (ix (ix m.sT (ix now k2).1.toNat) k3).1.toNat)])∧LI (iU m t) (jY m t) (vis3++ [((ix (ix m.sT (ix now k2).1.toNat) k3).2,ix (ix t.sT (ix now k2).2.toNat).next (ix (ix m.sT (ix now k2).1.toNat) k3).1.toNat)]) (now.drop k2++(nx3++ [((ix (ix m.sT ((ix now k2).1).toNat) k3).2,ix (ix t.sT ((ix now k2).2).toNat).next ((ix (ix m.sT ((ix now k2).1).toNat) k3).1).toNat)]))∧(vis3++ [((ix (ix m.sT (ix now k2).1.toNat) k3).2,ix (ix t.sT (ix now k2).2.toNat).next (ix (ix m.sT (ix now k2).1.toNat) k3).1.toNat)]).length=vis.length+(nx3++ [((ix (ix m.sT ((ix now k2).1).toNat) k3).2,ix (ix t.sT ((ix now k2).2).toNat).next ((ix (ix m.sT ((ix now k2).1).toNat) k3).1).toNat)]).length∧∀j,j<(k3+1)→((ix (ix m.sT (ix now k2).1.toNat) j).2,ix (ix t.sT (ix now k2).2.toNat).next (ix (ix m.sT (ix now k2).1.toNat) j).1.toNat)∈(vis3++ [((ix (ix m.sT (ix now k2).1.toNat) k3).2,ix (ix t.sT (ix now k2).2.toNat).next (ix (ix m.sT (ix now k2).1.toNat) k3).1.toNat)]):=by
        refine⟨?_,?_,by simp;omega,fun a ha=> ?_⟩
        ·have hms:=Ia (n:=m.sT.length) (m:=t.sT.length) (vis:=vis3) (x:=(ix (ix m.sT (ix now k2).1.toNat) k3).2.toNat) (y:=(ix (ix t.sT (ix now k2).2.toNat).next (ix (ix m.sT (ix now k2).1.toNat) k3).1.toNat).toNat) O O
         rw[Int.toNat_of_nonneg O,Int.toNat_of_nonneg O,←hmt3] at hms
         exact hms
        ·have:=Sk hLI3 hnq hrq
         rwa [List.append_assoc] at this
        ·by_cases e:a=k3
         ·subst e;exact List.mem_append.2 (.inr (List.mem_singleton.2 rfl))
         ·exact List.mem_append.2 (.inl (hdn a O))
       exact ln (⟨k3+1,mt3.set ((ix (ix m.sT (ix now k2).1.toNat) k3).2.toNat) ((ix mt3 ((ix (ix m.sT (ix now k2).1.toNat) k3).2.toNat)).set (ix (ix t.sT ((ix now k2).2).toNat).next ((ix (ix m.sT ((ix now k2).1).toNat) k3).1).toNat).toNat true),v107,nx3++ [((ix (ix m.sT ((ix now k2).1).toNat) k3).2,ix (ix t.sT ((ix now k2).2).toNat).next ((ix (ix m.sT ((ix now k2).1).toNat) k3).1).toNat)],vis3++ [((ix (ix m.sT (ix now k2).1.toNat) k3).2,ix (ix t.sT (ix now k2).2.toNat).next (ix (ix m.sT (ix now k2).1.toNat) k3).1.toNat)]⟩:Nat × (List (List Bool)) × Value × (List (Int × Int)) × (List (Int × Int))) ⟨hN0,hN1⟩ dO ⟨id,id,id,id,id,id,id,id,id,id,id,id,id,tV⟩ ⟨rI,rI,rI,rI,rI,rI,tV⟩
      ·skip
       have hyq:((ix (ix m.sT (ix now k2).1.toNat) k3).2,ix (ix t.sT (ix now k2).2.toNat).next (ix (ix m.sT (ix now k2).1.toNat) k3).1.toNat)∈vis3:=by
        rw[hmq] at hc5
        simpa using hc5
       refine XB 231 2310 ((ix (ix m.sT (ix now k2).1.toNat) k3).2.toNat) rfl rfl (by decide) (gK O) (gK O) (sk (eb (th (rg (bi rfl rfl (aK i6) (mv (nl ?_)))))))
       have hN0:(k3+1)≤(ix m.sT ((ix now k2).1).toNat).length:=by
        first|omega|simp_all
       have hN1:mt3=mat m.sT.length t.sT.length vis3∧LI (iU m t) (jY m t) vis3 (now.drop k2++nx3)∧vis3.length=vis.length+nx3.length∧∀j,j<(k3+1)→((ix (ix m.sT (ix now k2).1.toNat) j).2,ix (ix t.sT (ix now k2).2.toNat).next (ix (ix m.sT (ix now k2).1.toNat) j).1.toNat)∈vis3:=by
        refine⟨hmt3,hLI3,hvl3,fun a ha=> ?_⟩
        by_cases e:a=k3
        ·subst e;exact hyq
        ·exact hdn a O
       exact ln (⟨k3+1,mt3,v9y,nx3,vis3⟩:Nat × (List (List Bool)) × Value × (List (Int × Int)) × (List (Int × Int))) ⟨hN0,hN1⟩ dO ⟨id,id,id,id,id,id,id,id,id,id,id,id,id,tV⟩ ⟨rI,rI,rI,rI,rI,rI,tV⟩
     ·try simp at hc4
      refine ex (xt_ (xt_ (xb (eb (th (rg (bi J J (aK i6) (mv (nl ?_)))))))))
      have hN0:(k2+1)≤now.length:=by
       first|omega|simp_all
      have hN1:mt3=mat m.sT.length t.sT.length vis3∧LI (iU m t) (jY m t) vis3 (now.drop (k2+1)++nx3)∧vis3.length=vis.length+nx3.length:=by
       refine⟨hmt3,?_,hvl3⟩
       have h3:=hLI3
       rw[HZ O] at h3
       refine UW h3 ⟨hnb,?_⟩
       rintro _ ⟨e,he,rfl⟩
       obtain⟨j,hj,rfl⟩:=List.getElem_of_mem he
       have hj2:j<(ix m.sT (ix now k2).1.toNat).length:=hj
       have:=hdn j O
       rw[aH hj] at this
       exact this
      exact ln (⟨k2+1,mt3,v9y,nx3,vis3⟩:Nat × (List (List Bool)) × Value × (List (Int × Int)) × (List (Int × Int))) ⟨hN0,hN1⟩ dO ⟨id,id,id,id,id,id,id,id,id,tV⟩ ⟨rI,rI,rI,rI,rI,tV⟩
   ·try simp at hc2
    refine ex (xt_ (xt_ (xb (th (rg (fz 11 11 J J (mv (ag (nl (eb (th (rg (mv (bi J J (aK i6) (ag (nl ?_))))))))))))))))
    have hN0:mt2=mat m.sT.length t.sT.length vis2∧LI (iU m t) (jY m t) vis2 nx∧0≤(dp+1)∧(dp+1)+((min nx.length 1:Nat):Int)≤(vis2.length:Int):=by
     refine⟨hmt2,?_,O,?_⟩
     ·rw[show now.drop k2= [] from List.drop_eq_nil_of_le O] at hLI2
      simpa using hLI2
     ·omega
    exact ln (⟨mt2,vis2,nx,dp+1⟩:(List (List Bool)) × (List (Int × Int)) × (List (Int × Int)) × Int) hN0 dO ⟨id,id,id,id,id,tV⟩ ⟨rI,rI,rI,rI,tV⟩
  ·try simp at hc1
   refine ex (xt_ (xt_ (xb (th (sq (rg (nw 17 80 2 pE (ag (rtg (key:=17) 17 J (nl (th (sq (sq (rg (mv (lnO J J T.iH (mv (nl (th (bk ?_))))))))))))))))))))
   have hI4_0:0≤us.length:=by
    first|omega|simp
   have hI4_1:([]:List (Int × Int)).length≤0*t.sT.length:=by
    exact Nat.zero_le _
   refine lp (κ:=Nat × Value × (List (Int × Int))) (fun p=> [(7,osl 24 v24),(17,osl 17 p.2.1),(112,int (us.length:Int)),(113,int (p.1:Int))]) (fun p=> [(2,cell b2 [sl 1 rE_ m.aC,sl 1 gE m.sT]),(3,cell b3 [sl 1 rE_ t.aC,sl 2 sE t.sT]),(17,own p.2.1 80 2 pE p.2.2),(24,own v24 90 1 cQ us),(231,aX us 4 1 blE mt1 none)]) (fun p=>(p.1≤us.length)∧(p.2.2.length≤p.1*t.sT.length)) (fun p=>us.length- p.1) ⟨0,(.slice none 0 0),([]:List (Int × Int))⟩ ⟨hI4_0,hI4_1⟩ ⟨id,id,id,id,tV⟩ ⟨rI,rI,rI,rI,rI,tV⟩ ?_
   intro⟨k4,v17x,ps⟩ hG4
   obtain⟨hk4,hps⟩:(k4≤us.length)∧(ps.length≤k4*t.sT.length):=hG4
   show Ct _ _ _ _ [(7,osl 24 v24),(17,osl 17 v17x),(112,int (us.length:Int)),(113,int (k4:Int))] [(2,cell b2 [sl 1 rE_ m.aC,sl 1 gE m.sT]),(3,cell b3 [sl 1 rE_ t.aC,sl 2 sE t.sT]),(17,own v17x 80 2 pE ps),(24,own v24 90 1 cQ us),(231,aX us 4 1 blE mt1 none)] _
   refine sq (rg (bi J J aN (nl (th (sq ?_)))))
   refine cd J (fun hc6=> ?_) (fun hc6=> ?_)
   ·try simp at hc6
    have hr4:(ix mt1 k4).length=t.sT.length:=by rw[hmt1];exact wA O
    have hkm:k4*t.sT.length+t.sT.length≤m.sT.length*t.sT.length:=by rw[←Nat.succ_mul];exact Nat.mul_le_mul_right _ O
    refine sk (th (sq (bk (sq (rg (mv (ag (nl (th (sq (rg (mv (mv (iO J J J T.iH O O (lO J J gB J T.fV (tkB 231 2320 k4 J J (by decide) (gK O) (gK O) (kn 119 (osl 2320 (ix us k4)) J dH (lnO J J T.fQ (mv (nl (th (bk ?_))))))))))))))))))))))
    have hI5_0:0≤(ix mt1 k4).length:=by
     first|omega|simp
    have hI5_1:ps.length≤k4*t.sT.length+0:=by
     exact hps
    refine lp (κ:=Nat × Value × (List (Int × Int))) (fun p=> [(7,osl 24 v24),(17,osl 17 p.2.1),(18,int (k4:Int)),(112,int (us.length:Int)),(113,int (k4:Int)),(119,osl 2320 (ix us k4)),(120,int ((ix mt1 k4).length:Int)),(121,int (p.1:Int))]) (fun p=> [(2,cell b2 [sl 1 rE_ m.aC,sl 1 gE m.sT]),(3,cell b3 [sl 1 rE_ t.aC,sl 2 sE t.sT]),(17,own p.2.1 80 2 pE p.2.2),(24,own v24 90 1 cQ us),(231,aX us 4 1 blE mt1 (some k4)),(2320,own (ix us k4) 4 1 blE (ix mt1 k4))]) (fun p=>(p.1≤(ix mt1 k4).length)∧(p.2.2.length≤k4*t.sT.length+p.1)) (fun p=>(ix mt1 k4).length- p.1) ⟨0,v17x,ps⟩ ⟨hI5_0,hI5_1⟩ ⟨id,id,id,id,id,id,id,id,tV⟩ ⟨rI,rI,rI,rI,rI,rI,tV⟩ ?_
    intro⟨k5,v17y,ps5⟩ hG5
    obtain⟨hk5,hps5⟩:(k5≤(ix mt1 k4).length)∧(ps5.length≤k4*t.sT.length+k5):=hG5
    show Ct _ _ _ _ [(7,osl 24 v24),(17,osl 17 v17y),(18,int (k4:Int)),(112,int (us.length:Int)),(113,int (k4:Int)),(119,osl 2320 (ix us k4)),(120,int ((ix mt1 k4).length:Int)),(121,int (k5:Int))] [(2,cell b2 [sl 1 rE_ m.aC,sl 1 gE m.sT]),(3,cell b3 [sl 1 rE_ t.aC,sl 2 sE t.sT]),(17,own v17y 80 2 pE ps5),(24,own v24 90 1 cQ us),(231,aX us 4 1 blE mt1 (some k4)),(2320,own (ix us k4) 4 1 blE (ix mt1 k4))] _
    refine sq (rg (bi J J aN (nl (th (sq ?_)))))
    refine cd J (fun hc7=> ?_) (fun hc7=> ?_)
    ·try simp at hc7
     refine sk (th (sq (bk (sq (rg (mv (iO J J J T.fQ O O (lO J J gB J T.eH (ag (ag (nl (th (sq (rg (mv (nl (th ?_)))))))))))))))))
     refine cd J (fun hc8=> ?_) (fun hc8=> ?_)
     ·try simp at hc8
      refine rg (mv (mv (mv (bd (css:= [(0,_),(1,_)]) T.rX (eC (eC eZ)) ⟨J,J,p1 (φ:=int (k4:Int)) J,⟨J,J,p1 (φ:=int (k5:Int)) J,tV⟩⟩ (bs (css:= [[int (k4:Int),int (k5:Int)]]) T.mJ ⟨J,J,pA (cs:= [int (k4:Int),int (k5:Int)]) J,tV⟩ J J J (ap (key:=17) (zs:= [((k4:Int),(k5:Int))]) cD J J J T.mJ (by unfold aT at*;simp;omega) (by unfold aT at*;simp;omega) fun v132=>(ag (nl (eb (th (rg (bi J J (aK i6) (mv (nl ?_))))))))))))))
      have hN0:(k5+1)≤(ix mt1 k4).length:=by
       first|omega|simp_all
      have hN1:(ps5++ [((k4:Int),(k5:Int))]).length≤k4*t.sT.length+(k5+1):=by
       simp;omega
      exact ln (⟨k5+1,v132,ps5++ [((k4:Int),(k5:Int))]⟩:Nat × Value × (List (Int × Int))) ⟨hN0,hN1⟩ dO ⟨id,id,id,id,id,id,id,id,tV⟩ ⟨rI,rI,rI,rI,rI,rI,tV⟩
     ·try simp at hc8
      refine sk (eb (th (rg (bi J J (aK i6) (mv (nl ?_))))))
      have hN0:(k5+1)≤(ix mt1 k4).length:=by
       first|omega|simp_all
      have hN1:ps5.length≤k4*t.sT.length+(k5+1):=by
       omega
      exact ln (⟨k5+1,v17y,ps5⟩:Nat × Value × (List (Int × Int))) ⟨hN0,hN1⟩ dO ⟨id,id,id,id,id,id,id,id,tV⟩ ⟨rI,rI,rI,rI,rI,rI,tV⟩
    ·try simp at hc7
     refine ex (xt_ (xt_ (xb (eb (th (rg (gvS 231 2320 k4 J J (by decide) (gK O) (gK O) (bi J J (aK i6) (mv (nl ?_))))))))))
     have hN0:(k4+1)≤us.length:=by
      first|omega|simp_all
     have hN1:ps5.length≤(k4+1)*t.sT.length:=by
      rw[Nat.succ_mul];omega
     exact ln (⟨k4+1,v17y,ps5⟩:Nat × Value × (List (Int × Int))) ⟨hN0,hN1⟩ dO ⟨id,id,id,id,tV⟩ ⟨rI,rI,rI,rI,rI,tV⟩
   ·try simp at hc6
    refine ex (xt_ (xt_ (xb (th (sq (rg (fz 17 17 J J (mv (ag (ag (ag (nl (th (rt ?_))))))))))))))
    exact rE ⟨(ps,0,true),⟨fun _=>(Fx hm ht).1 (UX (by rw[show now= [] from by first|exact hc1|exact List.eq_nil_of_length_eq_zero O] at hLI;exact hLI)),fun _=>J⟩⟩ [.tmp 4,.tmp 5,.tmp 6] J [sl 2 pE ps,int 0,bl true] ⟨.tmp J,.tmp J,.tmp J,tV⟩ J trivial eX
theorem FB (m:aA) (t:SS) (hm:aY m) (ht:oK t):
 Fn0 Tryz.prog 34 [sys m,spec t] (bl (xU m t)):=by
 refine fnI Tryz.func34 rfl rfl (fun w0 F0=> ?_)
 refine fcC (cE 0 J) (fun hS0=> ?_)
 obtain⟨hma0,hms0,hme0⟩:=cG hS0
 refine fcC (cE 1 J) (fun hS1=> ?_)
 obtain⟨hsa1,hss1,hse1⟩:=sLn hS1
 refine sq (rg (bx (key:=2) (cs:= [sl 1 rE_ m.aC,sl 1 gE m.sT]) J fun b2=>(bx (key:=3) (cs:= [sl 1 rE_ t.aC,sl 2 sE t.sT]) J fun b3=>(ag (nl (th (sq (rg (lPA J J T.aZ J (lPA J J T.bK J (cl (divg.OH m t aS aS) T.WG trivial fun N11 i11=>(mv (xt J J (xt J J (xt J J (ag (ag (ag (nl (th (sq (rg (mv (ag (nl (th (rt ?_)))))))))))))))))))))))))))
 have hr0:i11.1.2.2=(xU m t):=by
  rw[Bool.eq_iff_iff,Fy];exact i11.2
 exact rE () [.tmp 4] J [bl i11.1.2.2] ⟨.tmp J,tV⟩ (cA1 (fun x0=>rV [bl x0]) hr0) trivial eX
end divg
end
section
namespace WitSat
open ref01 ref03 ref04 ref06 Part Rungs LeftM TrimM BisM BisM5 BisM6 WalkM StepM WitM JudgM
variable {T:SS} {want:List PP} {ss:List (List Int)} {q:List PP} {mm:List (PP × Int)} {m:aA}
end WitSat
end
section
namespace WitVal
open ref01 ref03 ref04 ref06 Part Rungs LeftM TrimM BisM BisM5 BisM6 WalkM StepM WitM JudgM WitSat sysw
variable {T:SS} {want:List PP} {ss:List (List Int)} {q:List PP} {mm:List (PP × Int)} {m:aA}
theorem DI {α β:Type} {f:α→β}:∀{l:List α},l.Nodup→(∀a∈l,∀b∈l,f a=f b→a=b)→(l.map f).Nodup
 | [],_,_=>by simp
 |a::l,h,hf=>by
  rw[List.map_cons,List.nodup_cons]
  obtain⟨h1,h2⟩:=List.nodup_cons.1 h
  refine⟨fun hm=> ?_,DI h2 fun x hx y hy=>hf x (List.mem_cons_of_mem _ hx) y (List.mem_cons_of_mem _ hy)⟩
  obtain⟨b,hb,e⟩:=List.mem_map.1 hm
  rw[hf b (List.mem_cons_of_mem _ hb) a List.mem_cons_self e] at hb
  exact h1 hb
theorem FC {l:List (List PP)} {K:Nat}:(∀x∈l,x.length≤K)→bX l≤l.length*K:=by
 induction l with
 |nil=>intro _;simp[bX]
 |cons a l ih=>
  intro h
  have:=ih fun x hx=>h x (List.mem_cons_of_mem _ hx)
  have h0:=h a List.mem_cons_self
  rw[List.length_cons,Nat.succ_mul]
  unfold bX at this ⊢
  rw[List.map_cons,List.sum_cons]
  omega
end WitVal
end
section
namespace BisS
open ref01 ref03 ref04 ref06 Part Rungs LeftM TrimM MergeM RoundM BisM BisM4 BisM5 BisM6
structure BB (S D:SS) (R:Nat→Nat→Prop):Prop where
 bis:Bis S D R
 bd:∀{x y},R x y→x<S.sT.length∧y<D.sT.length
structure xV {α:Type} [DecidableEq α] [Inhabited α] (A:α→List Int) (N:α→Nat→α) (n:Nat) (z:α) (l:List α) (D:SS):Prop where
 len:D.sT.length=l.length
 nd:l.Nodup
 ne:0<l.length
 hd:ix l 0=z
 acc:∀i,i<l.length→acc D i=A (ix l i)
 nl:∀i,i<l.length→(nxt D i).length=n
 nx:∀i,i<l.length→∀a,a<n→ix (nxt D i) a=if has (bC (A (ix l i))) (a:Int)=true then(l.idxOf (N (ix l i) a):Int) else-1
 cl:∀i,i<l.length→∀a,a<n→has (bC (A (ix l i))) (a:Int)=true→N (ix l i) a∈l
end BisS
end
section
open ref01 ref03 ref04 ref06 prog prog2 prog3 prog6 prog13 Part Rungs LeftM TrimM RoundM MergeM BisM BisM4 BisM5 WalkM StepM WitM JudgM JudgM2 refw judg wit refj sysw divr divs divd dive divg LevM LevM2
structure Vb (s:SS) (z:aA × Int):Prop where
 bad:bU s=false→z=(⟨[],[]⟩,30)
 hol:bU s=true→ix (hOl s) 0=true→z=(⟨[],[]⟩,3)
 fit:bU s=true→ix (hOl s) 0=false→z.2=0∧BK (tS s) [] z.1
namespace divw
end divw
end
section
open ref01 ref03 ref04 ref06 prog prog2 prog3 prog6 prog13 Part Rungs LeftM TrimM RoundM MergeM BisM BisM4 BisM5 WalkM StepM WitM JudgM JudgM2 refw judg wit refj sysw divr divs divd dive divg divw LevM LevM2
namespace divv
theorem OI (l:List ByteArray) (hl:l.length≤8):
 Fn0 Tryz.prog 91 [strs l] (spec (qG l)):=by
 refine fnI Tryz.func91 rfl rfl (fun w0 F0=> ?_)
 have h2n:2^l.length≤2^8:=Nat.pow_le_pow_right O hl
 refine fcC (aW 0 J) (fun hm0=> ?_)
 refine sq (rg (al (key:=2) T.z28 (eC (eC eZ)) fun b2=>(nl (th (sq (rg (mv (lnF J T.eS (mk (key:=7) (m:=l.length) (enc:=nE) (y:=(0:Int)) J J T.cT (eC eZ) (by unfold aT at*;omega) (by unfold aT at*;omega) fun v7=>(fz 7 7 J J (bd (css:= [(1,_)]) T.Af (eC (eC eZ)) ⟨J,J,p1 (φ:=sl 1 nE (List.replicate l.length (0:Int))) J,tV⟩ (al (key:=3) T.z79 (eC (eC eZ)) fun b3=>(sPA (cs':= [eqv (.slice none 0 0),sl 1 nE (List.replicate l.length (0:Int))]) J J J T.dY J J (nl (th (sq (sq (rg (mv (lnF J T.eS (bi J J (uP O O) (mv (nl (th (bk ?_)))))))))))))))))))))))))
 refine nwC 30 3 1 nE (nB 3 0 (osl 30 (.slice none 0 0)) rfl rfl dH ?_)
 have hI0_0:0≤2^l.length:=by
  first|omega|simp
 have hI0_1:([]:List Int)=(List.range 0).map fun(x:Nat)=>(x:Int):=by
  rfl
 refine lp (κ:=Nat × Value × (List Int)) (fun p=> [(0,sl 1 rE_ l),(2,ptr 2 b2 0),(3,ptr 3 b3 0),(11,int ((2^l.length:Nat):Int)),(12,int (p.1:Int))]) (fun p=> [(2,cell b2 [eqv (.slice none 0 0),eqv (.slice none 0 0)]),(3,cell b3 [osl 30 p.2.1,sl 1 nE (List.replicate l.length 0)]),(30,own p.2.1 3 1 nE p.2.2)]) (fun p=>(p.1≤2^l.length)∧(p.2.2=(List.range p.1).map fun(x:Nat)=>(x:Int))) (fun p=>2^l.length- p.1) ⟨0,(.slice none 0 0),([]:List Int)⟩ ⟨hI0_0,hI0_1⟩ ⟨id,id,id,id,id,tV⟩ ⟨rI,rI,rI,tV⟩ ?_
 intro⟨k,v,acc⟩ hG0
 obtain⟨hk0,hI0⟩:(k≤2^l.length)∧(acc=(List.range k).map fun(x:Nat)=>(x:Int)):=hG0
 show Ct _ _ _ _ [(0,sl 1 rE_ l),(2,ptr 2 b2 0),(3,ptr 3 b3 0),(11,int ((2^l.length:Nat):Int)),(12,int (k:Int))] [(2,cell b2 [eqv (.slice none 0 0),eqv (.slice none 0 0)]),(3,cell b3 [osl 30 v,sl 1 nE (List.replicate l.length 0)]),(30,own v 3 1 nE acc)] _
 have hlen:acc.length=k:=by rw[hI0];simp
 refine sq (rg (bi J J aN (nl (th (sq ?_)))))
 refine cd J (fun hc0=> ?_) (fun hc0=> ?_)
 ·try simp at hc0
  have hkk:k<2^l.length:=by exact_mod_cast hc0
  refine sk (th (sq (bk (sq (rg (mv (ag (nl (th (rg (fP J T.dG (lP J J J T.bG (mv (bsE (enc:=nE) (xs:= [(k:Int)]) (css:= [[int (k:Int)]]) T.cT ⟨J,J,p1 (φ:=int (k:Int)) J,tV⟩ J J J J (ap (key:=30) (zs:= [(k:Int)]) cD J J J T.cT (by unfold aT at*;simp;omega) (by unfold aT at*;simp;omega) fun v19=>(fP J T.dG (cU J J J J T.bG J (nl (eb (th (rg (bi J J (aK i6) (mv (nl ?_))))))))))))))))))))))))
  have hN0:(k+1)≤2^l.length:=by
   first|omega|simp_all
  have hN1:(acc++ [(k:Int)])=(List.range (k+1)).map fun(x:Nat)=>(x:Int):=by
   rw[hI0,List.range_succ,List.map_append];rfl
  exact ln (⟨k+1,v19,acc++ [(k:Int)]⟩:Nat × Value × (List Int)) ⟨hN0,hN1⟩ dO ⟨id,id,id,id,id,tV⟩ ⟨rI,rI,rI,tV⟩
 ·try simp at hc0
  have hkk:2^l.length≤k:=by first|exact_mod_cast hc0|exact Nat.le_of_not_lt (by exact_mod_cast hc0)
  refine ex (xt_ (xt_ (xb (th (sq (NA 3 30 0 J J J J (dr (nh:=5) [0,1,0,4,15,31] T.mixed kR ?_)))))))
  refine st_ J (fun _ _ _ gq kq=>mv' (gq.1.trans J) kq) ?_
  refine st_ J (fun _ _ _ gq kq=>kC (φs:= [sl 1 rE_ l]) (φ:=sl 1 rE_ l) ⟨(gq.1.trans J),tV⟩ (prog.fL _ O) T.rD (fun N hN=>fun h=>jG h) kq) ?_
  refine st_ J (fun _ _ _ gq kq=>lPA (gq.1.trans J) J T.dY J kq) ?_
  refine st_ J (fun _ _ _ gq kq=>bsE (enc:=sE) (xs:= [(⟨acc,List.replicate l.length 0⟩)]) (css:= [[sl 1 nE acc,sl 1 nE (List.replicate l.length 0)]]) T.rT ⟨J,J,pA (cs:= [sl 1 nE acc,sl 1 nE (List.replicate l.length 0)]) (by exact(gq.1.trans J)),tV⟩ J J J J kq) ?_
  refine st_ J (fun _ _ _ gq kq=>bd (css:= [(0,_),(1,_)]) T.uE (eC (eC eZ)) ⟨J,J,p1 (φ:=sl 1 rE_ l) (by exact(gq.1.trans J)),⟨J,J,p1 (φ:=sl 2 sE [(⟨acc,List.replicate l.length 0⟩)]) (by exact(gq.2.1.trans J)),tV⟩⟩ kq) ?_
  refine pn (sPA (cs':= [sl 1 rE_ l,sl 2 sE [(⟨acc,List.replicate l.length 0⟩)]]) J J J T.bK J J (nl (th (rt ?_))))
  have hr0:l=(qG l).aC:=by
   rfl
  have hr1: [(⟨acc,List.replicate l.length 0⟩)]=(qG l).sT:=by
   unfold qG;rw[hI0,show k=2^l.length by omega]
  exact rE () [.cell 2 28] J [agg [sl 1 rE_ l,sl 2 sE [(⟨acc,List.replicate l.length 0⟩)]]] ⟨.agg J J T.bK J J,tV⟩ (cA2 (fun x0 x1=>rV [agg [sl 1 rE_ x0,sl 2 sE x1]]) hr0 hr1) trivial eX
end divv
end
section
open ref01 ref03 ref04 ref06 prog prog2 prog3 prog6 prog13 Part Rungs LeftM TrimM RoundM MergeM BisM BisM4 BisM5 WalkM StepM WitM JudgM JudgM2 refw judg wit refj sysw divr divs divd dive divg divw divv LevM LevM2
namespace divf
end divf
end
section
namespace ChsM
open ref01 ref03 divs divf
end ChsM
end
section
open ref01 ref03 ref04 ref06 Part Rungs LeftM TrimM
namespace ValidM
theorem wB {s:SS} (h:bU s=true):s.sT.length≤500:=by
 unfold bU at h
 simp only [Bool.and_eq_true,decide_eq_true_eq] at h
 exact h.1.2
end ValidM
end
section
namespace TrimI
open ref01 ref03 ref04 ref06 Part Rungs LeftM TrimM RoundM MergeM BisM BisM2 BisM3 BisM4 BisM5 BisM6 divr divd
theorem Aq:∀m,visit [] (rg m)=rg m
 |0=>rfl
 |m+1=>by rw[RJ,tW,Aq m,vU O (fun h=>by have:=(UJ.1 h).2;omega)]
theorem Ic {s:SS} {m:Nat} (hm:m≤(aM s).length):((aM s).take m).map (dA (aM s))=rg m:=by
 apply List.ext_getElem
 ·simp[BisM3.rg];omega
 ·intro i h1 h2
  simp only [List.length_map,List.length_take] at h1
  rw[List.getElem_map,List.getElem_take]
  have hi:i<(aM s).length:=by omega
  have:=HG (uH (aV s)) hi
  rw[aH hi] at this
  rw[←aH h2,Eo O]
  exact this
theorem Sm {s:SS} (hs:oK s) {i:Nat} (hi:i<(aM s).length):((ix (aV s).sT (ix (aM s) i).toNat).next.map fun k=>if 0≤k then dA (aM s) k else k)=(ix (tS s).sT i).next:=by
 have hbd:=iJ hs hi
 have hx:(ix (aM s) i).toNat<s.sT.length:=by omega
 have hl:=(hs.st _ hx).len
 rw[mW hi,gM hx]
 show(cut (ix s.sT _) (bC (keep s _))).map _=jH s _
 unfold cut jH
 rw[List.map_map,hl]
 refine List.map_congr_left (fun a ha=> ?_)
 show(if 0≤(if _ then _ else _:Int) then dA _ (if _ then _ else _) else(if _ then _ else _))=(if _ then _ else _)
 by_cases hh:has (bC (keep s (ix (aM s) i).toNat)) (a:Int)=true
 ·rw[if_pos hh]
  have hg:=lQ hs hx hh
  rw[if_pos hg.2.1,if_pos hh]
 ·rw[if_neg hh,if_neg hh];rfl
theorem Vd {s:SS} (hs:oK s) {i:Nat} (hi:i<(aM s).length):rg (qn s (i+1))=visit (rg (qn s i)) (ix (tS s).sT i).next:=by
 have hol:=oN hs
 have hgt:=QI hs hi
 have hix:ix (bq (aV s) i) i=ix (aM s) i:=(nU (nH hs (i:=i) O) hgt).symm
 have hstep:bq (aV s) (i+1)=visit (bq (aV s) i) (ix (aV s).sT (ix (aM s) i).toNat).next:=by
  show(if i<(bq (aV s) i).length then _ else _)=_
  rw[if_pos hgt,hix]
 rw[←Aq (qn s (i+1)),←Aq (qn s i),←Ic (QH hs (i:=i+1) O),←Ic (QH hs (i:=i) O),←HL hs (i:=i+1) O,←HL hs (i:=i) O,hstep,
  zQ (g:=dA (aM s)) (fun k=>(fD _ k).1),Sm hs hi]
theorem Ve {s:SS} (hs:oK s):∀i,i≤(aM s).length→bq (tS s) i=rg (qn s i)
 |0,_=>rfl
 |i+1,hi=>by
  have ih:=Ve hs i O
  have hgt:=QI hs (i:=i) O
  show(if i<(bq (tS s) i).length then _ else _)=_
  rw[ih,xP,if_pos hgt,Eo hgt,Int.toNat_natCast,Vd hs O]
theorem Ie {s:SS} (hs:oK s):order (tS s)=rg (aM s).length:=by
 have hol:=oN hs
 have e:bq (aV s) (aM s).length=aM s:=by
  refine Bz hs ?_ hol
  exact(nH hs hol).length_le
 unfold order
 rw[kT,Ve hs _ (Nat.le_refl _)]
 show rg (bq (aV s) (aM s).length).length=_
 rw[e]
theorem WH {s:SS} (hs:oK s) (h0:ix (hOl s) 0=false):tS (tS s)=tS s:=by
 have ho:aM (tS s)=rg (aM s).length:=by
  show order (aV (tS s))=_
  rw[Fh hs h0,Ie hs]
 have hT:=QE hs
 show(⟨s.aC,(aM (tS s)).map (fU (tS s))⟩:SS)=⟨s.aC,(aM s).map (fU s)⟩
 congr 1
 rw[ho]
 apply List.ext_getElem
 ·simp[BisM3.rg]
 ·intro i h1 h2
  simp only [List.length_map,xP] at h1
  have hi:i<(aM s).length:=h1
  have e1:(rg (aM s).length)[i]'(by rw[xP];exact h1)=(i:Int):=by rw[←aH (by rw[xP];exact h1)];exact Eo h1
  rw[List.getElem_map,e1]
  have e2:(List.map (fU s) (aM s))[i]=ix (tS s).sT i:=(aH (by rw[kT];exact hi)).symm
  rw[e2]
  have hk:=HK hs h0 hi
  unfold fU jH
  rw[Int.toNat_natCast,hk,ho]
  have e3:ix (tS s).sT i=⟨keep s (ix (aM s) i).toNat,jH s (ix (aM s) i)⟩:=mW hi
  rw[e3]
  congr 1
  unfold jH
  refine List.map_congr_left fun a ha=> ?_
  have ha:a<s.aC.length:=List.mem_range.1 ha
  by_cases hh:has (bC (keep s (ix (aM s) i).toNat)) (a:Int)=true
  ·rw[if_pos hh,if_pos hh,bS ha,if_pos hh]
   obtain⟨p1,_⟩:=jB (oO hs hi hh)
   have p0:=(fD (aM s) (ix (ix s.sT (ix (aM s) i).toNat).next a)).1
   have hnd:(rg (aM s).length).Nodup:=by
    have:=uH (tS s)
    rwa [Ie hs] at this
   have hq:=HG hnd (i:=(dA (aM s) (ix (ix s.sT (ix (aM s) i).toNat).next a)).toNat) (by rw[xP];omega)
   rw[Eo O,Int.toNat_of_nonneg p0] at hq
   exact hq
  ·rw[if_neg hh,if_neg hh]
theorem LV {s:SS} (hs:oK s):(tR (tR s).1).1=(tR s).1:=by
 cases h:ix (hOl s) 0 with
 |true=>rw[fZ h];show(tR (nothing s.aC)).1=_;rw[fZ (uW _)];rfl
 |false=>
  rw[eU h]
  show(tR (tS s)).1=tS s
  rw[eU (xO hs h 0)]
  exact WH hs h
theorem sR {s:SS} (hs:oK s):Sim2 (aV (tR s).1) (aV s) 0 0:=by
 cases h:ix (hOl s) 0 with
 |true=>
  rw[fZ h]
  have f:=hs.few0
  have g:=(vV hs.acts).few0
  exact HM (vV hs.acts) hs rfl O O (uW _) h
 |false=>
  rw[eU h]
  have hop:=lR s
  have:=UI hs h (i:=0) O
  show Sim2 (aV (tS s)) (aV s) 0 0
  rw[Fh hs h]
  rw[sD] at this
  exact this
theorem FD {s:SS} (hs:oK s):sG s s:=((zB hs hs rfl).2 (Oh _ _)).1
theorem OJ {s d:SS} (hs:oK s) (hd:oK d) (ha:s.aC=d.aC) (h:sG s d∧sG d s):sG (tR s).1 d∧sG d (tR s).1:=
 (zB (nX hs) hd ((qI s).trans ha)).2 ((sR hs).trans ((zB hs hd ha).1 h))
theorem wC {s:SS} (hs:oK s):(tR s).1.sT.length≤s.sT.length:=by
 cases h:ix (hOl s) 0 with
 |true=>rw[fZ h];have:=hs.few0;show 1≤_;omega
 |false=>rw[eU h];show((aM s).map _).length≤_;rw[List.length_map];exact oN hs
end TrimI
end
section
namespace QuoM
open ref01 ref03 ref04 ref06 Part Rungs LeftM TrimM RoundM MergeM BisM BisM4 BisM5 WitM JudgM LevM divr divs divd divf ChsM BisS TrimI
section
variable {α:Type} [DecidableEq α] [Inhabited α]
def eW (l:List α) (p:α):List α:=if p∈l then l else l++ [p]
def kK (A:α→List Int) (N:α→Nat→α) (p:α) (ks:List Int) (l:List α):List α:=ks.foldl (fun l a=>eW l (N p a.toNat)) l
def dU (A:α→List Int) (p:α):List Int:=aI 63 (bC (A p))
def rJ (A:α→List Int) (N:α→Nat→α) (l:List α) (p:α):List α:=kK A N p (dU A p) l
def jK (A:α→List Int) (N:α→Nat→α):Nat→Nat→List α→List α
 |0,_,l=>l
 |f+1,i,l=>if i<l.length then jK A N f (i+1) (rJ A N l (ix l i)) else l
theorem uJ (l:List α) (p:α):l<+:eW l p:=by
 unfold eW
 split
 ·exact List.prefix_rfl
 ·exact List.prefix_append _ _
theorem Ar (l:List α) (p:α):p∈eW l p:=by
 unfold eW
 split
 ·assumption
 ·simp
theorem jA (A:α→List Int) (N:α→Nat→α) (p:α):∀(ks:List Int) (l:List α),l<+:kK A N p ks l
 | [],l=>List.prefix_rfl
 |a::ks,l=>(uJ l _).trans (jA A N p ks _)
theorem LW (A:α→List Int) (N:α→Nat→α) (p:α) (ks:List Int) (a:Int) (l:List α):kK A N p (ks++ [a]) l=eW (kK A N p ks l) (N p a.toNat):=by
 unfold kK;rw[List.foldl_append];rfl
theorem FE (A:α→List Int) (N:α→Nat→α) (p:α):∀(ks:List Int) (l:List α) (a:Int),a∈ks→N p a.toNat∈kK A N p ks l
 | [],l,a,h=>nomatch h
 |b::ks,l,a,h=>by
  rcases List.mem_cons.1 h with rfl|h
  ·exact(jA A N p ks _).subset (Ar l _)
  ·exact FE A N p ks _ a h
theorem BQ (A:α→List Int) (N:α→Nat→α):∀(f i:Nat) (l:List α),l<+:jK A N f i l
 |0,i,l=>List.prefix_rfl
 |f+1,i,l=>by
  unfold jK
  split
  ·exact(jA A N _ _ l).trans (BQ A N f (i+1) _)
  ·exact List.prefix_rfl
structure sS (A:α→List Int) (N:α→Nat→α) (ok:α→Prop) (z:α) (i:Nat) (l:List α):Prop where
 nd:l.Nodup
 ne:0<l.length
 hd:ix l 0=z
 ok:∀p∈l,ok p
 dn:∀j,j<i→j<l.length→∀a∈dU A (ix l j),N (ix l j) a.toNat∈l
theorem sU {l m:List α} (h:l<+:m) {j:Nat} (hj:j<l.length):ix m j=ix l j:=by
 obtain⟨t,rfl⟩:=h
 unfold ix
 rw[List.getD_eq_getElem?_getD,List.getD_eq_getElem?_getD,List.getElem?_append_left hj]
theorem CO {l:List α} {p:α} (h:l.Nodup):(eW l p).Nodup:=by
 unfold eW
 split
 ·exact h
 ·next g=>
  rw[List.nodup_append]
  refine⟨h,by simp,fun a ha b hb e=> ?_⟩
  rw[List.mem_singleton.1 hb] at e
  subst e;exact g ha
theorem Ig {l:List α} {p q:α} (h:q∈eW l p):q∈l∨q=p:=by
 unfold eW at h
 split at h
 ·exact .inl h
 ·rcases List.mem_append.1 h with h|h
  ·exact .inl h
  ·exact .inr (List.mem_singleton.1 h)
theorem Ih (A:α→List Int) (N:α→Nat→α) (p:α):∀(ks:List Int) (l:List α),l.Nodup→(kK A N p ks l).Nodup
 | [],l,h=>h
 |a::ks,l,h=>Ih A N p ks _ (CO h)
theorem Ii (A:α→List Int) (N:α→Nat→α) (p:α):∀(ks:List Int) (l:List α) (q:α),q∈kK A N p ks l→q∈l∨∃a∈ks,q=N p a.toNat
 | [],l,q,h=> .inl h
 |a::ks,l,q,h=>by
  rcases Ii A N p ks _ q h with h|⟨b,hb,e⟩
  ·rcases Ig h with h|h
   ·exact .inl h
   ·exact .inr ⟨a,List.mem_cons_self,h⟩
  ·exact .inr ⟨b,List.mem_cons_of_mem _ hb,e⟩
variable {A:α→List Int} {N:α→Nat→α} {ok:α→Prop} {z:α}
theorem LX (hok:∀p,ok p→∀a∈dU A p,ok (N p a.toNat)) {i:Nat} {l:List α} (h:sS A N ok z i l) (hi:i<l.length):sS A N ok z (i+1) (rJ A N l (ix l i)):=by
 have hp:=jA A N (ix l i) (dU A (ix l i)) l
 refine⟨Ih A N _ _ l h.nd,Nat.lt_of_lt_of_le h.ne hp.length_le,(sU hp h.ne).trans h.hd,fun p hq=> ?_,fun j hj hl a ha=> ?_⟩
 ·rcases Ii A N _ _ l p hq with g|⟨a,ha,rfl⟩
  ·exact h.ok p g
  ·exact hok _ (h.ok _ (aR hi)) a ha
 ·have hjl:j<l.length:=by omega
  have e:ix (rJ A N l (ix l i)) j=ix l j:=sU hp hjl
  rw[e] at ha ⊢
  by_cases g:j<i
  ·exact hp.subset (h.dn j g hjl a ha)
  ·have:j=i:=by omega
   subst this
   exact FE A N _ _ l a ha
theorem FF (hok:∀p,ok p→∀a∈dU A p,ok (N p a.toNat)):∀(f i:Nat) (l:List α),i≤l.length→sS A N ok z i l→∃j,j≤(jK A N f i l).length∧sS A N ok z j (jK A N f i l)∧(j=(jK A N f i l).length∨j=i+f)
 |0,i,l,hi,h=>⟨i,hi,h,.inr O⟩
 |f+1,i,l,hi,h=>by
  unfold jK
  split
  ·next g=>
   have hp:=jA A N (ix l i) (dU A (ix l i)) l
   obtain⟨j,h1,h2,h3⟩:=FF hok f (i+1) _ (by have:=hp.length_le;show _≤(rJ A N l (ix l i)).length;unfold rJ;omega) (LX hok h g)
   exact⟨j,h1,h2,O⟩
  ·next g=>exact⟨i,hi,h,.inl O⟩
theorem OK (hok:∀p,ok p→∀a∈dU A p,ok (N p a.toNat)) {B:Nat} (hB:∀l:List α,l.Nodup→(∀p∈l,ok p)→l.length≤B) {l:List α} (h:sS A N ok z 0 l) {f:Nat} (hf:B≤f):sS A N ok z (jK A N f 0 l).length (jK A N f 0 l):=by
 obtain⟨j,h1,h2,h3⟩:=FF hok f 0 l O h
 have:=hB _ h2.nd h2.ok
 have e:j=(jK A N f 0 l).length:=by omega
 rwa [e] at h2
def ofL (A:α→List Int) (N:α→Nat→α) (n:Nat) (L:List α) (p:α):SA:=⟨A p,(List.range n).map fun(a:Nat)=>if has (bC (A p)) (a:Int)=true then(L.idxOf (N p a):Int) else-1⟩
theorem Sn (hn:∀p,ok p→∀a:Nat,has (bC (A p)) (a:Int)=true→a<63) {n:Nat} {L:List α} (h:sS A N ok z L.length L) (acts:List ByteArray):xV A N n z L ⟨acts,L.map (ofL A N n L)⟩:=by
 have hat:∀i,i<L.length→ix (L.map (ofL A N n L)) i=ofL A N n L (ix L i):=fun i hi=>TurnM.RL hi
 refine⟨by simp,h.nd,h.ne,h.hd,fun i hi=> ?_,fun i hi=> ?_,fun i hi a ha=> ?_,fun i hi a ha hh=> ?_⟩
 ·show(ix (L.map (ofL A N n L)) i).aP=_
  rw[hat i hi];rfl
 ·show(ix (L.map (ofL A N n L)) i).next.length=_
  rw[hat i hi];simp[ofL]
 ·show ix (ix (L.map (ofL A N n L)) i).next a=_
  rw[hat i hi]
  exact bS ha
 ·have:=h.dn i hi hi (a:Int) (fM.2 ⟨a,rfl,hn _ (h.ok _ (aR hi)) a hh,hh⟩)
  rwa [Int.toNat_natCast] at this
theorem Sq {n:Nat} {L:List α} {D:SS} (hD:xV A N n z L D) (hact:bW D.aC=true) (hn:D.aC.length=n) (hl:L.length≤10000) (hb:∀p∈L,∀u∈A p,0≤u∧u<256) (hg:∀p∈L,∀a:Nat,has (bC (A p)) (a:Int)=true→a<n) (hr:∀p∈L,rising (A p)=true):oK D:=by
 have n8:=gU hact
 refine⟨hact,n8,by rw[hD.len];exact hD.ne,by rw[hD.len];exact hl,fun k hk=> ?_⟩
 rw[hD.len] at hk
 have hm:ix L k∈L:=aR hk
 have ea:(ix D.sT k).aP=A (ix L k):=hD.acc k hk
 have en:(ix D.sT k).next.length=n:=hD.nl k hk
 have ex:∀a,a<n→ix (ix D.sT k).next a=if has (bC (A (ix L k))) (a:Int)=true then(L.idxOf (N (ix L k) a):Int) else-1:=hD.nx k hk
 refine⟨by rw[en,hn],fun a ha=> ?_,fun i hi=> ?_,fun i hi a ha=> ?_,by rw[ea];exact hr _ hm⟩
 ·rw[ex a O]
  by_cases hh:has (bC (A (ix L k))) (a:Int)=true
  ·rw[if_pos hh]
   have:=List.idxOf_lt_length_of_mem (hD.cl k hk a O hh)
   rw[hD.len];omega
  ·rw[if_neg hh];omega
 ·rw[ea] at hi ⊢
  exact hb _ hm _ (aR hi)
 ·rw[ea] at hi ha
  have hh:has (bC (A (ix L k))) (a:Int)=true:=(cY _ _).2 ⟨_,aR hi,ha⟩
  have:=hg _ hm a hh
  rw[ex a this,if_pos hh]
  omega
end
abbrev pix (l:List PP) (p:PP):Nat:= @List.idxOf PP instBEqOfDecidableEq p l
theorem xW {α:Type} [DecidableEq α] {l:List α} {p:α} (h:p∈l):l.idxOf p<l.length:=List.idxOf_lt_length_of_mem h
theorem uX {α:Type} [DecidableEq α] [Inhabited α] {l:List α} {p:α} (h:p∈l):ix l (l.idxOf p)=p:=by rw[aH (xW h)];exact List.getElem_idxOf _
theorem Sr {α:Type} [DecidableEq α] {l r:List α} {p:α} (h:p∈l):(l++r).idxOf p=l.idxOf p:=by rw[List.idxOf_append,if_pos h]
theorem Su {α:Type} [DecidableEq α] {l:List α} {p:α} (h:p∉l):(l++ [p]).idxOf p=l.length:=by rw[List.idxOf_append,if_neg h];simp
theorem LY {α:Type} [DecidableEq α] [Inhabited α] {l:List α} {p:α} {k:Nat} (hk:k<l.length) (h:ix l k=p):l.idxOf p≤k:=by
 rcases Nat.lt_or_ge k (l.idxOf p) with g|g
 ·have hf:=List.not_of_lt_findIdx (p:=(· ==p)) (xs:=l) (i:=k) (by unfold List.idxOf at g;exact g)
  rw[aH hk] at h
  simp[h] at hf
 ·exact g
def bes:PP:=(-1,-1)
def cK (n:Nat):List Int:=(List.range (2^n)).map fun(x:Nat)=>(x:Int)
def qA (t s:SS) (p:PP):List Int:=if p=bes then cK t.aC.length else(cK t.aC.length).filter (WA (ix t.sT p.1.toNat) (ix s.sT p.2.toNat))
def qN (t s:SS) (p:PP) (a:Nat):PP:=if p≠bes∧0≤ix (nxt s p.2.toNat) a then(ix (nxt t p.1.toNat) a,ix (nxt s p.2.toNat) a) else bes
def qOk (t s:SS) (p:PP):Prop:=p=bes∨(0≤p.1∧p.1<(t.sT.length:Int)∧0≤p.2∧p.2<(s.sT.length:Int))
theorem wD {n:Nat} {u:Int}:u∈cK n↔0≤u∧u<((2^n:Nat):Int):=by
 unfold cK
 rw[List.mem_map]
 constructor
 ·rintro⟨k,hk,rfl⟩
  have:=List.mem_range.1 hk
  omega
 ·rintro⟨h0,h1⟩
  exact⟨u.toNat,List.mem_range.2 O,O⟩
theorem LZ (n:Nat):(cK n).Pairwise (· < ·):=by
 unfold cK
 rw[List.pairwise_map]
 exact List.pairwise_lt_range.imp fun h=>by omega
theorem Sv {n:Nat} {u:Int} (h:u∈cK n) {a:Nat} (ha:has u (a:Int)=true):a<n:=by
 have hu:=wD.1 h
 unfold has at ha
 rw[Int.toNat_natCast] at ha
 have h7:2^a≤u.toNat:=Nat.ge_two_pow_of_testBit ha
 exact(Nat.pow_lt_pow_iff_right (a:=2) O).1 O
theorem rO {u o:Int} {a:Nat}:has (cJ u o) (a:Int)=(has u (a:Int)&&has o (a:Int)):=by
 unfold has cJ
 rw[Int.toNat_natCast,Int.toNat_natCast,Nat.testBit_and]
def qL (t s:SS):List PP:=jK (qA t s) (qN t s) (t.sT.length*s.sT.length+1) 0 [(0,0)]
def XH (t s:SS):SS:=⟨t.aC,(qL t s).map (ofL (qA t s) (qN t s) t.aC.length (qL t s))⟩
end QuoM
end
section
namespace FailM
open ref01 ref03 ref04 ref06 prog15 starts Part Rungs LeftM TrimM RoundM BisM BisM5 BisM6 WalkM StepM WitM JudgM LevM divs QuoM
abbrev T3:=Int × Int × Int
structure M5 where
 x:Int
 t:Int
 s:Int
 before:Int
 action:Int
deriving Inhabited,DecidableEq
def tri (m:M5):T3:=(m.x,m.t,m.s)
def XI (m:M5):Mt:=⟨m.s,m.t,m.before,m.action⟩
def JL (mm:List (T3 × Bool)) (l:List T3):Prop:=∀p,bM mm p=if p∈l then some true else none
def JM (x:aA) (t s:SS) (p:T3):Prop:=∃o∈acc s p.2.2.toNat,cJ (bQ x p.1.toNat) o∉acc t p.2.1.toNat
def nx3 (t s:SS) (p:T3) (e:PP):T3:=(e.2,ix (nxt t p.2.1.toNat) e.1.toNat,ix (nxt s p.2.2.toNat) e.1.toNat)
inductive FG (x:aA) (t s:SS):T3→Prop
 |zero:FG x t s (0,0,0)
 |step {p:T3} {e:PP}:FG x t s p→¬JM x t s p→e∈edg x p.1.toNat→0≤ix (nxt s p.2.2.toNat) e.1.toNat→FG x t s (nx3 t s p e)
def QM (x:aA) (t s:SS):Prop:=∀p,FG x t s p→¬JM x t s p
variable {x:aA} {t s:SS}
structure QF (x:aA) (t s:SS) (q:List M5):Prop where
 ne:0<q.length
 hd:ix q 0=⟨0,0,0,-1,0⟩
 nd:(q.map tri).Nodup
 rch:∀m∈q,FG x t s (tri m)
 back:∀k,0<k→k<q.length→∃(b:Nat) (e:PP),(ix q k).before=(b:Int)∧(ix q k).action=e.1∧b<k∧¬JM x t s (tri (ix q b))∧e∈edg x (ix q b).x.toNat∧0≤ix (nxt s (ix q b).s.toNat) e.1.toNat∧tri (ix q k)=nx3 t s (tri (ix q b)) e
def WJ (x:aA) (t s:SS) (q:List M5) (k:Nat):Prop:=
 ¬JM x t s (tri (ix q k))∧∀e∈edg x (ix q k).x.toNat,0≤ix (nxt s (ix q k).s.toNat) e.1.toNat→nx3 t s (tri (ix q k)) e∈q.map tri
structure Yd (x:aA) (t s:SS) (q:List M5) (i k:Nat) (q2:List M5) (mm2:List (T3 × Bool)):Prop where
 qi:QF x t s q2
 sm:JL mm2 (q2.map tri)
 pre:q<+:q2
 dn:∀j,j<i→WJ x t s q2 j
 al:∀e∈(edg x (ix q i).x.toNat).take k,0≤ix (nxt s (ix q i).s.toNat) e.1.toNat→nx3 t s (tri (ix q i)) e∈q2.map tri
variable {q q2:List M5} {i k:Nat} {mm mm2:List (T3 × Bool)}
abbrev QO (q:List M5) (k:Nat):List Int:=mQ (q.map XI) k
structure XU (x:aA) (t s:SS) (z:List Int × Int × Bool):Prop where
 none:z.2.2=false→z.1= []∧z.2.1=0∧QM x t s
 some:z.2.2=true→∃q i,QF x t s q∧i<q.length∧z.1=QO q i∧z.2.1∈acc s (ix q i).s.toNat∧cJ (bQ x (ix q i).x.toNat) z.2.1∉acc t (ix q i).t.toNat
end FailM
end
section
namespace DivM
open ref01 ref03 ref04 ref06 Part Rungs LeftM TrimM RoundM MergeM BisM BisM2 BisM4 BisM5 BisM6 WalkM WitM JudgM JudgM2 LevM divr divs divd dive divg divw divv refj sysw ChsM BisS TrimI ValidM WitSat WitVal QuoM
theorem BR {n a:Nat} (v:Int) (h:a<n):ix (List.replicate n v) a=v:=by rw[aH (by simpa using h)];simp
noncomputable def Vf (t s:SS):SS × Bool:=
 if ix (hOl s) 0=true then(qG t.aC,true)
 else if (qL t (tR s).1).length≤500 then((tR (XH t (tR s).1)).1,true) else(⟨[],[]⟩,false)
noncomputable def JN (t s:SS):SS × Int:=
 if Er t s=0 then(if (Vf t s).2=true then((Vf t s).1,0) else(⟨[],[]⟩,2)) else(⟨[],[]⟩,Er t s)
structure Ye (t s D:SS):Prop where
 acts:D.aC=t.aC
 hol:ix (hOl s) 0=true→D=qG t.aC
 num:ix (hOl s) 0=false→∃l,xV (qA t (tR s).1) (qN t (tR s).1) t.aC.length (0,0) l D∧l.length≤t.sT.length*s.sT.length+1
structure Same (q D:SS):Prop where
 ok:oK q
 few:q.sT.length≤500
 acts:q.aC=D.aC
 trim:(tR q).1=q
 r1:sG q D
 r2:sG D q
structure XV (t s:SS) (z:aA × Int):Prop where
 no:(JN t s).2≠0→z=(⟨[],[]⟩,(JN t s).2)
 yes:(JN t s).2=0→Vb (JN t s).1 z
theorem JO {q D:SS} (h:Same q D) (hD:oK D):ix (hOl q) 0=ix (hOl D) 0:=by
 have f1:=h.ok.few0
 have f2:=hD.few0
 have hs:=(zB h.ok hD h.acts).1 ⟨h.r1,h.r2⟩
 cases h1:ix (hOl q) 0<;>cases h2:ix (hOl D) 0
 ·rfl
 ·exact absurd hs.symm (zA O O h2 h1)
 ·exact absurd hs (zA O O h1 h2)
 ·rfl
end DivM
end
end Go.Proofs.YtnlfjojfgghchaaGreatDoor
