/- The walks of the functions and the plain laws. Own texts of this claim, packed: MkLawP, MkJudgM, Mksysw, Mkdivr, Mkdivs, MkLevM, Mkdivd, MkJudgM2, Mkrefj, Mkdive, MkLevM2, Mkdivg, MkWitSat, MkWitVal, MkBisS, Mkdivw, Mkdivv, Mkdivf, MkChsM, MkValidM, MkTrimI, MkQuoM, MkFailM, MkDivM. -/
import Derived.Test.YtnlfjojfgghchaaGreatDoorX05
import Derived.Test.YtnlfjojfgghchaaGreatDoorX13
import Derived.Test.YtnlfjojfgghchaaGreatDoorX14
import Derived.Test.YtnlfjojfgghchaaGreatDoorRows
import Derived.ProofKit
import Derived.LaidMore
import Derived.Lib.LaidTab
import Derived.Lib.SmallJoins
import Derived.OpenShut
import Derived.Stop.Joined
import Derived.Test.YtnlfjojfgghchaaGreatDoorX11
import Derived.Test.YtnlfjojfgghchaaGreatDoorX04
import Derived.Test.YtnlfjojfgghchaaGreatDoorX07
import Derived.Test.YtnlfjojfgghchaaGreatDoorX09
set_option linter.all false
namespace Go.Proofs.YtnlfjojfgghchaaGreatDoor
open AL Go
set_option maxRecDepth 100000
section
open ref01 ref03 ref04 ref06 prog prog2 prog6 Itoa
open Go.ChangeShapes Go.WideShapes Go.ChangeAt Go.WideElems Go.RowKit
namespace LawOpen
theorem laidOut:laidOutB Tryz.prog=true:=by kernel_rfl
theorem own:ownKnob Tryz.prog.godebug=none:=by kernel_rfl
theorem weights_agg {H:Type} {P:Program} {t:TypeId} {fs:Array Field} {ps:List (DataW H)} (h:P.underlying t=some (.struct fs)):(DataW.agg ps:DataW H).weights P t=DataW.weightsEach P (fs.toList.map (·.type)) ps:=by
 simp[DataW.weights,h]
section
variable {H:Type} {enc:TypeId × Value→H} {W:World}
attribute [local semireducible] agg in
theorem open_stateA {m:Nat} {cs:List Value} {y:DataW H × List MemPlace} (h:DataW.trod enc Tryz.prog W 0 (fun _=>true) true m 79 cs=some y) (hz:∀k∈y.1.weights Tryz.prog 79,k≤reachBytes) (hl:cs.length=2):
 ∃x:SA,All2 W (allF W) (sE x) cs∧∀t∈x.aP,t<2^63:=by
 obtain⟨y0,y1,n,hx,_,h0,h1⟩:=trod_struct2 Tryz.underlying79 h
 subst hx
 have hz:∀k∈y0.1.weights Tryz.prog 66++(y1.1.weights Tryz.prog 66++ []),k≤reachBytes:=by
  have e:(DataW.agg [y0.1,y1.1]:DataW H).weights Tryz.prog 79=y0.1.weights Tryz.prog 66++(y1.1.weights Tryz.prog 66++ []):=by
   rw[weights_agg Tryz.underlying79]
   simp[DataW.weightsEach]
  rw[←e];exact hz
 have c28:Tryz.prog.cellsOf 66=1:=by kernel_rfl
 have c3:Tryz.prog.cellsOf 3=1:=by kernel_rfl
 have b3:1≤Tryz.prog.bytesOf 3:=by have:Tryz.prog.bytesOf 3=8:=kR;omega
 match cs,hl with
 | [v0,v1],_=>
   have h0:DataW.trod enc Tryz.prog W 0 (fun _=>true) true n 66 (([v0,v1].drop 0).take (Tryz.prog.cellsOf 66))=some y0:=h0
   have h1:DataW.trod enc Tryz.prog W 0 (fun _=>true) true n 66 (([v0,v1].drop 1).take (Tryz.prog.cellsOf 66))=some y1:=h1
   rw[c28] at h0 h1
   obtain⟨ys,g1,g2⟩:=open_intsA Tryz.underlying66 Tryz.underlying3 c3 b3 h0 (fun k hk=>hz k (List.mem_append.2 (.inl hk)))
   obtain⟨zs,g3,_⟩:=open_intsA Tryz.underlying66 Tryz.underlying3 c3 b3 h1 (fun k hk=>hz k (List.mem_append.2 (.inr (List.mem_append.2 (.inl hk)))))
   exact⟨⟨ys,zs⟩,⟨g1,g3,tV⟩,fun t ht=>by have:=g2 t ht;omega⟩
attribute [local semireducible] agg in
theorem open_specA {r:Reach} {b0:Nat} {v:Value} {d:DataW H} {p:List MemPlace} (hv:Value.okWide Tryz.prog W r b0 28 v) (h:DataW.Trod enc Tryz.prog W 0 (fun _=>true) true 28 v d p) (hz:∀k∈d.weights Tryz.prog 28,k≤reachBytes):
 ∃s:SS,(spec s).p W (allF W) v∧smallSpec s:=by
 obtain⟨v0,v1,y0,y1,n,rfl,rfl,rfl,h0,h1⟩:=Go.Joins.open_agg2 Tryz.underlying28 kR kR hv h
 have hz:∀k∈y0.1.weights Tryz.prog 22++(y1.1.weights Tryz.prog 26++ []),k≤reachBytes:=by
  have e:(DataW.agg [y0.1,y1.1]:DataW H).weights Tryz.prog 28=y0.1.weights Tryz.prog 22++(y1.1.weights Tryz.prog 26++ []):=by
   rw[weights_agg Tryz.underlying28]
   simp[DataW.weightsEach]
  rw[←e];exact hz
 have c9:Tryz.prog.cellsOf 9=1:=by kernel_rfl
 have b9:1≤Tryz.prog.bytesOf 9:=by have:Tryz.prog.bytesOf 9=16:=kR;omega
 have c69:Tryz.prog.cellsOf 79=2:=by kernel_rfl
 have b69:1≤Tryz.prog.bytesOf 79:=by have:Tryz.prog.bytesOf 79=48:=kR;omega
 obtain⟨al,g1⟩:=open_strsA Tryz.underlying22 Tryz.underlying9 c9 b9 h0 (fun k hk=>hz k (List.mem_append.2 (.inl hk)))
 obtain⟨xs,g2,g3⟩:=open_slA (n:=2) (E:=sE) Tryz.underlying26 c69 (by decide) b69 h1 (fun k hk=>hz k (List.mem_append.2 (.inr (List.mem_append.2 (.inl hk))))) (fun x=> ∀t∈x.aP,t<2^63) (fun m cs y hy hw hl=>open_stateA hy hw hl)
 refine⟨⟨al,xs⟩,⟨[v0,v1],rfl,g1,g2,tV⟩,fun k hk i hi=> ?_⟩
 have hk:k<xs.length:=hk
 have hi:i<(ix xs k).aP.length:=hi
 exact g3 (ix xs k) (Rungs.ix_memS hk) _ (Rungs.ix_mem hi)
end
abbrev laid3:List (String × DataW Unit):= [("math/bits.deBruijn32tab",Rows.laid_math_bits_deBruijn32tab),("math/bits.deBruijn64tab",Rows.laid_math_bits_deBruijn64tab),("internal/strconv.uint64pow10",Rows.laid_internal_strconv_uint64pow10)]
theorem tab_of_laid {W:World} (h:laidMetH Tryz.prog laid3 W) (v:Value):tab.p W (allF W) v:=by
 rw[MakeChecks.laidMetH_plain _ _ _ kR] at h
 obtain⟨ps,⟨g0,t0,cs0,f0,p0,q0,hg0,ht0,hv0,hd0,⟨g1,t1,cs1,f1,p1,q1,hg1,ht1,hv1,hd1,⟨g2,t2,cs2,f2,p2,q2,hg2,ht2,hv2,hd2,_,_⟩,_⟩,_⟩,_,_⟩:=h
 have e0:g2=0:=Option.some.inj (hg2.symm.trans (show Tryz.prog.globalNamed "internal/strconv.uint64pow10" =some 0 by kernel_rfl))
 subst e0
 have e1:t2=267:=Option.some.inj (ht2.symm.trans (show(Tryz.prog.globals[0]?).map (·.type)=some 267 by kernel_rfl))
 subst e1
 have hc:=Lib.cells_of_tab (zs:=Lib.pow10Tab) (k:= .u64) Tryz.underlying267 Tryz.underlying219 kR kR hd2
 refine⟨0,by kernel_rfl,?_,?_⟩
 ·have h2:=hv2
  unfold World.var? at h2
  rw[show Tryz.prog.globalNamed "internal/strconv.uint64pow10" =some 0 by kernel_rfl] at h2
  simp only [Option.bind_some] at h2
  show 0<W.heap.size
  cases hh:W.heap[0]? with
  |none=>rw[hh] at h2;cases h2
  |some o=>exact(Array.getElem?_eq_some_iff.1 hh).1
 ·unfold Lib.TabIs tabName
  rw[hv2,←hc]
end LawOpen
open LawOpen
namespace LawOpen2
theorem door_met (os:Os) (args:Array Value):laidMetH Tryz.prog laid3 ((World.doorLaid Tryz.prog 400 os).forCall (fun _ _=>0) ⟨#[],args,[]⟩).memory:=
 laidMetH_of_parts3 (fuel:=8) (laidMet_of_run' 8 kR kR) kR kR
end LawOpen2
open LawOpen2 WitM wit
namespace LawOpen3
section
variable {H:Type} {enc:TypeId × Value→H} {W:World}
end
end LawOpen3
end
section
open ref01 ref03 ref04 ref06 prog15 starts Part Rungs LeftM TrimM RoundM BisM BisM5 BisM6 WalkM StepM WitM
namespace JudgM
def offE (es:List PP):Int:=orAll (es.map fun e=>((2^e.1.toNat:Nat):Int))
abbrev edg (m:SSys) (x:Nat):List PP:=ix m.sT x
abbrev offM (m:SSys) (x:Nat):Int:=offE (edg m x)
def edM (m:SSys) (x:Nat):List (Nat × Nat):=(edg m x).map fun e=>(e.1.toNat,e.2.toNat)
theorem has_pow (a b:Nat):has ((2^a:Nat):Int) (b:Int)=decide (a=b):=by
 unfold has;rw[Int.toNat_natCast,Int.toNat_natCast,Nat.testBit_two_pow]
theorem off_has {es:List PP} {a:Nat}:has (offE es) (a:Int)=true↔∃e∈es,e.1.toNat=a:=by
 unfold offE
 rw[orAll_has]
 constructor
 ·rintro⟨u,hu,hh⟩
  obtain⟨e,he,rfl⟩:=List.mem_map.1 hu
  rw[has_pow] at hh
  exact⟨e,he,by simpa using hh⟩
 ·rintro⟨e,he,rfl⟩
  exact⟨_,List.mem_map.2 ⟨e,he,rfl⟩,by rw[has_pow];simp⟩
theorem off_ok (m:SSys):OffOK (offM m) (edM m):=fun x a=>by
 rw[off_has]
 unfold edM
 constructor
 ·rintro⟨e,he,h⟩;exact⟨_,List.mem_map.2 ⟨e,he,rfl⟩,h⟩
 ·rintro⟨e,he,h⟩
  obtain⟨e',he',rfl⟩:=List.mem_map.1 he
  exact⟨e',he',h⟩
structure okSys (m:SSys):Prop where
 acts:actionsOK m.aC=true
 n8:m.aC.length≤8
 few0:1≤m.sT.length
 few1:m.sT.length≤10000
 ed:∀x,x<m.sT.length→∀e∈edg m x,0≤e.1∧e.1<(m.aC.length:Int)∧0≤e.2∧e.2<(m.sT.length:Int)
 many:∀x,x<m.sT.length→(edg m x).length≤400000
def SatM (m:SSys) (t:SS):Prop:=Sat (offM m) (edM m) t 0 0
structure QJ (m:SSys) (t:SS) (q:List Mt):Prop where
 ne:0<q.length
 hd:ix q 0=⟨0,0,-1,0⟩
 bd:∀p∈q,0≤p.s∧p.s<(m.sT.length:Int)∧0≤p.t∧p.t<(t.sT.length:Int)
 nd:(q.map pairOf).Nodup
 back:∀k,0<k→k<q.length→∃(b:Nat) (e:PP),(ix q k).before=(b:Int)∧(ix q k).action=e.1∧b<k∧e∈edg m (ix q b).s.toNat∧(ix q k).s=e.2∧(ix q k).t=ix (nxt t (ix q b).t.toNat) e.1.toNat∧offM m (ix q b).s.toNat∈acc t (ix q b).t.toNat
 all:∀R,SatR (offM m) (edM m) t R→R 0 0→∀p∈q,R p.s.toNat p.t.toNat
def DoneJ (m:SSys) (t:SS) (q:List Mt) (k:Nat):Prop:=
 offM m (ix q k).s.toNat∈acc t (ix q k).t.toNat∧∀e∈edg m (ix q k).s.toNat,(e.2,ix (nxt t (ix q k).t.toNat) e.1.toNat)∈q.map pairOf
theorem qj_zero {m:SSys} {t:SS} (hm:okSys m) (ht:oK t):QJ m t [⟨0,0,-1,0⟩]:=by
 have f1:=hm.few0
 have f2:=ht.few0
 refine⟨by simp,rfl,fun p hp=> ?_,by simp,fun k h1 h2=> ?_,fun R hR h p hp=> ?_⟩
 ·have:p=⟨0,0,-1,0⟩:=by simpa using hp
  subst this
  show 0≤(0:Int)∧(0:Int)<_∧0≤(0:Int)∧(0:Int)<_
  omega
 ·simp at h2;omega
 ·have:p=⟨0,0,-1,0⟩:=by simpa using hp
  subst this;exact h
theorem edge_go {m:SSys} {t:SS} (hm:okSys m) (ht:oK t) {x y:Nat} (hx:x<m.sT.length) (hy:y<t.sT.length) (ha:offM m x∈acc t y) {e:PP} (he:e∈edg m x):
 e.1.toNat<t.aC.length∧0≤ix (nxt t y) e.1.toNat∧ix (nxt t y) e.1.toNat<(t.sT.length:Int):=by
 have:=or_go ht hy (a:=e.1.toNat) ((orAll_has _ _).2 ⟨_,ha,off_has.2 ⟨e,he,rfl⟩⟩)
 exact this
theorem qj_push {m:SSys} {t:SS} (hm:okSys m) (ht:oK t) {q:List Mt} (h:QJ m t q) {i:Nat} (hi:i<q.length) (ha:offM m (ix q i).s.toNat∈acc t (ix q i).t.toNat) {e:PP} (he:e∈edg m (ix q i).s.toNat)
 (hn:(e.2,ix (nxt t (ix q i).t.toNat) e.1.toNat)∉q.map pairOf):QJ m t (q++ [⟨e.2,ix (nxt t (ix q i).t.toNat) e.1.toNat,(i:Int),e.1⟩]):=by
 have hb:=h.bd _ (ix_memS hi)
 have g1:=hm.ed (ix q i).s.toNat O e he
 have g2:=edge_go hm ht (x:=(ix q i).s.toNat) (y:=(ix q i).t.toNat) O O ha he
 refine⟨by simp,by rw[ixM_left h.ne];exact h.hd,fun p hp=> ?_,?_,fun k h1 h2=> ?_,fun R hR h0 p hp=> ?_⟩
 ·rcases List.mem_append.1 hp with hp|hp
  ·exact h.bd p hp
  ·have:p=_:=List.mem_singleton.1 hp
   subst this
   exact⟨g1.2.2.1,g1.2.2.2,g2.2.1,g2.2.2⟩
 ·rw[List.map_append,List.nodup_append]
  exact⟨h.nd,by simp,fun p hp p' hp' e'=>hn (by
   have:p'=_:=List.mem_singleton.1 hp'
   rw[e',this] at hp;exact hp)⟩
 ·simp at h2
  by_cases e':k=q.length
  ·subst e'
   refine⟨i,e,?_⟩
   rw[ixM_last,ixM_left hi]
   exact⟨rfl,rfl,hi,he,rfl,rfl,ha⟩
  ·obtain⟨b,a',p1,p2,p3,p4⟩:=h.back k h1 O
   refine⟨b,a',?_⟩
   rw[ixM_left O,ixM_left O]
   exact⟨p1,p2,p3,p4⟩
 ·rcases List.mem_append.1 hp with hp|hp
  ·exact h.all R hR h0 p hp
  ·have:p=_:=List.mem_singleton.1 hp
   subst this
   have:=(hR.nxt (h.all R hR h0 _ (ix_memS hi)) (e.1.toNat,e.2.toNat) (List.mem_map.2 ⟨e,he,rfl⟩)).2
   exact this
theorem donej_push {m:SSys} {t:SS} {q:List Mt} {p:Mt} {k:Nat} (hk:k<q.length) (h:DoneJ m t q k):DoneJ m t (q++ [p]) k:=by
 unfold DoneJ
 rw[ixM_left hk]
 exact⟨h.1,fun e he=>by rw[List.map_append];exact List.mem_append_left _ (h.2 e he)⟩
theorem qj_back {m:SSys} {t:SS} {q:List Mt} (h:QJ m t q):BackOK q:=fun k hk h0=>by
 rcases Nat.eq_zero_or_pos k with e|e
 ·subst e;rw[h.hd] at h0
  have h0:(0:Int)≤ -1:=h0
  omega
 ·obtain⟨b,a,e1,e2,e3,_⟩:=h.back k e hk
  rw[e1];omega
theorem nodup_pairs:∀(n m:Nat) (l:List (Int × Int)),l.Nodup→(∀p∈l,0≤p.1∧p.1<(n:Int)∧0≤p.2∧p.2<(m:Int))→l.length≤n*m:=by
 intro n m l hnd hb
 have h1:(l.map fun p=>p.1.toNat*m+p.2.toNat).Nodup:=by
  rw[List.nodup_iff_pairwise_ne,List.pairwise_map]
  refine List.Pairwise.imp_of_mem ?_ hnd
  intro a b ha hb' hne e
  have b1:=hb a ha
  have b2:=hb b hb'
  have hm:0<m:=by omega
  have e1:a.1.toNat=b.1.toNat:=by
   have:=congrArg (· /m) e
   simp only [Nat.mul_comm _ m] at this
   rw[Nat.mul_add_div hm,Nat.mul_add_div hm,Nat.div_eq_of_lt O,Nat.div_eq_of_lt O] at this
   omega
  have e2:a.2.toNat=b.2.toNat:=by rw[e1] at e;omega
  exact hne (Prod.ext O O)
 have h2:∀x∈(l.map fun p=>p.1.toNat*m+p.2.toNat),x∈List.range (n*m):=fun x hx=>by
  obtain⟨p,hp,rfl⟩:=List.mem_map.1 hx
  have b1:=hb p hp
  rw[List.mem_range]
  have:(p.1.toNat+1)*m≤n*m:=Nat.mul_le_mul_right m O
  rw[Nat.add_mul] at this
  omega
 have h3:=List.Nodup.length_le_of_subset h1 h2
 simpa using h3
theorem qj_len {m:SSys} {t:SS} {q:List Mt} (h:QJ m t q):q.length≤m.sT.length*t.sT.length:=by
 have:=nodup_pairs m.sT.length t.sT.length (q.map pairOf) h.nd (fun p hp=>by
  obtain⟨m,hm,rfl⟩:=List.mem_map.1 hp
  exact h.bd m hm)
 simpa using this
structure MidJ (m:SSys) (t:SS) (q:List Mt) (i:Nat) (k:Nat) (q2:List Mt) (mm2:List ((Int × Int) × Bool)):Prop where
 qi:QJ m t q2
 sm:smap mm2 q2
 pre:q<+:q2
 dn:∀k,k<i→DoneJ m t q2 k
 al:∀e∈(edg m (ix q i).s.toNat).take k,(e.2,ix (nxt t (ix q i).t.toNat) e.1.toNat)∈q2.map pairOf
theorem preM_ix {q r:List Mt} {k:Nat} (h:q<+:r) (hk:k<q.length):ix r k=ix q k:=by
 obtain⟨u,rfl⟩:=h
 exact ixM_left hk
theorem midj_zero {m:SSys} {t:SS} {q:List Mt} {i:Nat} {mm:List ((Int × Int) × Bool)} (h:QJ m t q) (hs:smap mm q) (hd:∀k,k<i→DoneJ m t q k):MidJ m t q i 0 q mm:=⟨h,hs,List.prefix_rfl,hd,fun e he=>by simp at he⟩
theorem midj_push {m:SSys} {t:SS} (hm:okSys m) (ht:oK t) {q:List Mt} {i k:Nat} {q2:List Mt} {mm2:List ((Int × Int) × Bool)} (h:MidJ m t q i k q2 mm2) (hi:i<q.length) (ha:offM m (ix q i).s.toNat∈acc t (ix q i).t.toNat) (hk:k<(edg m (ix q i).s.toNat).length) {e:PP} (he:ix (edg m (ix q i).s.toNat) k=e)
 {y:Int} (hy:ix (nxt t (ix q i).t.toNat) e.1.toNat=y) (hn:(mget mm2 (e.2,y)).getD false=false):MidJ m t q i (k+1) (q2++ [⟨e.2,y,(i:Int),e.1⟩]) (mset mm2 (e.2,y) true):=by
 subst hy
 have hl:=h.pre.length_le
 have hqi:=preM_ix h.pre hi
 have hem:e∈edg m (ix q i).s.toNat:=by rw[←he];exact ix_memS hk
 have hn':(e.2,ix (nxt t (ix q i).t.toNat) e.1.toNat)∉q2.map pairOf:=by
  rw[smap_get h.sm] at hn
  simpa using hn
 have hp:=qj_push hm ht h.qi (i:=i) O (by rw[hqi];exact ha) (e:=e) (by rw[hqi];exact hem) (by rw[hqi];exact hn')
 rw[hqi] at hp
 refine⟨hp,smap_push h.sm ⟨e.2,ix (nxt t (ix q i).t.toNat) e.1.toNat,(i:Int),e.1⟩,h.pre.trans (List.prefix_append _ _),fun k hk=>donej_push O (h.dn k hk),fun b hb=> ?_⟩
 rw[List.map_append,List.mem_append]
 rw[take_s hk,he,List.mem_append] at hb
 rcases hb with h1|h1
 ·exact .inl (h.al b h1)
 ·have:b=e:=by simpa using h1
  subst this
  exact .inr (List.mem_singleton.2 rfl)
theorem midj_skip {m:SSys} {t:SS} {q:List Mt} {i k:Nat} {q2:List Mt} {mm2:List ((Int × Int) × Bool)} (h:MidJ m t q i k q2 mm2) (hk:k<(edg m (ix q i).s.toNat).length) {e:PP} (he:ix (edg m (ix q i).s.toNat) k=e)
 {y:Int} (hy:ix (nxt t (ix q i).t.toNat) e.1.toNat=y) (hn:(mget mm2 (e.2,y)).getD false=true):MidJ m t q i (k+1) q2 mm2:=by
 subst hy
 refine⟨h.qi,h.sm,h.pre,h.dn,fun b hb=> ?_⟩
 rw[take_s hk,he,List.mem_append] at hb
 rcases hb with h1|h1
 ·exact h.al b h1
 ·have:b=e:=by simpa using h1
  subst this
  rw[smap_get h.sm] at hn
  simpa using hn
theorem midj_end {m:SSys} {t:SS} {q:List Mt} {i k:Nat} {q2:List Mt} {mm2:List ((Int × Int) × Bool)} (h:MidJ m t q i k q2 mm2) (hi:i<q.length) (ha:offM m (ix q i).s.toNat∈acc t (ix q i).t.toNat) (hk:(edg m (ix q i).s.toNat).length≤k):
 QJ m t q2∧smap mm2 q2∧i+1≤q2.length∧∀k,k<i+1→DoneJ m t q2 k:=by
 have hl:=h.pre.length_le
 refine⟨h.qi,h.sm,O,fun j hj=> ?_⟩
 by_cases e:j=i
 ·subst e
  have hqi:=preM_ix h.pre hi
  have hal:=h.al
  rw[List.take_of_length_le hk] at hal
  unfold DoneJ
  rw[hqi]
  exact⟨ha,hal⟩
 ·exact h.dn j O
theorem sat_yes {m:SSys} {t:SS} (hm:okSys m) (ht:oK t) {q:List Mt} (h:QJ m t q) (hd:∀k,k<q.length→DoneJ m t q k):SatM m t:=by
 have hat:∀{x y:Nat},((x:Int),(y:Int))∈q.map pairOf→∃k,k<q.length∧(ix q k).s=(x:Int)∧(ix q k).t=(y:Int):=fun {x y} hm=>by
  obtain⟨m,hm,e⟩:=List.mem_map.1 hm
  obtain⟨k,hk,rfl⟩:=List.getElem_of_mem hm
  unfold pairOf at e
  simp only [Prod.mk.injEq] at e
  exact⟨k,hk,by rw[ix_get hk];exact e.1,by rw[ix_get hk];exact e.2⟩
 refine⟨fun x y=>((x:Int),(y:Int))∈q.map pairOf,⟨fun {x y} hm=> ?_,fun {x y} hm=> ?_,fun {x y} hxy e he=> ?_,fun {x y} hxy e he=> ?_⟩,?_⟩
 ·obtain⟨k,hk,e1,e2⟩:=hat hm
  have:=h.bd _ (ix_memS hk)
  omega
 ·obtain⟨k,hk,e1,e2⟩:=hat hm
  have:=(hd k hk).1
  rw[e1,e2,Int.toNat_natCast,Int.toNat_natCast] at this
  exact this
 ·obtain⟨k,hk,e1,e2⟩:=hat hxy
  have hb:=h.bd _ (ix_memS hk)
  have ha:=(hd k hk).1
  rw[e1,e2,Int.toNat_natCast,Int.toNat_natCast] at ha
  obtain⟨e',he',rfl⟩:=List.mem_map.1 he
  have:=(edge_go hm ht (x:=x) (y:=y) O O ha he').1
  show e'.1.toNat<_
  rw[(ht.st y O).len];exact this
 ·obtain⟨k,hk,e1,e2⟩:=hat hxy
  have hb:=h.bd _ (ix_memS hk)
  obtain⟨ha,hed⟩:=hd k hk
  rw[e1,e2,Int.toNat_natCast,Int.toNat_natCast] at ha
  rw[e1,e2,Int.toNat_natCast,Int.toNat_natCast] at hed
  obtain⟨e',he',rfl⟩:=List.mem_map.1 he
  have g1:=(edge_go hm ht (x:=x) (y:=y) O O ha he').2.1
  have g2:=hm.ed x O e' he'
  have g3:=hed e' he'
  refine⟨g1,?_⟩
  show(((e'.2.toNat:Nat):Int),_)∈_
  rw[show((e'.2.toNat:Nat):Int)=e'.2 by omega,show(((ix (nxt t y) e'.1.toNat).toNat:Nat):Int)=ix (nxt t y) e'.1.toNat by omega]
  exact g3
 ·have:=ix_memS (l:=q) h.ne
  rw[h.hd] at this
  exact List.mem_map.2 ⟨_,this,rfl⟩
theorem sat_no {m:SSys} {t:SS} {q:List Mt} (h:QJ m t q) {i:Nat} (hi:i<q.length) (hn:offM m (ix q i).s.toNat∉acc t (ix q i).t.toNat):¬SatM m t:=fun⟨R,hR,h0⟩=>hn (hR.acc (h.all R hR h0 _ (ix_memS hi)))
structure VJ where
 holds:Bool
 pairs:List PP
 word:List Int
 state:Int
structure JudgeOK (m:SSys) (t:SS) (v:VJ):Prop where
 yes:v.holds=true→SatM m t∧v.word= []∧v.state=0∧∃q,QJ m t q∧(∀k,k<q.length→DoneJ m t q k)∧v.pairs=sortP (q.map pairOf)
 no:v.holds=false→¬SatM m t∧v.pairs= []∧∃q i,QJ m t q∧i<q.length∧v.word=wordTo q i∧v.state=(ix q i).s∧(∀k,k<i→DoneJ m t q k)∧offM m (ix q i).s.toNat∉acc t (ix q i).t.toNat
theorem judge_iff {m:SSys} {t:SS} {v:VJ} (h:JudgeOK m t v):v.holds=true↔SatM m t:=by
 constructor
 ·exact fun e=>(h.yes e).1
 ·intro hs
  cases e:v.holds with
  |true=>rfl
  |false=>exact absurd hs (h.no e).1
end JudgM
end
section
open ref01 ref03 ref04 ref06 prog prog2 prog3 prog6 prog13 prog15 starts search Part Rungs LeftM TrimM RoundM BisM BisM5 WalkM StepM WitM JudgM refw judg wit
def ordI (d e:Int × Int):Int:=if d.1=e.1 then d.2- e.2 else d.1- e.1
theorem ordI_lt {d e:Int × Int} (h:¬0≤ordI d e):d.1<e.1∨(d.1=e.1∧d.2<e.2):=by
 unfold ordI at h
 split at h<;>omega
theorem ordI_ge {d e:Int × Int} (h:0≤ordI d e):¬(d.1<e.1∨(d.1=e.1∧d.2<e.2)):=by
 unfold ordI at h
 split at h<;>omega
def edgeOK (A N:Nat) (e:Int × Int):Bool:=decide (0≤e.1)&&decide (e.1<(A:Int))&&decide (0≤e.2)&&decide (e.2<(N:Int))
theorem edgeOK_iff {A N:Nat} {e:Int × Int}:edgeOK A N e=true↔0≤e.1∧e.1<(A:Int)∧0≤e.2∧e.2<(N:Int):=by
 unfold edgeOK;simp[and_assoc]
def ltP (d e:Int × Int):Bool:=decide (d.1<e.1)||(decide (d.1=e.1)&&decide (d.2<e.2))
theorem ltP_iff {d e:Int × Int}:ltP d e=true↔d.1<e.1∨(d.1=e.1∧d.2<e.2):=by unfold ltP;simp
def edgesOK (A N:Nat) (l:List (Int × Int)):Bool:=l.all (edgeOK A N)&&(List.range (l.length- 1)).all fun i=>ltP (ix l i) (ix l (i+1))
def sumLen (l:List (List (Int × Int))):Nat:=(l.map List.length).sum
theorem sumLen_snoc (l:List (List (Int × Int))) (x:List (Int × Int)):sumLen (l++ [x])=sumLen l+x.length:=by simp[sumLen]
theorem sumLen_take (l:List (List (Int × Int))) (k:Nat):sumLen (l.take k)≤sumLen l:=by
 conv=>rhs;rw[←List.take_append_drop k l]
 unfold sumLen
 rw[List.map_append,List.sum_append];omega
theorem sumLen_ix {l:List (List (Int × Int))} {k:Nat} (h:k<l.length):(ix l k).length≤sumLen l:=by
 have:=sumLen_take l (k+1)
 rw[take_s h,sumLen_snoc] at this
 omega
def sysOK (m:SSys):Bool:=actionsOK m.aC&&decide (1≤m.sT.length)&&decide (m.sT.length≤5000)&&m.sT.all (edgesOK m.aC.length m.sT.length)&&decide (sumLen m.sT≤400000)
theorem sysOK_ok {m:SSys} (h:sysOK m=true):okSys m:=by
 unfold sysOK at h
 simp only [Bool.and_eq_true,decide_eq_true_eq] at h
 obtain⟨⟨⟨⟨h1,h2⟩,h3⟩,h4⟩,h5⟩:=h
 refine⟨h1,actionsOK_len h1,h2,O,fun x hx e he=> ?_,fun x hx=> ?_⟩
 ·have g:=all_ix h4 hx
  unfold edgesOK at g
  rw[Bool.and_eq_true] at g
  exact edgeOK_iff.1 (List.all_eq_true.1 g.1 e he)
 ·exact Nat.le_trans (sumLen_ix hx) h5
theorem edges_of {A N:Nat} {l:List (Int × Int)} (h1:∀j,j<l.length→edgeOK A N (ix l j)=true) (h2:∀j,j+1<l.length→ltP (ix l j) (ix l (j+1))=true):edgesOK A N l=true:=by
 unfold edgesOK
 rw[Bool.and_eq_true]
 refine⟨List.all_eq_true.2 (fun e he=> ?_),List.all_eq_true.2 (fun j hj=>h2 j (by have:=List.mem_range.1 hj;omega))⟩
 obtain⟨j,hj,rfl⟩:=List.getElem_of_mem he
 rw[←ix_get hj];exact h1 j hj
theorem edges_no1 {A N:Nat} {l:List (Int × Int)} {j:Nat} (hj:j<l.length) (h:edgeOK A N (ix l j)=false):edgesOK A N l=false:=by
 cases g:edgesOK A N l with
 |false=>rfl
 |true=>
  unfold edgesOK at g
  rw[Bool.and_eq_true] at g
  rw[all_ix g.1 hj] at h;cases h
theorem edges_no2 {A N:Nat} {l:List (Int × Int)} {j:Nat} (hj:j<l.length) (h0:0<j) (h:ltP (ix l (j- 1)) (ix l j)=false):edgesOK A N l=false:=by
 cases g:edgesOK A N l with
 |false=>rfl
 |true=>
  unfold edgesOK at g
  rw[Bool.and_eq_true] at g
  have:=List.all_eq_true.1 g.2 (j- 1) (List.mem_range.2 O)
  rw[show j- 1+1=j by omega,h] at this;cases this
theorem sys_lens {m:SSys} (h:Inh (sys m)):m.aC.length≤140737488355328∧m.sT.length≤140737488355328∧∀k,k<m.sT.length→(ix m.sT k).length≤140737488355328:=
 ⟨(h.agg 0 rfl).len,(h.agg 1 rfl).len,fun _ hk=>((h.agg 1 rfl).el (gK hk) 0 rfl).len⟩
namespace T
theorem fld94_0:FieldAt Tryz.prog 94 0 0:=fieldAt_of kR
theorem fld94_1:FieldAt Tryz.prog 94 1 1:=fieldAt_of kR
theorem sl87:IsSlice Tryz.prog 87 94 2:=isSlice_of kR
theorem agg94:IsAgg Tryz.prog 94 2:=isAgg_of kR
theorem z94:ZeroIs Tryz.prog 94 [.int .i64 0,.int .i64 0]:=zeroIs_of kR
theorem fld25_1:FieldAt Tryz.prog 25 1 1:=fieldAt_of kR
theorem one23:IsOne Tryz.prog 23:=isOne_of kR
theorem sl23:IsSlice Tryz.prog 23 87 1:=isSlice_of kR
theorem fld25_0:FieldAt Tryz.prog 25 0 0:=fieldAt_of kR
theorem one87:IsOne Tryz.prog 87:=isOne_of kR
theorem ent114:Ent Tryz.prog 114:=ent_of kR
end T
namespace sysw
theorem order_ok (d e:Int × Int) (hd:bdP d) (he:bdP e):
 Fn0 Tryz.prog 114 [agg [int d.1,int d.2],agg [int e.1,int e.2]] (int (ordI d e)):=by
 refine fnI Tryz.func114 rfl rfl (fun w0 F0=> ?_)
 unfold bdP at hd he
 refine sq (rg (bx (key:=2) (cs:= [int d.1,int d.2]) J fun b2=>(bx (key:=3) (cs:= [int e.1,int e.2]) J fun b3=>(ag (nl (th (sq (sq (rg (fP J T.fld94_0 (lP J J J T.one3 (fP J T.fld94_0 (lP J J J T.one3 (bi J J b_neq (nl (th ?_))))))))))))))))
 refine cd J (fun hc0=> ?_) (fun hc0=> ?_)
 ·try simp at hc0
  refine sq (rg (fP J T.fld94_0 (lP J J J T.one3 (fP J T.fld94_0 (lP J J J T.one3 (bi J J (b_sub i6) (ag (nl (th (rt (rt_ ?_)))))))))))
  have hr0:((d.1- e.1):Int)=(ordI d e):=by
   unfold ordI;rw[if_neg hc0]
  exact rE () [.tmp 4] J [int (d.1- e.1)] ⟨.tmp J,tV⟩ (cA1 (fun x0=>rV [int x0]) hr0) trivial eX
 ·try simp at hc0
  refine sk (th (sq (rg (fP J T.fld94_1 (lP J J J T.one3 (fP J T.fld94_1 (lP J J J T.one3 (bi J J (b_sub i6) (ag (nl (th (rt ?_))))))))))))
  have hr0:((d.2- e.2):Int)=(ordI d e):=by
   unfold ordI;rw[if_pos hc0]
  exact rE () [.tmp 4] J [int (d.2- e.2)] ⟨.tmp J,tV⟩ (cA1 (fun x0=>rV [int x0]) hr0) trivial eX
theorem Offers_ok (l:List (Int × Int)) (hl:∀e∈l,0≤e.1∧e.1<8):
 Fn0 Tryz.prog 98 [sl 2 pE l] (int (offE l)):=by
 refine fnI Tryz.func98 rfl rfl (fun w0 F0=> ?_)
 refine fcC (slenI 0 J) (fun hm0=> ?_)
 refine sq (rg (ag (nl (th (sq (rg (ag (nl (th (sq (sq (rg (mv (lnF J T.sl87 (mv (nl (th (bk ?_))))))))))))))))))
 have hI0_0:0≤l.length:=by
  first|omega|simp
 have hI0_1:(0:Int)=offE (l.take 0)∧0≤(0:Int)∧(0:Int)<256:=by
  exact⟨rfl,O,O⟩
 refine lp (κ:=Nat × Int) (fun p=> [(2,int 0),(3,int p.2),(6,sl 2 pE l),(7,int (l.length:Int)),(8,int (p.1:Int))]) (fun p=> []) (fun p=>(p.1≤l.length)∧(p.2=offE (l.take p.1)∧0≤p.2∧p.2<256)) (fun p=>l.length- p.1) ⟨0,(0:Int)⟩ ⟨hI0_0,hI0_1⟩ ⟨id,id,id,id,id,tV⟩ trivial ?_
 intro⟨k,u⟩ hG0
 obtain⟨hk0,⟨hu,hu0,hu1⟩⟩:(k≤l.length)∧(u=offE (l.take k)∧0≤u∧u<256):=hG0
 show Ct _ _ _ _ [(2,int 0),(3,int u),(6,sl 2 pE l),(7,int (l.length:Int)),(8,int (k:Int))] [] _
 refine sq (rg (bi J J b_lss (nl (th (sq ?_)))))
 refine cd J (fun hc0=> ?_) (fun hc0=> ?_)
 ·try simp at hc0
  have hek:=hl _ (ix_memS hc0)
  have hp:2^ ((ix l k).1).toNat≤2^7:=Nat.pow_le_pow_right O O
  have hp0:0≤((2^ ((ix l k).1).toNat:Nat):Int):=Int.natCast_nonneg _
  refine sk (th (sq (bk (sq (rg (iF J J T.sl87 O gB (lFA J T.agg94 (Nat.le_of_ble_eq_true J) (al (key:=5) T.z94 (eC (eC eZ)) fun b5=>(sPA (cs':= [int ((ix l k).1),int ((ix l k).2)]) J J J T.agg94 J J (nl (th (rg (mv (fP J T.fld94_0 (lP J J J T.one3 (bi J J (b_shlI O O) (bi J J (b_orI O O O O) (ag (nl (eb (th (rg (bi J J (b_add i6) (mv (nl ?_)))))))))))))))))))))))))
  have hN0:(k+1)≤l.length:=by
   first|omega|simp_all
  have hN1:((u.toNat|||(2^ ((ix l k).1).toNat):Nat):Int)=offE (l.take (k+1))∧0≤((u.toNat|||(2^ ((ix l k).1).toNat):Nat):Int)∧((u.toNat|||(2^ ((ix l k).1).toNat):Nat):Int)<256:=by
   refine⟨?_,O,or_lt256 (b:=((2^ ((ix l k).1).toNat:Nat):Int)) hu1 O⟩
   rw[take_s hc0]
   unfold offE
   rw[List.map_append,List.map_cons,List.map_nil,orAll_snoc,hu];rfl
  exact ln (⟨k+1,((u.toNat|||(2^ ((ix l k).1).toNat):Nat):Int)⟩:Nat × Int) ⟨hN0,hN1⟩ dO ⟨id,id,id,id,id,tV⟩ trivial
 ·try simp at hc0
  refine ex (xt_ (xt_ (xb (th (sq (rg (mv (ag (nl (th (rt ?_)))))))))))
  have hr0:(u:Int)=(offE l):=by
   rw[hu,show k=l.length by omega,List.take_length]
  exact rE () [.tmp 2] J [int u] ⟨.tmp J,tV⟩ (cA1 (fun x0=>rV [int x0]) hr0) trivial eX
theorem Valid_ok (m:SSys):
 Fn0 Tryz.prog 66 [sys m] (bl (sysOK m)):=by
 refine fnI Tryz.func66 rfl rfl (fun w0 F0=> ?_)
 refine fcC (inhS 0 J) (fun hS0=> ?_)
 obtain⟨hma0,hms0,hme0⟩:=sys_lens hS0
 refine sq (rg (bx (key:=1) (cs:= [sl 1 rE_ m.aC,sl 1 gE m.sT]) J fun b1=>(ag (nl (th (sq (rg (fP J T.fld25_1 (lP J J J T.one23 (fc (slenI 10 J) fun hm10=>(lnF J T.sl23 (ag (nl (th (sq (sq (rg (fP J T.fld25_0 (lP J J J T.one22 (cal0 (φs:= [sl 1 rE_ m.aC]) (φ:=bl (actionsOK m.aC)) ⟨J,tV⟩ (prog.aValid_ok _) T.ent113 (no J (mv ?_))))))))))))))))))))))
 apply gOr (t:=16) (pd:=19) rfl
 rotate_left
 ·intro hg0 fin
  have hg0':=hg0
  try simp at hg0'
  exact gy J J J hg0 (mv (gy J J J hg0 (bi J J b_lss (pkF J hg0 J (drp (X:= [(18,_),(17,_)]) ⟨J,J,tV⟩ fin)))))
 ·intro hg0 fin
  exact gn J J J hg0 J J (gn J J J hg0 J J (pkT J hg0 J (drp (X:= [(18,_),(17,_)]) ⟨J,J,tV⟩ fin)))
 refine mv ?_
 apply gOr (t:=20) (pd:=23) rfl
 rotate_left
 ·intro hg1 fin
  have hg1':=hg1
  try simp at hg1'
  exact gy J J J hg1 (mv (gy J J J hg1 (bi J J b_gtr (pkF J hg1 J (drp (X:= [(22,_),(21,_)]) ⟨J,J,tV⟩ fin)))))
 ·intro hg1 fin
  exact gn J J J hg1 J J (gn J J J hg1 J J (pkT J hg1 J (drp (X:= [(22,_),(21,_)]) ⟨J,J,tV⟩ fin)))
 refine nl (th ?_)
 refine cd J (fun hc0=> ?_) (fun hc0=> ?_)
 ·try simp at hc0
  refine sq (rg (ag (nl (th (rt (rt_ ?_))))))
  have hr0:false=(sysOK m):=by
   unfold sysOK
   by_cases h:actionsOK m.aC=true
   ·simp[h] at hc0 ⊢
    omega
   ·simp[h]
  exact rE () [.tmp 2] J [bl false] ⟨.tmp J,tV⟩ (cA1 (fun x0=>rV [bl x0]) hr0) trivial eX
 ·try simp at hc0
  have hact:=actionsOK_len (l:=m.aC) (by simp_all)
  refine sk (th (sq (rg (ag (nl (th (sq (sq (rg (fP J T.fld25_1 (lP J J J T.one23 (lnF J T.sl23 (mv (nl (th (bk ?_))))))))))))))))
  have hI0_0:0≤m.sT.length:=by
   first|omega|simp
  have hI0_1:(0:Int)=(sumLen (m.sT.take 0):Int)∧(m.sT.take 0).all (edgesOK m.aC.length m.sT.length)=true∧(0:Int)≤400000:=by
   exact⟨rfl,by simp,O⟩
  refine lp (κ:=Nat × Int) (fun p=> [(1,ptr 1 b1 0),(3,int (m.sT.length:Int)),(4,int p.2),(25,sl 1 gE m.sT),(26,int (m.sT.length:Int)),(27,int (p.1:Int))]) (fun p=> [(1,cell b1 [sl 1 rE_ m.aC,sl 1 gE m.sT])]) (fun p=>(p.1≤m.sT.length)∧(p.2=(sumLen (m.sT.take p.1):Int)∧(m.sT.take p.1).all (edgesOK m.aC.length m.sT.length)=true∧p.2≤400000)) (fun p=>m.sT.length- p.1) ⟨0,(0:Int)⟩ ⟨hI0_0,hI0_1⟩ ⟨id,id,id,id,id,id,tV⟩ ⟨rI,tV⟩ ?_
  intro⟨k,n⟩ hG0
  obtain⟨hk0,⟨hn,hal,hn4⟩⟩:(k≤m.sT.length)∧(n=(sumLen (m.sT.take k):Int)∧(m.sT.take k).all (edgesOK m.aC.length m.sT.length)=true∧n≤400000):=hG0
  show Ct _ _ _ _ [(1,ptr 1 b1 0),(3,int (m.sT.length:Int)),(4,int n),(25,sl 1 gE m.sT),(26,int (m.sT.length:Int)),(27,int (k:Int))] [(1,cell b1 [sl 1 rE_ m.aC,sl 1 gE m.sT])] _
  have hmk:=hme0 k
  refine sq (rg (bi J J b_lss (nl (th (sq ?_)))))
  refine cd J (fun hc1=> ?_) (fun hc1=> ?_)
  ·try simp at hc1
   refine sk (th (sq (bk (sq (rg (iF J J T.sl23 O gB (lF J J T.one87 (ag (nl (th (sq (rg (mv (mv (fc (slenI 32 J) fun hm32=>(lnF J T.sl87 (bi J J (b_add i6) (ag (nl (th (sq (sq (rg (mv (bi J J b_gtr (nl (th ?_)))))))))))))))))))))))))))
   refine cd J (fun hc2=> ?_) (fun hc2=> ?_)
   ·try simp at hc2
    refine sq (rg (ag (nl (th (rt (rt_ (rb (rt_ (rt_ (rb (rt_ ?_)))))))))))
    have hr0:false=(sysOK m):=by
     unfold sysOK
     rw[decide_eq_false (p:=sumLen m.sT≤400000) (by have:=sumLen_take m.sT (k+1);rw[take_s O,sumLen_snoc] at this;omega)]
     simp
    exact rE () [.tmp 2] J [bl false] ⟨.tmp J,tV⟩ (cA1 (fun x0=>rV [bl x0]) hr0) trivial eX
   ·try simp at hc2
    refine sk (th (sq (rg (mv (lnF J T.sl87 (mv (nl (th (bk ?_)))))))))
    have hI1_0:0≤(ix m.sT k).length:=by
     first|omega|simp
    have hI1_1:(∀j,j<0→edgeOK m.aC.length m.sT.length (ix (ix m.sT k) j)=true)∧∀j,j+1<0→ltP (ix (ix m.sT k) j) (ix (ix m.sT k) (j+1))=true:=by
     exact⟨fun j hj=>by omega,fun j hj=>by omega⟩
    refine lp (κ:=Nat) (fun p=> [(1,ptr 1 b1 0),(3,int (m.sT.length:Int)),(4,int (n+((ix m.sT k).length:Int))),(6,sl 2 pE (ix m.sT k)),(25,sl 1 gE m.sT),(26,int (m.sT.length:Int)),(27,int (k:Int)),(37,sl 2 pE (ix m.sT k)),(38,int ((ix m.sT k).length:Int)),(39,int (p:Int))]) (fun p=> [(1,cell b1 [sl 1 rE_ m.aC,sl 1 gE m.sT])]) (fun p=>(p≤(ix m.sT k).length)∧((∀j,j<p→edgeOK m.aC.length m.sT.length (ix (ix m.sT k) j)=true)∧∀j,j+1<p→ltP (ix (ix m.sT k) j) (ix (ix m.sT k) (j+1))=true)) (fun p=>(ix m.sT k).length- p) 0 ⟨hI1_0,hI1_1⟩ ⟨id,id,id,id,id,id,id,id,id,id,tV⟩ ⟨rI,tV⟩ ?_
    intro k1 hG1
    obtain⟨hk1,hI1⟩:(k1≤(ix m.sT k).length)∧((∀j,j<k1→edgeOK m.aC.length m.sT.length (ix (ix m.sT k) j)=true)∧∀j,j+1<k1→ltP (ix (ix m.sT k) j) (ix (ix m.sT k) (j+1))=true):=hG1
    refine sq (rg (bi J J b_lss (nl (th (sq ?_)))))
    refine cd J (fun hc3=> ?_) (fun hc3=> ?_)
    ·try simp at hc3
     refine sk (th (sq (bk (sq (rg (mv (iF J J T.sl87 O gB (lFA J T.agg94 (Nat.le_of_ble_eq_true J) (al (key:=8) T.z94 (eC (eC eZ)) fun b8=>(ag (sPA (cs':= [int ((ix (ix m.sT k) k1).1),int ((ix (ix m.sT k) k1).2)]) J J J T.agg94 J J (nl (th (sq (dr (nh:=36) [0,1,3,7,15,31,15,79,207,511,1023,2047,4095,8191,16383,32767,65535,131071,262143,131071,1048575,2097151,4194303,8388607,16777215,33554431,67108863,67108863,201326591,536870911,1073741823,67108863,4294967295,8589934591,17179869183,34359738367] T.mixed kR ?_)))))))))))))))
     refine st_ J (fun _ _ _ gq kq=>fP (gq.1.trans J) T.fld94_0 kq) ?_
     refine st_ J (fun _ _ _ gq kq=>lP (gq.1.trans J) J J T.one3 kq) ?_
     refine st_ J (fun _ _ _ gq kq=>bi (gq.1.trans J) J b_lss kq) ?_
     refine st_ J (fun _ _ _ gq kq=>mv' (gq.1.trans J) kq) ?_
     refine sg_ (φ:=ptr 8 b8 0) J J J J (List.mem_of_elem_eq_true J) (fun hgd=> ?_) ?_
     ·have hgd':=hgd
      try simp at hgd'
      exact fun _ _ _ gq kq=>fP (gq.1.trans J) T.fld94_0 kq
     refine sg_ (φ:=int ((ix (ix m.sT k) k1).1)) J J J J (List.mem_of_elem_eq_true J) (fun hgd=> ?_) ?_
     ·have hgd':=hgd
      try simp at hgd'
      exact fun _ _ _ gq kq=>lP (gq.1.trans (gif_t hgd)) J J T.one3 kq
     refine sg_ (φ:=ptr 1 b1 0) J J J J (List.mem_of_elem_eq_true J) (fun hgd=> ?_) ?_
     ·have hgd':=hgd
      try simp at hgd'
      exact fun _ _ _ gq kq=>fP (gq.1.trans J) T.fld25_0 kq
     refine sg_ (φ:=sl 1 rE_ m.aC) J J J J (List.mem_of_elem_eq_true J) (fun hgd=> ?_) ?_
     ·have hgd':=hgd
      try simp at hgd'
      exact fun _ _ _ gq kq=>lP (gq.1.trans (gif_t hgd)) J J T.one22 kq
     refine sg_ (φ:=int (m.aC.length:Int)) J J J J (List.mem_of_elem_eq_true J) (fun hgd=> ?_) ?_
     ·have hgd':=hgd
      try simp at hgd'
      exact fun _ _ _ gq kq=>lnF (gq.1.trans (gif_t hgd)) T.sl22 kq
     refine sg_ (φ:=bl (decide ((m.aC.length:Int)≤((ix (ix m.sT k) k1).1)))) J J J J (List.mem_of_elem_eq_true J) (fun hgd=> ?_) ?_
     ·have hgd':=hgd
      try simp at hgd'
      exact fun _ _ _ gq kq=>bi (gq.1.trans (gif_t hgd)) (gq.2.1.trans (gif_t hgd)) b_geq kq
     refine st_ J (fun _ _ _ gq kq=>pk (gq.1.trans J) (pk_or (x:= .tmp 47) (gq.1.trans J) (gq.2.1.trans J) J) kq) ?_
     refine st_ J (fun _ _ _ gq kq=>mv' (gq.1.trans J) kq) ?_
     refine sg_ (φ:=ptr 8 b8 1) J J J J (List.mem_of_elem_eq_true J) (fun hgd=> ?_) ?_
     ·have hgd':=hgd
      try simp at hgd'
      exact fun _ _ _ gq kq=>fP (gq.1.trans J) T.fld94_1 kq
     refine sg_ (φ:=int ((ix (ix m.sT k) k1).2)) J J J J (List.mem_of_elem_eq_true J) (fun hgd=> ?_) ?_
     ·have hgd':=hgd
      try simp at hgd'
      exact fun _ _ _ gq kq=>lP (gq.1.trans (gif_t hgd)) J J T.one3 kq
     refine sg_ (φ:=bl (decide (((ix (ix m.sT k) k1).2)<0))) J J J J (List.mem_of_elem_eq_true J) (fun hgd=> ?_) ?_
     ·have hgd':=hgd
      try simp at hgd'
      exact fun _ _ _ gq kq=>bi (gq.1.trans (gif_t hgd)) J b_lss kq
     refine st_ J (fun _ _ _ gq kq=>pk (gq.1.trans J) (pk_or (x:= .tmp 55) (gq.1.trans J) (gq.2.1.trans J) J) kq) ?_
     refine st_ J (fun _ _ _ gq kq=>mv' (gq.1.trans J) kq) ?_
     refine sg_ (φ:=ptr 8 b8 1) J J J J (List.mem_of_elem_eq_true J) (fun hgd=> ?_) ?_
     ·have hgd':=hgd
      try simp at hgd'
      exact fun _ _ _ gq kq=>fP (gq.1.trans J) T.fld94_1 kq
     refine sg_ (φ:=int ((ix (ix m.sT k) k1).2)) J J J J (List.mem_of_elem_eq_true J) (fun hgd=> ?_) ?_
     ·have hgd':=hgd
      try simp at hgd'
      exact fun _ _ _ gq kq=>lP (gq.1.trans (gif_t hgd)) J J T.one3 kq
     refine sg_ (φ:=int (m.sT.length:Int)) J J J J (List.mem_of_elem_eq_true J) (fun hgd=> ?_) ?_
     ·have hgd':=hgd
      try simp at hgd'
      exact fun _ _ _ gq kq=>mv' (gq.1.trans J) kq
     refine sg_ (φ:=bl (decide ((m.sT.length:Int)≤((ix (ix m.sT k) k1).2)))) J J J J (List.mem_of_elem_eq_true J) (fun hgd=> ?_) ?_
     ·have hgd':=hgd
      try simp at hgd'
      exact fun _ _ _ gq kq=>bi (gq.1.trans (gif_t hgd)) (gq.2.1.trans (gif_t hgd)) b_geq kq
     refine st_ J (fun _ _ _ gq kq=>pk (gq.1.trans J) (pk_or (x:= .tmp 60) (gq.1.trans J) (gq.2.1.trans J) J) kq) ?_
     refine st_ J (fun _ _ _ gq kq=>mv' (gq.1.trans J) kq) ?_
     refine sg_ (φ:=int (k1:Int)) J J J J (List.mem_of_elem_eq_true J) (fun hgd=> ?_) ?_
     ·have hgd':=hgd
      try simp at hgd'
      exact fun _ _ _ gq kq=>mv' (gq.1.trans J) kq
     refine sg_ (φ:=bl (decide (0<(k1:Int)))) J J J J (List.mem_of_elem_eq_true J) (fun hgd=> ?_) ?_
     ·have hgd':=hgd
      try simp at hgd'
      exact fun _ _ _ gq kq=>bi (gq.1.trans (gif_t hgd)) J b_gtr kq
     refine sg_ (φ:=bl (decide (0<(k1:Int)))) J J J J (List.mem_of_elem_eq_true J) (fun hgd=> ?_) ?_
     ·have hgd':=hgd
      try simp at hgd'
      exact fun _ _ _ gq kq=>mv' (gq.1.trans (gif_t hgd)) kq
     refine sg2_ (φ:=sl 2 pE (ix m.sT k)) rfl rfl rfl rfl (List.mem_of_elem_eq_true rfl) (fun hgd hgd2=> ?_) ?_
     ·have hgd':=hgd
      try simp at hgd'
      have hgd2':=hgd2
      try simp at hgd2'
      exact fun _ _ _ gq kq=>mv' (gq.1.trans J) kq
     refine sg2_ (φ:=int (k1:Int)) rfl rfl rfl rfl (List.mem_of_elem_eq_true rfl) (fun hgd hgd2=> ?_) ?_
     ·have hgd':=hgd
      try simp at hgd'
      have hgd2':=hgd2
      try simp at hgd2'
      exact fun _ _ _ gq kq=>mv' (gq.1.trans J) kq
     refine sg2_ (φ:=int ((k1:Int)- 1)) rfl rfl rfl rfl (List.mem_of_elem_eq_true rfl) (fun hgd hgd2=> ?_) ?_
     ·have hgd':=hgd
      try simp at hgd'
      have hgd2':=hgd2
      try simp at hgd2'
      exact fun _ _ _ gq kq=>bi (gq.1.trans (gif_t2 hgd hgd2)) J (b_sub i6) kq
     refine sg2_ (φ:=fp [int ((ix (ix m.sT k) ((k1:Int)- 1).toNat).1),int ((ix (ix m.sT k) ((k1:Int)- 1).toNat).2)]) rfl rfl rfl rfl (List.mem_of_elem_eq_true rfl) (fun hgd hgd2=> ?_) ?_
     ·have hgd':=hgd
      try simp at hgd'
      have hgd2':=hgd2
      try simp at hgd2'
      exact fun _ _ _ gq kq=>iF (gq.1.trans (gif_t2 hgd hgd2)) (gq.2.1.trans (gif_t2 hgd hgd2)) T.sl87 O gB kq
     refine sg2_ (φ:=agg [int ((ix (ix m.sT k) ((k1:Int)- 1).toNat).1),int ((ix (ix m.sT k) ((k1:Int)- 1).toNat).2)]) rfl rfl rfl rfl (List.mem_of_elem_eq_true rfl) (fun hgd hgd2=> ?_) ?_
     ·have hgd':=hgd
      try simp at hgd'
      have hgd2':=hgd2
      try simp at hgd2'
      exact fun _ _ _ gq kq=>lFA (gq.1.trans (gif_t2 hgd hgd2)) T.agg94 (Nat.le_of_ble_eq_true J) kq
     refine sg2_ (φ:=agg [int ((ix (ix m.sT k) k1).1),int ((ix (ix m.sT k) k1).2)]) rfl rfl rfl rfl (List.mem_of_elem_eq_true rfl) (fun hgd hgd2=> ?_) ?_
     ·have hgd':=hgd
      try simp at hgd'
      have hgd2':=hgd2
      try simp at hgd2'
      exact fun _ _ _ gq kq=>lPA (gq.1.trans J) J T.agg94 J kq
     refine sg2_ (φ:=int (ordI ((ix (ix m.sT k) ((k1:Int)- 1).toNat).1,(ix (ix m.sT k) ((k1:Int)- 1).toNat).2) ((ix (ix m.sT k) k1).1,(ix (ix m.sT k) k1).2))) rfl rfl rfl rfl (List.mem_of_elem_eq_true rfl) (fun hgd hgd2=> ?_) ?_
     ·have hgd':=hgd
      try simp at hgd'
      have hgd2':=hgd2
      try simp at hgd2'
      have hp1:=edgeOK_iff.1 (hI1.1 ((k1:Int)- 1).toNat O)
      have hb1:bdP ((ix (ix m.sT k) ((k1:Int)- 1).toNat).1,(ix (ix m.sT k) ((k1:Int)- 1).toNat).2):=by unfold bdP;dsimp only;omega
      have hb2:bdP ((ix (ix m.sT k) k1).1,(ix (ix m.sT k) k1).2):=by unfold bdP;dsimp only;omega
      exact fun _ _ _ gq kq=>cal0 (φs:= [agg [int ((ix (ix m.sT k) ((k1:Int)- 1).toNat).1),int ((ix (ix m.sT k) ((k1:Int)- 1).toNat).2)],agg [int ((ix (ix m.sT k) k1).1),int ((ix (ix m.sT k) k1).2)]]) (φ:=int (ordI ((ix (ix m.sT k) ((k1:Int)- 1).toNat).1,(ix (ix m.sT k) ((k1:Int)- 1).toNat).2) ((ix (ix m.sT k) k1).1,(ix (ix m.sT k) k1).2))) ⟨(gq.1.trans (gif_t2 hgd hgd2)),(gq.2.1.trans (gif_t2 hgd hgd2)),tV⟩ (sysw.order_ok ((ix (ix m.sT k) ((k1:Int)- 1).toNat).1,(ix (ix m.sT k) ((k1:Int)- 1).toNat).2) ((ix (ix m.sT k) k1).1,(ix (ix m.sT k) k1).2) aS aS) T.ent114 kq
     refine sg2_ (φ:=bl (decide (0≤(ordI ((ix (ix m.sT k) ((k1:Int)- 1).toNat).1,(ix (ix m.sT k) ((k1:Int)- 1).toNat).2) ((ix (ix m.sT k) k1).1,(ix (ix m.sT k) k1).2))))) rfl rfl rfl rfl (List.mem_of_elem_eq_true rfl) (fun hgd hgd2=> ?_) ?_
     ·have hgd':=hgd
      try simp at hgd'
      have hgd2':=hgd2
      try simp at hgd2'
      exact fun _ _ _ gq kq=>bi (gq.1.trans (gif_t2 hgd hgd2)) J b_geq kq
     refine sg_ (φ:=bl ((decide (0<(k1:Int)))&&(decide (0≤(ordI ((ix (ix m.sT k) ((k1:Int)- 1).toNat).1,(ix (ix m.sT k) ((k1:Int)- 1).toNat).2) ((ix (ix m.sT k) k1).1,(ix (ix m.sT k) k1).2)))))) J J J J (List.mem_of_elem_eq_true J) (fun hgd=> ?_) ?_
     ·have hgd':=hgd
      try simp at hgd'
      exact fun _ _ _ gq kq=>pk (gq.1.trans (gif_t hgd)) (pk_and (x:= .tmp 69) (gq.1.trans (gif_t hgd)) (gq.2.1.trans (gif_and hgd)) J) kq
     refine st_ J (fun _ _ _ gq kq=>pk (gq.1.trans J) (pk_or (x:= .tmp 66) (gq.1.trans J) (gq.2.1.trans J) J) kq) ?_
     refine pn (nl (th ?_))
     refine cd J (fun hc4=> ?_) (fun hc4=> ?_)
     ·skip
      simp only [Bool.or_eq_true,Bool.and_eq_true,decide_eq_true_eq] at hc4
      refine sq (rg (ag (nl (th (rt (rb (rt_ (rt_ (rb (rb (rt_ (rt_ (rb (rt_ ?_))))))))))))))
      have hr0:false=(sysOK m):=by
       unfold sysOK
       rw[all_fail (xs:=m.sT) (k:=k) O ?_];simp
       have hno:∀{p:Prop},(edgeOK m.aC.length m.sT.length (ix (ix m.sT k) k1)=true→¬p)→p→edgesOK m.aC.length m.sT.length (ix m.sT k)=false:=fun hh hp=>edges_no1 hc3 (by cases g:edgeOK m.aC.length m.sT.length (ix (ix m.sT k) k1) with|false=>rfl|true=>exact absurd hp (hh g))
       rcases hc4 with(((h|h)|h)|h)|h
       ·exact hno (fun g=>by have:=edgeOK_iff.1 g;omega) h
       ·exact hno (fun g=>by have:=edgeOK_iff.1 g;omega) h
       ·exact hno (fun g=>by have:=edgeOK_iff.1 g;omega) h
       ·exact hno (fun g=>by have:=edgeOK_iff.1 g;omega) h
       ·have h5:=ordI_ge h.2
        rw[show((k1:Int)- 1).toNat=k1- 1 by omega] at h5
        refine edges_no2 hc3 O ?_
        cases g:ltP (ix (ix m.sT k) (k1- 1)) (ix (ix m.sT k) k1) with
        |false=>rfl
        |true=>exact absurd (ltP_iff.1 g) h5
      exact rE () [.tmp 2] J [bl false] ⟨.tmp J,tV⟩ (cA1 (fun x0=>rV [bl x0]) hr0) trivial eX
     ·skip
      simp only [Bool.or_eq_false_iff,Bool.and_eq_false_iff,decide_eq_false_iff_not] at hc4
      obtain⟨⟨⟨⟨h41,h42⟩,h43⟩,h44⟩,h45⟩:=hc4
      refine sk (eb (th (rg (bi J J (b_add i6) (mv (nl ?_))))))
      have hN0:(k1+1)≤(ix m.sT k).length:=by
       first|omega|simp_all
      have hN1:(∀j,j<(k1+1)→edgeOK m.aC.length m.sT.length (ix (ix m.sT k) j)=true)∧∀j,j+1<(k1+1)→ltP (ix (ix m.sT k) j) (ix (ix m.sT k) (j+1))=true:=by
       refine⟨fun j hj=> ?_,fun j hj=> ?_⟩
       ·by_cases e:j=k1
        ·subst e;exact edgeOK_iff.2 ⟨O,O,O,O⟩
        ·exact hI1.1 j O
       ·by_cases e:j+1=k1
        ·subst e
         rcases h45 with h|h
         ·exact absurd O h
         ·rw[show(((j+1:Nat):Int)- 1).toNat=j by omega] at h
          exact ltP_iff.2 (ordI_lt h)
        ·exact hI1.2 j O
      exact ln (k1+1) ⟨hN0,hN1⟩ dO ⟨id,id,id,id,id,id,id,id,id,id,tV⟩ ⟨rI,tV⟩
    ·try simp at hc3
     refine ex (xt_ (xt_ (xb (eb (th (rg (bi J J (b_add i6) (mv (nl ?_)))))))))
     have hN0:(k+1)≤m.sT.length:=by
      first|omega|simp_all
     have hN1:(n+((ix m.sT k).length:Int))=(sumLen (m.sT.take (k+1)):Int)∧(m.sT.take (k+1)).all (edgesOK m.aC.length m.sT.length)=true∧(n+((ix m.sT k).length:Int))≤400000:=by
      refine⟨?_,?_,O⟩
      ·rw[take_s O,sumLen_snoc];omega
      ·rw[all_take_succ O,hal,edges_of (fun j hj=>hI1.1 j O) (fun j hj=>hI1.2 j O)];rfl
     exact ln (⟨k+1,n+((ix m.sT k).length:Int)⟩:Nat × Int) ⟨hN0,hN1⟩ dO ⟨id,id,id,id,id,id,tV⟩ ⟨rI,tV⟩
  ·try simp at hc1
   refine ex (xt_ (xt_ (xb (th (sq (rg (ag (nl (th (rt ?_))))))))))
   have hr0:true=(sysOK m):=by
    have hkk:k=m.sT.length:=by omega
    rw[hkk,List.take_length] at hal hn
    unfold sysOK
    rw[hal,hc0.1.1]
    simp;omega
   exact rE () [.tmp 2] J [bl true] ⟨.tmp J,tV⟩ (cA1 (fun x0=>rV [bl x0]) hr0) trivial eX
end sysw
end
section
open ref01 ref03 ref04 ref06 prog prog2 prog3 prog6 Part Rungs LeftM TrimM RoundM BisM BisM5
def everyS (l:List ByteArray):SS:=⟨l,[⟨(List.range (2^l.length)).map fun(x:Nat)=>(x:Int),List.replicate l.length 0⟩]⟩
noncomputable def tstR (s:SS) (x:Int):SA:=⟨(ix (solid s).sT x.toNat).aP,(ix (solid s).sT x.toNat).next.map (mapK (atL s.sT.length (ordS s)))⟩
theorem tstR_eq {s:SS} (hs:oK s) {x:Int} (h0:0≤x) (hx:x<(s.sT.length:Int)):tstR s x=tstate s x:=by
 have hx':x.toNat<s.sT.length:=by omega
 have hl:=solid_next hs hx'
 unfold tstR tstate
 congr 1
 ·exact solid_acc hx'
 ·rw[map_ix_range,hl]
  refine List.map_congr_left fun a ha=> ?_
  have ha:=List.mem_range.1 ha
  have h1:=solid_ix hs hx' ha
  have h2:=(hs.st _ hx').nx a ha
  dsimp only [nxt] at h1 h2 ⊢
  rw[h1]
  by_cases h:has (orAll (keep s x.toNat)) (a:Int)=true
  ·have hg:=can_go hs hx' h
   rw[if_pos h,if_pos h]
   unfold mapK
   rw[if_pos hg.2.1,atL_ix O,Int.toNat_of_nonneg hg.2.1]
  ·rw[if_neg h,if_neg h];rfl
noncomputable def isTrimS (s:SS):Bool:=decide (s=(tR s).1)
namespace T
theorem ent125:Ent Tryz.prog 125:=ent_of kR
theorem ent126:Ent Tryz.prog 126:=ent_of kR
theorem ent127:Ent Tryz.prog 127:=ent_of kR
theorem ent41:Ent Tryz.prog 41:=ent_of kR
theorem ent78:Ent Tryz.prog 78:=ent_of kR
end T
namespace divr
theorem In_ok (l:List Int) (x:Int):
 Fn0 Tryz.prog 128 [ints l,int x] (bl (decide (x∈l))):=by
 refine fnI Tryz.func128 rfl rfl (fun w0 F0=> ?_)
 refine fcC (slenI 0 J) (fun hm0=> ?_)
 refine sq (rg (ag (nl (th (sq (sq (rg (mv (lnF J T.sl66 (mv (nl (th (bk ?_)))))))))))))
 have hI0_0:0≤l.length:=by
  first|omega|simp
 have hI0_1:∀j,j<0→x≠ix l j:=by
  intro j hj;omega
 refine lp (κ:=Nat) (fun p=> [(1,int x),(7,sl 1 nE l),(8,int (l.length:Int)),(9,int (p:Int))]) (fun p=> []) (fun p=>(p≤l.length)∧(∀j,j<p→x≠ix l j)) (fun p=>l.length- p) 0 ⟨hI0_0,hI0_1⟩ ⟨id,id,id,id,tV⟩ trivial ?_
 intro k hG0
 obtain⟨hk0,hI0⟩:(k≤l.length)∧(∀j,j<k→x≠ix l j):=hG0
 refine sq (rg (bi J J b_lss (nl (th (sq ?_)))))
 refine cd J (fun hc0=> ?_) (fun hc0=> ?_)
 ·try simp at hc0
  refine sk (th (sq (bk (sq (rg (iF J J T.sl66 O gB (lF J J T.one3 (ag (nl (th (sq (rg (mv (mv (bi J J b_eql (nl (th ?_)))))))))))))))))
  refine cd J (fun hc1=> ?_) (fun hc1=> ?_)
  ·try simp at hc1
   refine sq (rg (ag (nl (th (rt (rb (rt_ (rt_ (rb (rt_ ?_))))))))))
   have hr0:true=(decide (x∈l)):=by
    exact(decide_eq_true (by rw[hc1];exact ix_mem O)).symm
   exact rE () [.tmp 4] J [bl true] ⟨.tmp J,tV⟩ (cA1 (fun x0=>rV [bl x0]) hr0) trivial eX
  ·try simp at hc1
   refine sk (eb (th (rg (bi J J (b_add i6) (mv (nl ?_))))))
   have hN0:(k+1)≤l.length:=by
    first|omega|simp_all
   have hN1:∀j,j<(k+1)→x≠ix l j:=by
    intro j hj
    by_cases e:j=k
    ·subst e;exact hc1
    ·exact hI0 j O
   exact ln (k+1) ⟨hN0,hN1⟩ dO ⟨id,id,id,id,tV⟩ trivial
 ·try simp at hc0
  refine ex (xt_ (xt_ (xb (th (sq (rg (ag (nl (th (rt ?_))))))))))
  have hr0:false=(decide (x∈l)):=by
   refine(decide_eq_false (fun hx=> ?_)).symm
   obtain⟨j,hj,e⟩:=List.getElem_of_mem hx
   exact hI0 j O (by rw[ix_get hj];exact e.symm)
  exact rE () [.tmp 4] J [bl false] ⟨.tmp J,tV⟩ (cA1 (fun x0=>rV [bl x0]) hr0) trivial eX
theorem Trim_ok (s:SS) (hs:oK s):
 Fn0 Tryz.prog 78 [spec s] (tup [spec (tR s).1,ints (tR s).2]):=by
 refine fnI Tryz.func78 rfl rfl (fun w0 F0=> ?_)
 have hf0:=hs.few0;have hf1:=hs.few1;have hn8:=hs.n8;have hhl:=hollow_len s;have hsl:=solid_len s;have hoq:=order_okQ hs;have hol:=hoq.le;have hnd:(order (solid s)).Nodup:=order_nodup _
 refine fcC (inhS 0 J) (fun hS0=> ?_)
 obtain⟨hsa0,hss0,hse0⟩:=sLn hS0
 refine sq (rg (bx (key:=1) (cs:= [sl 1 rE_ s.aC,sl 2 sE s.sT]) J fun b1=>(al (key:=2) T.z28 (eC (eC eZ)) fun b2=>(ag (nl (th (sq (sq (rg (lPA J J T.agg28 J (cal0 (φs:= [agg [sl 1 rE_ s.aC,sl 2 sE s.sT]]) (φ:=sl 1 blE (hOl s)) ⟨J,tV⟩ (ref04.Hollow_ok s aS) T.ent60 (iF J J T.sl90 O (gK (k:=0) O) (lF J J T.one4 (nl (th ?_)))))))))))))))
 refine cd J (fun hc0=> ?_) (fun hc0=> ?_)
 ·try simp at hc0
  refine sq (rg (fP J T.fld28_0 (lP J J J T.one22 (cal0 (φs:= [sl 1 rE_ s.aC]) (φ:=agg [sl 1 rE_ (nothing s.aC).aC,sl 2 sE (nothing s.aC).sT]) ⟨J,tV⟩ (ref03.Nothing_ok s.aC O) T.ent125 (sPA (cs':= [sl 1 rE_ (nothing s.aC).aC,sl 2 sE (nothing s.aC).sT]) J J J T.agg28 J J (ag (nl (th (rt (rt_ ?_))))))))))
  have hL:=trimmed_hol hc0
  refine knA 3 (sl 1 nE []) rfl slnil ?_
  have hr0:(nothing s.aC).aC=((tR s).1).aC:=by
   rw[hL]
  have hr1:(nothing s.aC).sT=((tR s).1).sT:=by
   rw[hL]
  have hr2: []=((tR s).2):=by
   rw[hL]
  exact rE () [.cell 2 28,.tmp 3] J [agg [sl 1 rE_ (nothing s.aC).aC,sl 2 sE (nothing s.aC).sT],sl 1 nE []] ⟨.agg J J T.agg28 J J,.tmp J,tV⟩ (cA3 (fun x0 x1 x2=>rV [agg [sl 1 rE_ x0,sl 2 sE x1],sl 1 nE x2]) hr0 hr1 hr2) trivial eX
 ·try simp at hc0
  refine sk (th (sq (rg (lPA J J T.agg28 J (cal0 (φs:= [agg [sl 1 rE_ s.aC,sl 2 sE s.sT]]) (φ:=agg [sl 1 rE_ (solid s).aC,sl 2 sE (solid s).sT]) ⟨J,tV⟩ (ref04.Solid_ok s aS) T.ent126 (al (key:=4) T.z28 (eC (eC eZ)) fun b4=>(sPA (cs':= [sl 1 rE_ (solid s).aC,sl 2 sE (solid s).sT]) J J J T.agg28 J J (nl (th (sq (rg (lPA J J T.agg28 J (cal0 (φs:= [agg [sl 1 rE_ (solid s).aC,sl 2 sE (solid s).sT]]) (φ:=sl 1 nE (order (solid s))) ⟨J,tV⟩ (ref04.Order_ok (solid s) (by rw[hsl];omega) (by rw[hsl];omega) (fun k hk=>by rw[hsl] at hk;exact⟨by rw[solid_next hs hk];omega,fun a ha=>by rw[hsl];exact solid_bd hs hk ha⟩)) T.ent127 (ag (nl (th (sq (rg (fP J T.fld28_1 (lP J J J T.one26 (fc (slenI 27 J) fun hm27=>(lnF J T.sl26 (mk (key:=29) (m:=s.sT.length) (enc:=nE) (y:=(0:Int)) J J T.mk66 (eC eZ) mL mL fun v29=>(ag (nl (th (sq (sq (rg (mv (fc (slenI 30 J) fun hm30=>(lnF J T.sl66 (mv (nl (th (bk ?_))))))))))))))))))))))))))))))))))))
  have hI0_0:0≤(order (solid s)).length:=by
   first|omega|simp
  have hI0_1:(List.replicate s.sT.length (0:Int))=atL s.sT.length ((order (solid s)).take 0):=by
   exact atL_zero _
  refine lp (κ:=Nat × (List Int)) (fun p=> [(1,ptr 1 b1 0),(2,ptr 2 b2 0),(3,eqv (.slice none 0 0)),(4,ptr 4 b4 0),(5,sl 1 nE (order (solid s))),(6,osl 29 v29),(30,sl 1 nE (order (solid s))),(31,int ((order (solid s)).length:Int)),(32,int (p.1:Int))]) (fun p=> [(1,cell b1 [sl 1 rE_ s.aC,sl 2 sE s.sT]),(2,cell b2 [eqv (.slice none 0 0),eqv (.slice none 0 0)]),(4,cell b4 [sl 1 rE_ (solid s).aC,sl 2 sE (solid s).sT]),(29,own v29 3 1 nE p.2)]) (fun p=>(p.1≤(order (solid s)).length)∧(p.2=atL s.sT.length ((order (solid s)).take p.1))) (fun p=>(order (solid s)).length- p.1) ⟨0,List.replicate s.sT.length (0:Int)⟩ ⟨hI0_0,hI0_1⟩ ⟨id,id,id,id,id,id,id,id,id,tV⟩ ⟨rI,rI,rI,rI,tV⟩ ?_
  intro⟨k,pl⟩ hG0
  obtain⟨hk0,hI0⟩:(k≤(order (solid s)).length)∧(pl=atL s.sT.length ((order (solid s)).take k)):=hG0
  show Ct _ _ _ _ [(1,ptr 1 b1 0),(2,ptr 2 b2 0),(3,eqv (.slice none 0 0)),(4,ptr 4 b4 0),(5,sl 1 nE (order (solid s))),(6,osl 29 v29),(30,sl 1 nE (order (solid s))),(31,int ((order (solid s)).length:Int)),(32,int (k:Int))] [(1,cell b1 [sl 1 rE_ s.aC,sl 2 sE s.sT]),(2,cell b2 [eqv (.slice none 0 0),eqv (.slice none 0 0)]),(4,cell b4 [sl 1 rE_ (solid s).aC,sl 2 sE (solid s).sT]),(29,own v29 3 1 nE pl)] _
  have hpl:pl.length=s.sT.length:=by rw[hI0];exact atL_len _ _
  refine sq (rg (bi J J b_lss (nl (th (sq ?_)))))
  refine cd J (fun hc1=> ?_) (fun hc1=> ?_)
  ·try simp at hc1
   have hox:=hoq.1 k O
   refine sk (th (sq (bk (sq (rg (mv (iF J J T.sl66 O gB (lF J J T.one3 (ag (ag (nl (th (rg (mv (mv (mv (iO J J J T.sl66 O O (sO (φ:=int (k:Int)) J J J T.one3 gB J (y':=(k:Int)) J (nl (eb (th (rg (bi J J (b_add i6) (mv (nl ?_)))))))))))))))))))))))))
   have hN0:(k+1)≤(order (solid s)).length:=by
    first|omega|simp_all
   have hN1:(pl.set (ix (order (solid s)) k).toNat (k:Int))=atL s.sT.length ((order (solid s)).take (k+1)):=by
    have hat:=atL_snoc (n:=s.sT.length) (fresh hnd (m:=k) O) hox.1 hox.2
    rw[List.length_take,Nat.min_eq_left O] at hat
    rw[hI0,take_s O]
    exact hat
   exact ln (⟨k+1,pl.set (ix (order (solid s)) k).toNat (k:Int)⟩:Nat × (List Int)) ⟨hN0,hN1⟩ dO ⟨id,id,id,id,id,id,id,id,id,tV⟩ ⟨rI,rI,rI,rI,tV⟩
  ·try simp at hc1
   refine ex (xt_ (xt_ (xb (th (sq (rg (fP J T.fld28_0 (lP J J J T.one22 (appendF (enc:=rE_) (ys:=s.aC) J J T.mk22 mL (bd (css:= [(0,_)]) T.st28 (eC (eC eZ)) ⟨J,J,p1 (φ:=sl 1 rE_ s.aC) J,tV⟩ (al (key:=9) T.z28 (eC (eC eZ)) fun b9=>(sPA (cs':= [sl 1 rE_ s.aC,eqv (.slice none 0 0)]) J J J T.agg28 J J (nl (th (sq (sq (rg (mv (lnF J T.sl66 (mv (nl (th (bk ?_)))))))))))))))))))))))
   refine nwC 90 79 2 sE (kncC 9 1 (osl 90 (.slice none 0 0)) rfl rfl eq_osl ?_)
   have hI1_0:0≤(order (solid s)).length:=by
    first|omega|simp
   have hI1_1:([]:List SA)=((order (solid s)).take 0).map (tstR s):=by
    simp
   refine lp (κ:=Nat × Value × (List SA)) (fun p=> [(2,ptr 2 b2 0),(3,eqv (.slice none 0 0)),(4,ptr 4 b4 0),(5,sl 1 nE (order (solid s))),(6,osl 29 v29),(9,ptr 9 b9 0),(46,sl 1 nE (order (solid s))),(47,int ((order (solid s)).length:Int)),(48,int (p.1:Int))]) (fun p=> [(1,cell b1 [sl 1 rE_ s.aC,sl 2 sE s.sT]),(2,cell b2 [eqv (.slice none 0 0),eqv (.slice none 0 0)]),(4,cell b4 [sl 1 rE_ (solid s).aC,sl 2 sE (solid s).sT]),(9,cell b9 [sl 1 rE_ s.aC,osl 90 p.2.1]),(29,own v29 3 1 nE pl),(90,own p.2.1 79 2 sE p.2.2)]) (fun p=>(p.1≤(order (solid s)).length)∧(p.2.2=((order (solid s)).take p.1).map (tstR s))) (fun p=>(order (solid s)).length- p.1) ⟨0,(.slice none 0 0),([]:List SA)⟩ ⟨hI1_0,hI1_1⟩ ⟨id,id,id,id,id,id,id,id,id,tV⟩ ⟨rI,rI,rI,rI,rI,rI,tV⟩ ?_
   intro⟨k1,v2x,acc⟩ hG1
   obtain⟨hk1,hI1⟩:(k1≤(order (solid s)).length)∧(acc=((order (solid s)).take k1).map (tstR s)):=hG1
   show Ct _ _ _ _ [(2,ptr 2 b2 0),(3,eqv (.slice none 0 0)),(4,ptr 4 b4 0),(5,sl 1 nE (order (solid s))),(6,osl 29 v29),(9,ptr 9 b9 0),(46,sl 1 nE (order (solid s))),(47,int ((order (solid s)).length:Int)),(48,int (k1:Int))] [(1,cell b1 [sl 1 rE_ s.aC,sl 2 sE s.sT]),(2,cell b2 [eqv (.slice none 0 0),eqv (.slice none 0 0)]),(4,cell b4 [sl 1 rE_ (solid s).aC,sl 2 sE (solid s).sT]),(9,cell b9 [sl 1 rE_ s.aC,osl 90 v2x]),(29,own v29 3 1 nE pl),(90,own v2x 79 2 sE acc)] _
   have hal:acc.length≤k1:=by rw[hI1];simp;omega
   refine sq (rg (bi J J b_lss (nl (th (sq ?_)))))
   refine cd J (fun hc2=> ?_) (fun hc2=> ?_)
   ·try simp at hc2
    have hox1:=hoq.1 k1 O
    have hsn:=solid_next hs (x:=(ix (order (solid s)) k1).toNat) O
    refine sk (th (sq (bk (sq (rg (iF J J T.sl66 O gB (lF J J T.one3 (ag (nl (th (sq (rg (fP J T.fld28_1 (lP J J J T.one26 (mv (iF J J T.sl26 O gB (fF J T.fld79_0 (lF J J T.one66 (bd (css:= [(0,_)]) T.st79 (eC (eC eZ)) ⟨J,J,p1 (φ:=sl 1 nE (ix (solid s).sT (ix (order (solid s)) k1).toNat).aP) J,tV⟩ (al (key:=12) T.z79 (eC (eC eZ)) fun b12=>(sPA (cs':= [sl 1 nE (ix (solid s).sT (ix (order (solid s)) k1).toNat).aP,eqv (.slice none 0 0)]) J J J T.agg79 J J (nl (th (sq (sq (rg (fP J T.fld28_1 (lP J J J T.one26 (mv (iF J J T.sl26 O gB (fF J T.fld79_1 (lF J J T.one66 (fc (slenI 64 J) fun hm64=>(lnF J T.sl66 (mv (nl (th (bk ?_))))))))))))))))))))))))))))))))))))))
    refine nwC 121 3 1 nE (kncC 12 1 (osl 121 (.slice none 0 0)) rfl rfl eq_osl ?_)
    have hI2_0:0≤(ix (solid s).sT (ix (order (solid s)) k1).toNat).next.length:=by
     first|omega|simp
    have hI2_1:([]:List Int)=((ix (solid s).sT (ix (order (solid s)) k1).toNat).next.take 0).map (mapK pl):=by
     simp
    refine lp (κ:=Nat × Value × (List Int)) (fun p=> [(2,ptr 2 b2 0),(3,eqv (.slice none 0 0)),(4,ptr 4 b4 0),(5,sl 1 nE (order (solid s))),(6,osl 29 v29),(9,ptr 9 b9 0),(12,ptr 12 b12 0),(46,sl 1 nE (order (solid s))),(47,int ((order (solid s)).length:Int)),(48,int (k1:Int)),(64,sl 1 nE (ix (solid s).sT (ix (order (solid s)) k1).toNat).next),(65,int ((ix (solid s).sT (ix (order (solid s)) k1).toNat).next.length:Int)),(66,int (p.1:Int))]) (fun p=> [(1,cell b1 [sl 1 rE_ s.aC,sl 2 sE s.sT]),(2,cell b2 [eqv (.slice none 0 0),eqv (.slice none 0 0)]),(4,cell b4 [sl 1 rE_ (solid s).aC,sl 2 sE (solid s).sT]),(9,cell b9 [sl 1 rE_ s.aC,osl 90 v2x]),(12,cell b12 [sl 1 nE (ix (solid s).sT (ix (order (solid s)) k1).toNat).aP,osl 121 p.2.1]),(29,own v29 3 1 nE pl),(90,own v2x 79 2 sE acc),(121,own p.2.1 3 1 nE p.2.2)]) (fun p=>(p.1≤(ix (solid s).sT (ix (order (solid s)) k1).toNat).next.length)∧(p.2.2=((ix (solid s).sT (ix (order (solid s)) k1).toNat).next.take p.1).map (mapK pl))) (fun p=>(ix (solid s).sT (ix (order (solid s)) k1).toNat).next.length- p.1) ⟨0,(.slice none 0 0),([]:List Int)⟩ ⟨hI2_0,hI2_1⟩ ⟨id,id,id,id,id,id,id,id,id,id,id,id,id,tV⟩ ⟨rI,rI,rI,rI,rI,rI,rI,rI,tV⟩ ?_
    intro⟨k2,v3x,l3⟩ hG2
    obtain⟨hk2,hI2⟩:(k2≤(ix (solid s).sT (ix (order (solid s)) k1).toNat).next.length)∧(l3=((ix (solid s).sT (ix (order (solid s)) k1).toNat).next.take k2).map (mapK pl)):=hG2
    show Ct _ _ _ _ [(2,ptr 2 b2 0),(3,eqv (.slice none 0 0)),(4,ptr 4 b4 0),(5,sl 1 nE (order (solid s))),(6,osl 29 v29),(9,ptr 9 b9 0),(12,ptr 12 b12 0),(46,sl 1 nE (order (solid s))),(47,int ((order (solid s)).length:Int)),(48,int (k1:Int)),(64,sl 1 nE (ix (solid s).sT (ix (order (solid s)) k1).toNat).next),(65,int ((ix (solid s).sT (ix (order (solid s)) k1).toNat).next.length:Int)),(66,int (k2:Int))] [(1,cell b1 [sl 1 rE_ s.aC,sl 2 sE s.sT]),(2,cell b2 [eqv (.slice none 0 0),eqv (.slice none 0 0)]),(4,cell b4 [sl 1 rE_ (solid s).aC,sl 2 sE (solid s).sT]),(9,cell b9 [sl 1 rE_ s.aC,osl 90 v2x]),(12,cell b12 [sl 1 nE (ix (solid s).sT (ix (order (solid s)) k1).toNat).aP,osl 121 v3x]),(29,own v29 3 1 nE pl),(90,own v2x 79 2 sE acc),(121,own v3x 3 1 nE l3)] _
    have hl3:l3.length≤k2:=by rw[hI2];simp;omega
    refine sq (rg (bi J J b_lss (nl (th (sq ?_)))))
    refine cd J (fun hc3=> ?_) (fun hc3=> ?_)
    ·try simp at hc3
     have hbd:=solid_bd hs (x:=(ix (order (solid s)) k1).toNat) O (a:=k2) O
     refine sk (th (sq (bk (sq (rg (iF J J T.sl66 O gB (lF J J T.one3 (ag (nl (th (sq (sq (rg (mv (bi J J b_geq (nl (th ?_)))))))))))))))))
     refine cd J (fun hc4=> ?_) (fun hc4=> ?_)
     ·try simp at hc4
      refine rg (mv (mv (iO J J J T.sl66 O O (lO J J gB J T.one3 (ag (nl (th (rg (fP J T.fld79_1 (lP J J J T.one66 (mv (bsE (enc:=nE) (xs:= [(ix pl (ix (ix (solid s).sT (ix (order (solid s)) k1).toNat).next k2).toNat)]) (css:= [[int (ix pl (ix (ix (solid s).sT (ix (order (solid s)) k1).toNat).next k2).toNat)]]) T.mk66 ⟨J,J,p1 (φ:=int (ix pl (ix (ix (solid s).sT (ix (order (solid s)) k1).toNat).next k2).toNat)) J,tV⟩ J J J J (ap (key:=121) (zs:= [(ix pl (ix (ix (solid s).sT (ix (order (solid s)) k1).toNat).next k2).toNat)]) osl_eq J J J T.mk66 (by unfold maxL at*;simp;omega) (by unfold maxL at*;simp;omega) fun v80=>(fP J T.fld79_1 (storePO J J J J T.one66 J (nl (eb (th (rg (bi J J (b_add i6) (mv (nl ?_))))))))))))))))))))))
      have hN0:(k2+1)≤(ix (solid s).sT (ix (order (solid s)) k1).toNat).next.length:=by
       first|omega|simp_all
      have hN1:(l3++ [(ix pl (ix (ix (solid s).sT (ix (order (solid s)) k1).toNat).next k2).toNat)])=((ix (solid s).sT (ix (order (solid s)) k1).toNat).next.take (k2+1)).map (mapK pl):=by
       rw[map_take_succ O,hI2];simp[mapK,hc4]
      exact ln (⟨k2+1,v80,l3++ [(ix pl (ix (ix (solid s).sT (ix (order (solid s)) k1).toNat).next k2).toNat)]⟩:Nat × Value × (List Int)) ⟨hN0,hN1⟩ dO ⟨id,id,id,id,id,id,id,id,id,id,id,id,id,tV⟩ ⟨rI,rI,rI,rI,rI,rI,rI,rI,tV⟩
     ·try simp at hc4
      refine sk (th (rg (fP J T.fld79_1 (lP J J J T.one66 (mv (bsE (enc:=nE) (xs:= [(ix (ix (solid s).sT (ix (order (solid s)) k1).toNat).next k2)]) (css:= [[int (ix (ix (solid s).sT (ix (order (solid s)) k1).toNat).next k2)]]) T.mk66 ⟨J,J,p1 (φ:=int (ix (ix (solid s).sT (ix (order (solid s)) k1).toNat).next k2)) J,tV⟩ J J J J (ap (key:=121) (zs:= [(ix (ix (solid s).sT (ix (order (solid s)) k1).toNat).next k2)]) osl_eq J J J T.mk66 (by unfold maxL at*;simp;omega) (by unfold maxL at*;simp;omega) fun v80=>(fP J T.fld79_1 (storePO J J J J T.one66 J (nl (eb (th (rg (bi J J (b_add i6) (mv (nl ?_))))))))))))))))
      have hN0:(k2+1)≤(ix (solid s).sT (ix (order (solid s)) k1).toNat).next.length:=by
       first|omega|simp_all
      have hN1:(l3++ [(ix (ix (solid s).sT (ix (order (solid s)) k1).toNat).next k2)])=((ix (solid s).sT (ix (order (solid s)) k1).toNat).next.take (k2+1)).map (mapK pl):=by
       rw[map_take_succ O,hI2];simp[mapK];omega
      exact ln (⟨k2+1,v80,l3++ [(ix (ix (solid s).sT (ix (order (solid s)) k1).toNat).next k2)]⟩:Nat × Value × (List Int)) ⟨hN0,hN1⟩ dO ⟨id,id,id,id,id,id,id,id,id,id,id,id,id,tV⟩ ⟨rI,rI,rI,rI,rI,rI,rI,rI,tV⟩
    ·try simp at hc3
     refine ex (xt_ (xt_ (xb (th (rg (fP J T.fld28_1 (lP J J J T.one26 (fzc 12 121 1 J J J J (lPA J J T.agg79 J (bsE (enc:=sE) (xs:= [(⟨(ix (solid s).sT (ix (order (solid s)) k1).toNat).aP,l3⟩)]) (css:= [[sl 1 nE (ix (solid s).sT (ix (order (solid s)) k1).toNat).aP,sl 1 nE l3]]) T.mk26 ⟨J,J,pA (cs:= [sl 1 nE (ix (solid s).sT (ix (order (solid s)) k1).toNat).aP,sl 1 nE l3]) J,tV⟩ J J J J (ap (key:=90) (zs:= [(⟨(ix (solid s).sT (ix (order (solid s)) k1).toNat).aP,l3⟩)]) osl_eq J J J T.mk26 (by unfold maxL at*;simp;omega) (by unfold maxL at*;simp;omega) fun v87=>(fP J T.fld28_1 (storePO J J J J T.one26 J (nl (eb (th (rg (bi J J (b_add i6) (mv (nl ?_))))))))))))))))))))
     have hN0:(k1+1)≤(order (solid s)).length:=by
      first|omega|simp_all
     have hN1:(acc++ [(⟨(ix (solid s).sT (ix (order (solid s)) k1).toNat).aP,l3⟩)])=((order (solid s)).take (k1+1)).map (tstR s):=by
      rw[map_take_succ O,hI1]
      congr 2
      unfold tstR
      rw[hI2,show k2=(ix (solid s).sT (ix (order (solid s)) k1).toNat).next.length by omega,List.take_length,hI0,show k=(order (solid s)).length by omega,List.take_length]
     exact ln (⟨k1+1,v87,acc++ [(⟨(ix (solid s).sT (ix (order (solid s)) k1).toNat).aP,l3⟩)]⟩:Nat × Value × (List SA)) ⟨hN0,hN1⟩ dO ⟨id,id,id,id,id,id,id,id,id,tV⟩ ⟨rI,rI,rI,rI,rI,rI,tV⟩
   ·try simp at hc2
    refine ex (xt_ (xt_ (xb (th (sq (rg (fzc 9 90 1 J J J J (lPA J J T.agg28 J (mv (sPA (cs':= [sl 1 rE_ s.aC,sl 2 sE acc]) J J J T.agg28 J J (ag (nl (th (rt ?_))))))))))))))
    have hL:=trimmed_not (s:=s) (by simpa using hc0)
    have hr0:s.aC=((tR s).1).aC:=by
     rw[hL]
    have hr1:acc=((tR s).1).sT:=by
     rw[hL,hI1,show k1=(order (solid s)).length by omega,List.take_length]
     exact List.map_congr_left fun x hx=>by
      obtain⟨j,hj,rfl⟩:=List.getElem_of_mem hx
      have:=hoq.1 j hj
      rw[ix_get hj] at this
      exact tstR_eq hs this.1 this.2
    have hr2:(order (solid s))=((tR s).2):=by
     rw[hL]
    exact rE () [.cell 2 28,.tmp 3] J [agg [sl 1 rE_ s.aC,sl 2 sE acc],sl 1 nE (order (solid s))] ⟨.agg J J T.agg28 J J,.tmp J,tV⟩ (cA3 (fun x0 x1 x2=>rV [agg [sl 1 rE_ x0,sl 2 sE x1],sl 1 nE x2]) hr0 hr1 hr2) trivial eX
theorem IsTrim_ok (s:SS) (hs:oK s):
 Fn0 Tryz.prog 58 [spec s] (bl (isTrimS s)):=by
 refine fnI Tryz.func58 rfl rfl (fun w0 F0=> ?_)
 refine fcC (inhS 0 J) (fun hS0=> ?_)
 obtain⟨hsa0,hss0,hse0⟩:=sLn hS0
 refine sq (rg (bx (key:=1) (cs:= [sl 1 rE_ s.aC,sl 2 sE s.sT]) J fun b1=>(ag (nl (th (sq (rg (lPA J J T.agg28 J (cal0 (φs:= [agg [sl 1 rE_ s.aC,sl 2 sE s.sT]]) (φ:=tup [agg [sl 1 rE_ ((tR s).1).aC,sl 2 sE ((tR s).1).sT],sl 1 nE ((tR s).2)]) ⟨J,tV⟩ (divr.Trim_ok s aS) T.ent78 (mv (xt J J (xt J J (al (key:=3) T.z28 (eC (eC eZ)) fun b3=>(sPA (cs':= [sl 1 rE_ ((tR s).1).aC,sl 2 sE ((tR s).1).sT]) J J J T.agg28 J J (ag (nl (th (sq (rg (lPA J J T.agg28 J (lPA J J T.agg28 J (cal0 (φs:= [agg [sl 1 rE_ s.aC,sl 2 sE s.sT],agg [sl 1 rE_ ((tR s).1).aC,sl 2 sE ((tR s).1).sT]]) (φ:=bl (isTrimS s)) ⟨J,J,tV⟩ (ref03.Same_ok s (tR s).1) T.ent41 (ag (nl (th (rt ?_))))))))))))))))))))))))))
 exact rE () [.tmp 2] J [bl (isTrimS s)] ⟨.tmp J,tV⟩ J trivial eX
end divr
end
section
open ref01 ref03 ref04 ref06 prog prog2 prog3 prog6 prog13 Part Rungs LeftM TrimM RoundM BisM BisM5 WalkM StepM WitM JudgM refw judg wit sysw divr
def andI (u o:Int):Int:=((u.toNat&&&o.toNat:Nat):Int)
def fitsB (x y:SA) (u:Int):Bool:=y.aP.all fun o=>decide (andI u o∈x.aP)
def partsB (x y:SA):Bool:=x.aP.any fun o=>decide (o∉y.aP)
theorem any_yes {α:Type} [Inhabited α] {l:List α} {p:α→Bool} {k:Nat} (hk:k<l.length) (h:p (ix l k)=true):l.any p=true:=List.any_eq_true.2 ⟨_,ix_memS hk,h⟩
theorem any_no {α:Type} [Inhabited α] {l:List α} {p:α→Bool} (h:∀j,j<l.length→p (ix l j)=false):l.any p=false:=by
 cases g:l.any p with
 |false=>rfl
 |true=>
  obtain⟨e,he,hp⟩:=List.any_eq_true.1 g
  obtain⟨j,hj,rfl⟩:=List.getElem_of_mem he
  rw[←ix_get hj,h j hj] at hp;cases hp
namespace T
theorem ent128:Ent Tryz.prog 128:=ent_of kR
end T
namespace divs
theorem parts_ok (x y:SA):
 Fn0 Tryz.prog 176 [state x,state y] (bl (partsB x y)):=by
 refine fnI Tryz.func176 rfl rfl (fun w0 F0=> ?_)
 refine fcC (inhS 0 J) (fun hS0=> ?_)
 obtain⟨hxa0,hxn0⟩:=state_lens hS0
 refine fcC (inhS 1 J) (fun hS1=> ?_)
 obtain⟨hxa1,hxn1⟩:=state_lens hS1
 refine sq (rg (bx (key:=2) (cs:= [sl 1 nE x.aP,sl 1 nE x.next]) J fun b2=>(bx (key:=3) (cs:= [sl 1 nE y.aP,sl 1 nE y.next]) J fun b3=>(ag (nl (th (sq (sq (rg (fP J T.fld79_0 (lP J J J T.one66 (fc (slenI 8 J) fun hm8=>(lnF J T.sl66 (mv (nl (th (bk ?_)))))))))))))))))
 have hI0_0:0≤x.aP.length:=by
  first|omega|simp
 have hI0_1:∀j,j<0→decide (ix x.aP j∉y.aP)=false:=by
  intro j hj;omega
 refine lp (κ:=Nat) (fun p=> [(3,ptr 3 b3 0),(8,sl 1 nE x.aP),(9,int (x.aP.length:Int)),(10,int (p:Int))]) (fun p=> [(2,cell b2 [sl 1 nE x.aP,sl 1 nE x.next]),(3,cell b3 [sl 1 nE y.aP,sl 1 nE y.next])]) (fun p=>(p≤x.aP.length)∧(∀j,j<p→decide (ix x.aP j∉y.aP)=false)) (fun p=>x.aP.length- p) 0 ⟨hI0_0,hI0_1⟩ ⟨id,id,id,id,tV⟩ ⟨rI,rI,tV⟩ ?_
 intro k hG0
 obtain⟨hk0,hI0⟩:(k≤x.aP.length)∧(∀j,j<k→decide (ix x.aP j∉y.aP)=false):=hG0
 refine sq (rg (bi J J b_lss (nl (th (sq ?_)))))
 refine cd J (fun hc0=> ?_) (fun hc0=> ?_)
 ·try simp at hc0
  refine sk (th (sq (bk (sq (rg (iF J J T.sl66 O gB (lF J J T.one3 (ag (nl (th (sq (rg (fP J T.fld79_0 (lP J J J T.one66 (mv (cal0 (φs:= [sl 1 nE y.aP,int (ix x.aP k)]) (φ:=bl (decide ((ix x.aP k)∈y.aP))) ⟨J,J,tV⟩ (divr.In_ok _ _) T.ent128 (no J (nl (th ?_)))))))))))))))))))
  refine cd J (fun hc1=> ?_) (fun hc1=> ?_)
  ·skip
   refine sq (rg (ag (nl (th (rt (rb (rt_ (rt_ (rb (rt_ ?_))))))))))
   have hr0:true=(partsB x y):=by
    exact(any_yes (k:=k) O (by simpa using hc1)).symm
   exact rE () [.tmp 4] J [bl true] ⟨.tmp J,tV⟩ (cA1 (fun x0=>rV [bl x0]) hr0) trivial eX
  ·skip
   refine sk (eb (th (rg (bi J J (b_add i6) (mv (nl ?_))))))
   have hN0:(k+1)≤x.aP.length:=by
    first|omega|simp_all
   have hN1:∀j,j<(k+1)→decide (ix x.aP j∉y.aP)=false:=by
    intro j hj
    by_cases e:j=k
    ·subst e;simpa using hc1
    ·exact hI0 j O
   exact ln (k+1) ⟨hN0,hN1⟩ dO ⟨id,id,id,id,tV⟩ ⟨rI,rI,tV⟩
 ·try simp at hc0
  refine ex (xt_ (xt_ (xb (th (sq (rg (ag (nl (th (rt ?_))))))))))
  have hr0:false=(partsB x y):=by
   exact(any_no (fun j hj=>hI0 j O)).symm
  exact rE () [.tmp 4] J [bl false] ⟨.tmp J,tV⟩ (cA1 (fun x0=>rV [bl x0]) hr0) trivial eX
end divs
end
section
namespace LevM
open ref01 ref03 ref04 ref06 Part Rungs LeftM TrimM BisM BisM5 WitM
inductive Rch (B:PP→Prop) (S:PP→PP→Prop):PP→Prop
 |zero:Rch B S (0,0)
 |step {p q:PP}:Rch B S p→¬B p→S p q→Rch B S q
def Well (B:PP→Prop) (S:PP→PP→Prop):Prop:=∀p,Rch B S p→¬B p
def Fin (B:PP→Prop) (S:PP→PP→Prop) (vis:List PP) (p:PP):Prop:=¬B p∧∀q,S p q→q∈vis
structure LI (B:PP→Prop) (S:PP→PP→Prop) (vis op:List PP):Prop where
 nd:vis.Nodup
 z:((0,0):PP)∈vis
 rch:∀p∈vis,Rch B S p
 opn:∀p∈op,p∈vis
 dn:∀p∈vis,p∈op∨Fin B S vis p
variable {B:PP→Prop} {S:PP→PP→Prop} {vis op:List PP}
theorem li_zero:LI B S [(0,0)] [(0,0)]:=
 ⟨by simp,by simp,fun p hp=>by rw[List.mem_singleton.1 hp];exact .zero,fun p hp=>hp,fun p hp=> .inl hp⟩
theorem fin_mono {v:List PP} {p:PP} (h:Fin B S vis p):Fin B S (vis++v) p:=⟨h.1,fun q hq=>List.mem_append.2 (.inl (h.2 q hq))⟩
theorem li_push (h:LI B S vis op) {q:PP} (hq:q∉vis) (hr:Rch B S q):LI B S (vis++ [q]) (op++ [q]):=by
 refine⟨?_,List.mem_append.2 (.inl h.z),fun p hp=> ?_,fun p hp=> ?_,fun p hp=> ?_⟩
 ·rw[List.nodup_append]
  refine⟨h.nd,by simp,fun a ha b hb e=> ?_⟩
  rw[List.mem_singleton.1 hb] at e
  subst e;exact hq ha
 ·rcases List.mem_append.1 hp with g|g
  ·exact h.rch p g
  ·rw[List.mem_singleton.1 g];exact hr
 ·rcases List.mem_append.1 hp with g|g
  ·exact List.mem_append.2 (.inl (h.opn p g))
  ·exact List.mem_append.2 (.inr g)
 ·rcases List.mem_append.1 hp with g|g
  ·rcases h.dn p g with g|g
   ·exact .inl (List.mem_append.2 (.inl g))
   ·exact .inr (fin_mono g)
  ·exact .inl (List.mem_append.2 (.inr g))
theorem li_pop {p:PP} (h:LI B S vis (p::op)) (hf:Fin B S vis p):LI B S vis op:=
 ⟨h.nd,h.z,h.rch,fun q hq=>h.opn q (List.mem_cons_of_mem _ hq),fun q hq=>by
   rcases h.dn q hq with g|g
   ·rcases List.mem_cons.1 g with g|g
    ·subst g;exact .inr hf
    ·exact .inl g
   ·exact .inr g⟩
theorem li_yes (h:LI B S vis []):Well B S:=fun p hp=>by
 have:p∈vis∧Fin B S vis p:=by
  induction hp with
  |zero=>exact⟨h.z,by rcases h.dn _ h.z with g|g;cases g;exact g⟩
  |step h1 h2 h3 ih=>
   have hq:=ih.2.2 _ h3
   exact⟨hq,by rcases h.dn _ hq with g|g;cases g;exact g⟩
 exact this.2.1
theorem li_no (h:LI B S vis op) {p:PP} (hp:p∈vis) (hb:B p):¬Well B S:=fun hw=>hw p (h.rch p hp) hb
theorem drop_ix {l:List PP} {k:Nat} (h:k<l.length):l.drop k=ix l k::l.drop (k+1):=by
 rw[ix_get h];exact List.drop_eq_getElem_cons h
def mat (n m:Nat) (vis:List PP):List (List Bool):=(List.range n).map fun(x:Nat)=>(List.range m).map fun(y:Nat)=>decide (((x:Int),(y:Int))∈vis)
theorem mat_zero (n m:Nat):mat n m []=List.replicate n (List.replicate m false):=by
 unfold mat
 rw[show(fun(x:Nat)=>(List.range m).map fun(y:Nat)=>decide (((x:Int),(y:Int))∈([]:List PP)))=fun _=>List.replicate m false from funext fun x=>by
  rw[show(fun(y:Nat)=>decide (((x:Int),(y:Int))∈([]:List PP)))=fun _=>false from funext fun y=>by simp]
  rw[List.map_const'];simp]
 rw[List.map_const'];simp
theorem mat_len (n m:Nat) (vis:List PP):(mat n m vis).length=n:=by simp[mat]
theorem mat_row {n m:Nat} {vis:List PP} {x:Nat} (hx:x<n):ix (mat n m vis) x=(List.range m).map fun(y:Nat)=>decide (((x:Int),(y:Int))∈vis):=ix_map_range hx
theorem mat_rowlen {n m:Nat} {vis:List PP} {x:Nat} (hx:x<n):(ix (mat n m vis) x).length=m:=by rw[mat_row hx];simp
theorem mat_ix {n m:Nat} {vis:List PP} {x y:Nat} (hx:x<n) (hy:y<m):ix (ix (mat n m vis) x) y=decide (((x:Int),(y:Int))∈vis):=by
 rw[mat_row hx];exact ix_map_range hy
theorem mat_set {n m:Nat} {vis:List PP} {x y:Nat} (hx:x<n) (hy:y<m):(mat n m vis).set x ((ix (mat n m vis) x).set y true)=mat n m (vis++ [((x:Int),(y:Int))]):=by
 rw[mat_row hx]
 refine map_upd hx ?_ (fun z _ hne=> ?_)
 ·refine(map_upd hy ?_ (fun z _ hne=> ?_)).symm
  ·simp
  ·rw[decide_eq_decide]
   constructor
   ·intro h
    rcases List.mem_append.1 h with h|h
    ·exact h
    ·have h:=List.mem_singleton.1 h
     simp only [Prod.mk.injEq] at h
     omega
   ·exact fun h=>List.mem_append.2 (.inl h)
 ·refine List.map_congr_left fun w _=> ?_
  rw[decide_eq_decide]
  constructor
  ·intro h
   rcases List.mem_append.1 h with h|h
   ·exact h
   ·have h:=List.mem_singleton.1 h
    simp only [Prod.mk.injEq] at h
    omega
  ·exact fun h=>List.mem_append.2 (.inl h)
def BadD (T t:SS) (p:PP):Prop:=∃u∈acc T p.1.toNat,u∉acc t p.2.toNat
def SucD (T t:SS) (p q:PP):Prop:=∃a:Nat,a<(nxt T p.1.toNat).length∧0≤ix (nxt T p.1.toNat) a∧q=(ix (nxt T p.1.toNat) a,ix (nxt t p.2.toNat) a)
def Used (T:SS):Prop:=∀x,x<T.sT.length→∀a,a<T.aC.length→(0≤ix (nxt T x) a↔has (orAll (acc T x)) (a:Int)=true)
def boxD (T t:SS) (p:PP):Prop:=0≤p.1∧p.1<(T.sT.length:Int)∧0≤p.2∧p.2<(t.sT.length:Int)
theorem suc_box {T t:SS} (hT:oK T) (ht:oK t) (hu:Used T) {p q:PP} (hp:boxD T t p) (hb:¬BadD T t p) (hs:SucD T t p q):boxD T t q:=by
 obtain⟨a,ha,h0,rfl⟩:=hs
 obtain⟨p0,p1,p2,p3⟩:=hp
 have hx:p.1.toNat<T.sT.length:=by omega
 have hy:p.2.toNat<t.sT.length:=by omega
 have hl:=(hT.st _ hx).len
 have ha':a<T.aC.length:=by have:(nxt T p.1.toNat).length=T.aC.length:=hl;omega
 have hg:=WalkM.acc_go hT ht hx hy (fun u hu=>Classical.byContradiction fun hn=>hb ⟨u,hu,hn⟩) ((hu _ hx a ha').1 h0)
 have hn:=((hT.st _ hx).nx a ha').2
 exact⟨h0,hn,hg.2.1,hg.2.2⟩
theorem rch_box {T t:SS} (hT:oK T) (ht:oK t) (hu:Used T) {p:PP} (h:Rch (BadD T t) (SucD T t) p):boxD T t p:=by
 induction h with
 |zero=>exact⟨by simp,by have:=hT.few0;show(0:Int)<_;omega,by simp,by have:=ht.few0;show(0:Int)<_;omega⟩
 |step h1 h2 h3 ih=>exact suc_box hT ht hu ih h2 h3
theorem well_ref {T t:SS} (hT:oK T) (ht:oK t) (hu:Used T):Well (BadD T t) (SucD T t)↔∃R,Ref T t R∧R 0 0:=by
 constructor
 ·intro hw
  refine⟨fun x y=>Rch (BadD T t) (SucD T t) ((x:Int),(y:Int)),⟨fun {x y} h=> ?_,fun {x y} h u hu'=> ?_,fun {x y} h a ha=> ?_⟩,.zero⟩
  ·obtain⟨_,h1,_,h2⟩:=rch_box hT ht hu h
   dsimp only at h1 h2
   omega
  ·refine Classical.byContradiction fun hn=>hw _ h ⟨u,hu',hn⟩
  ·have hb:=rch_box hT ht hu h
   have hx:x<T.sT.length:=by have:=hb.2.1;dsimp only at this;omega
   have hg:=WalkM.or_go hT hx ha
   have hs:SucD T t ((x:Int),(y:Int)) (ix (nxt T x) a,ix (nxt t y) a):=⟨a,by have:(nxt T x).length=T.aC.length:=(hT.st _ hx).len;show a<(nxt T x).length;omega,hg.2.1,rfl⟩
   have hr:=Rch.step h (hw _ h) hs
   have hq:=rch_box hT ht hu hr
   rw[Int.toNat_of_nonneg hg.2.1,Int.toNat_of_nonneg hq.2.2.1]
   exact hr
 ·rintro⟨R,hR,h0⟩ p hp
  have:boxD T t p∧R p.1.toNat p.2.toNat:=by
   induction hp with
   |zero=>exact⟨rch_box hT ht hu .zero,h0⟩
   |step h1 h2 h3 ih=>
    refine⟨suc_box hT ht hu ih.1 h2 h3,?_⟩
    obtain⟨a,ha,g0,rfl⟩:=h3
    have hx:_<T.sT.length:=(hR.bd ih.2).1
    have hl:(nxt T _).length=T.aC.length:=(hT.st _ hx).len
    have ha':a<T.aC.length:=by rw[←hl];exact ha
    exact hR.nxt ih.2 a ((hu _ hx a ha').1 g0)
  rintro⟨u,hu',hn⟩
  exact hn (hR.acc this.2 u hu')
end LevM
end
section
open ref01 ref03 ref04 ref06 prog prog2 prog3 prog6 prog13 Part Rungs LeftM TrimM RoundM MergeM BisM BisM4 BisM5 WalkM StepM WitM JudgM refw judg wit sysw divr divs LevM
theorem trim_ok {s:SS} (hs:oK s):oK (tR s).1:=by
 cases h:ix (hOl s) 0 with
 |true=>rw[trimmed_hol h];exact nothing_ok hs.acts
 |false=>rw[trimmed_not h];exact tS_ok hs
theorem trim_acts (s:SS):(tR s).1.aC=s.aC:=by
 cases h:ix (hOl s) 0 with
 |true=>rw[trimmed_hol h];rfl
 |false=>rw[trimmed_not h]
theorem trim_used {s:SS} (hs:oK s):Used (tR s).1:=by
 cases h:ix (hOl s) 0 with
 |true=>
  rw[trimmed_hol h]
  intro x hx a ha
  have hx:x=0:=by have hx:x<1:=hx;omega
  subst hx
  have ha:a<s.aC.length:=ha
  have e:ix (nxt (nothing s.aC) 0) a= -1:=by
   show ix (List.replicate s.aC.length (-1)) a= -1
   rw[ix_get (by simpa using ha)];simp
  rw[e]
  constructor
  ·intro h;omega
  ·intro h
   have h:has (orAll []) (a:Int)=true:=h
   rw[has_zero] at h;cases h
 |false=>
  rw[trimmed_not h]
  intro x hx a ha
  have hx:x<(ordS s).length:=by simpa using hx
  have ha:a<s.aC.length:=ha
  have e1:ix (nxt (tS s) x) a=_:=tS_nx hx ha
  have e2:acc (tS s) x=_:=tS_acc hx
  show 0≤ix (nxt (tS s) x) a↔has (orAll (acc (tS s) x)) (a:Int)=true
  rw[e1,e2]
  by_cases g:has (orAll (keep s (ix (ordS s) x).toNat)) (a:Int)=true
  ·rw[if_pos g];exact⟨fun _=>g,fun _=>(posN_bd _ _).1⟩
  ·rw[if_neg g];exact⟨fun h=>absurd h (by decide),fun h=>absurd h g⟩
theorem trim_refp {s t:SS} (hs:oK s) (ht:oK t):Well (BadD (tR s).1 t) (SucD (tR s).1 t)↔RefP s t:=by
 unfold RefP
 cases h:ix (hOl s) 0 with
 |true=>
  refine⟨fun _=> .inl rfl,fun _=> ?_⟩
  have hx:∀p,¬BadD (tR s).1 t p:=by
   rintro p ⟨u,hu,_⟩
   rw[trimmed_hol h] at hu
   have:p.1.toNat<1:=BisM6.acc_in hu
   have e:p.1.toNat=0:=by omega
   rw[e] at hu;cases hu
  exact fun p _=>hx p
 |false=>
  rw[well_ref (trim_ok hs) ht (trim_used hs),trimmed_not h]
  simp
theorem set_rep {α:Type} (a b:α) {n k:Nat} (h:k<n):(List.replicate k a++List.replicate (n- k) b).set k a=List.replicate (k+1) a++List.replicate (n- (k+1)) b:=by
 rw[List.set_append_right _ _ (by simp),List.length_replicate,Nat.sub_self,show n- k=(n- (k+1))+1 by omega,List.replicate_succ,List.set_cons_zero,List.replicate_succ',List.append_assoc]
 rfl
theorem parts_bad {T t:SS} {p:Int × Int}:partsB (ix T.sT p.1.toNat) (ix t.sT p.2.toNat)=true↔BadD T t p:=by
 unfold partsB BadD
 rw[List.any_eq_true]
 simp
namespace T
theorem ent176:Ent Tryz.prog 176:=ent_of kR
end T
namespace divd
theorem Depth_ok (s t:SS) (hs:oK s) (ht:oK t):
 AL.Fn Tryz.prog 142 [spec s,spec t] [] (ι:= { d:Int//d<0↔RefP s t }) (fun _ i=>int i.1) (fun _=> []):=by
 refine fnI Tryz.func142 rfl rfl (fun w0 F0=> ?_)
 have hT:=trim_ok hs;have hU:=trim_used hs;have hT0:=hT.few0;have hT1:=hT.few1;have ht0:=ht.few0;have ht1:=ht.few1;have hn8:=hT.n8;have hm8:=ht.n8
 have hmm:(tR s).1.sT.length*t.sT.length≤10000*10000:=Nat.mul_le_mul hT1 ht1
 refine fcC (inhS 0 J) (fun hS0=> ?_)
 obtain⟨hsa0,hss0,hse0⟩:=sLn hS0
 refine fcC (inhS 1 J) (fun hS1=> ?_)
 obtain⟨hsa1,hss1,hse1⟩:=sLn hS1
 refine sq (rg (bx (key:=2) (cs:= [sl 1 rE_ s.aC,sl 2 sE s.sT]) J fun b2=>(bx (key:=3) (cs:= [sl 1 rE_ t.aC,sl 2 sE t.sT]) J fun b3=>(ag (nl (th (sq (rg (lPA J J T.agg28 J (cal0 (φs:= [agg [sl 1 rE_ s.aC,sl 2 sE s.sT]]) (φ:=tup [agg [sl 1 rE_ ((tR s).1).aC,sl 2 sE ((tR s).1).sT],sl 1 nE ((tR s).2)]) ⟨J,tV⟩ (divr.Trim_ok s aS) T.ent78 (mv (xt J J (xt J J (sPA (cs':= [sl 1 rE_ ((tR s).1).aC,sl 2 sE ((tR s).1).sT]) J J J T.agg28 J J (nl (th (sq (rg (fP J T.fld28_1 (lP J J J T.one26 (fc (slenI 21 J) fun hm21=>(lnF J T.sl26 (mk (key:=23) (m:=((tR s).1).sT.length) (enc:=eqvE) (y:=(.slice none 0 0:Value)) J J T.mk121 (eC eZ) mL mL fun v23=>(ag (nl (th (sq (sq (rg (nbB 231 ((tR s).1.sT.length) 4 1 blE (mv (lnO J J T.sl121 (mv (nl (th (bk ?_))))))))))))))))))))))))))))))))))))
 have hI0_0:0≤(List.replicate ((tR s).1).sT.length (.slice none 0 0:Value)).length:=by
  first|omega|simp
 have hI0_1:(List.replicate ((tR s).1).sT.length (.slice none 0 0:Value)).length=(tR s).1.sT.length∧(List.replicate ((tR s).1.sT.length) [])=List.replicate 0 (List.replicate t.sT.length false)++List.replicate ((tR s).1.sT.length- 0) []:=by
  exact⟨by simp,by simp⟩
 refine lp (κ:=Nat × (List Value) × (List (List Bool))) (fun p=> [(2,ptr 2 b2 0),(3,ptr 3 b3 0),(4,int 0),(5,osl 23 v23),(25,int ((List.replicate ((tR s).1).sT.length (.slice none 0 0:Value)).length:Int)),(26,int (p.1:Int))]) (fun p=> [(2,cell b2 [sl 1 rE_ ((tR s).1).aC,sl 2 sE ((tR s).1).sT]),(3,cell b3 [sl 1 rE_ t.aC,sl 2 sE t.sT]),(23,own v23 90 1 eqvE p.2.1),(231,bigown p.2.1 4 1 blE p.2.2 none)]) (fun p=>(p.1≤(List.replicate ((tR s).1).sT.length (.slice none 0 0:Value)).length)∧(p.2.1.length=(tR s).1.sT.length∧p.2.2=List.replicate p.1 (List.replicate t.sT.length false)++List.replicate ((tR s).1.sT.length- p.1) [])) (fun p=>(List.replicate ((tR s).1).sT.length (.slice none 0 0:Value)).length- p.1) ⟨0,List.replicate ((tR s).1).sT.length (.slice none 0 0:Value),List.replicate ((tR s).1.sT.length) []⟩ ⟨hI0_0,hI0_1⟩ ⟨id,id,id,id,id,id,tV⟩ ⟨rI,rI,rI,rI,tV⟩ ?_
 intro⟨k,us,mt⟩ hG0
 obtain⟨hk0,⟨hul,hmt⟩⟩:(k≤(List.replicate ((tR s).1).sT.length (.slice none 0 0:Value)).length)∧(us.length=(tR s).1.sT.length∧mt=List.replicate k (List.replicate t.sT.length false)++List.replicate ((tR s).1.sT.length- k) []):=hG0
 show Ct _ _ _ _ [(2,ptr 2 b2 0),(3,ptr 3 b3 0),(4,int 0),(5,osl 23 v23),(25,int ((List.replicate ((tR s).1).sT.length (.slice none 0 0:Value)).length:Int)),(26,int (k:Int))] [(2,cell b2 [sl 1 rE_ ((tR s).1).aC,sl 2 sE ((tR s).1).sT]),(3,cell b3 [sl 1 rE_ t.aC,sl 2 sE t.sT]),(23,own v23 90 1 eqvE us),(231,bigown us 4 1 blE mt none)] _
 have hml:mt.length=(tR s).1.sT.length:=by rw[hmt];simp;omega
 refine sq (rg (bi J J b_lss (nl (th (sq ?_)))))
 refine cd J (fun hc0=> ?_) (fun hc0=> ?_)
 ·try simp at hc0
  refine sk (th (sq (bk (sq (rg (mv (ag (nl (th (tkBC 231 2399 k J J (by decide) (gK O) (gK O) (rg (mv (mv (fP J T.fld28_1 (lP J J J T.one26 (fc (slenI 32 J) fun hm32=>(lnF J T.sl26 (mk (key:=34) (m:=t.sT.length) (enc:=blE) (y:=false) J J T.mk90 (eC eZ) mL mL fun v34=>(iO J J J T.sl121 O O (sOO (k2:=34) J J osl_is J T.one90 gB J (y':=v34) J (nl (eb (th (rg (gvB (us:=us) 231 34 k J J (by decide) O (bi J J (b_add i6) (mv (nl ?_))))))))))))))))))))))))))))
  have hN0:(k+1)≤(List.replicate ((tR s).1).sT.length (.slice none 0 0:Value)).length:=by
   first|omega|simp_all
  have hN1:(us.set k v34).length=(tR s).1.sT.length∧(mt.set k (List.replicate t.sT.length false))=List.replicate (k+1) (List.replicate t.sT.length false)++List.replicate ((tR s).1.sT.length- (k+1)) []:=by
   refine⟨by simpa using hul,?_⟩
   rw[hmt];exact set_rep _ _ hc0
  exact ln (⟨k+1,us.set k v34,mt.set k (List.replicate t.sT.length false)⟩:Nat × (List Value) × (List (List Bool))) ⟨hN0,hN1⟩ dO ⟨id,id,id,id,id,id,tV⟩ ⟨rI,rI,rI,rI,tV⟩
 ·try simp at hc0
  have hmz:mt=mat (tR s).1.sT.length t.sT.length []:=by rw[hmt,show k=(tR s).1.sT.length by omega,Nat.sub_self,mat_zero];simp
  have hr0:(ix mt 0).length=t.sT.length:=by rw[hmz];exact mat_rowlen O
  refine ex (xt_ (xt_ (xb (th (sq (rg (mv (iO J J J T.sl121 O O (lO J J gB J T.one90 (tkB 231 2310 0 J J (by decide) (gK (k:=0) O) (gK (k:=0) O) (kn 39 (osl 2310 (ix us 0)) J eq_osl (iO J J J T.sl90 O O (sO (φ:=bl true) J J J T.one4 gB J (y':=true) J (nl (th (sq (rg (gvU 231 2310 0 J J (by decide) (gK (k:=0) O) (bd (css:= [(0,_),(1,_)]) T.st80 (eC (eC eZ)) ⟨J,J,p1 (φ:=int 0) J,⟨J,J,p1 (φ:=int 0) J,tV⟩⟩ (bsE (enc:=pE) (xs:= [(0,0)]) (css:= [[int 0,int 0]]) T.mk65 ⟨J,J,pA (cs:= [int 0,int 0]) J,tV⟩ J J J J (ag (nl (th (sq (sq (rg (ag (nl (th (bk ?_))))))))))))))))))))))))))))))
  have hI1_0:(mt.set 0 ((ix mt 0).set 0 true))=mat (tR s).1.sT.length t.sT.length ([(0,0)]:List (Int × Int))∧LI (BadD (tR s).1 t) (SucD (tR s).1 t) ([(0,0)]:List (Int × Int)) ([(0,0)]:List (Int × Int))∧0≤(0:Int)∧(0:Int)+((min ([(0,0)]:List (Int × Int)).length 1:Nat):Int)≤(([(0,0)]:List (Int × Int)).length:Int):=by
   refine⟨?_,li_zero,O,by simp⟩
   rw[hmz]
   exact mat_set (vis:= []) (x:=0) (y:=0) O O
  refine lp (κ:=(List (List Bool)) × (List (Int × Int)) × (List (Int × Int)) × Int) (fun p=> [(2,ptr 2 b2 0),(3,ptr 3 b3 0),(5,osl 23 v23),(7,sl 2 pE p.2.2.1),(8,int p.2.2.2)]) (fun p=> [(2,cell b2 [sl 1 rE_ ((tR s).1).aC,sl 2 sE ((tR s).1).sT]),(3,cell b3 [sl 1 rE_ t.aC,sl 2 sE t.sT]),(23,own v23 90 1 eqvE us),(231,bigown us 4 1 blE p.1 none)]) (fun p=>p.1=mat (tR s).1.sT.length t.sT.length p.2.1∧LI (BadD (tR s).1 t) (SucD (tR s).1 t) p.2.1 p.2.2.1∧0≤p.2.2.2∧p.2.2.2+((min p.2.2.1.length 1:Nat):Int)≤(p.2.1.length:Int)) (fun p=>(tR s).1.sT.length*t.sT.length- p.2.1.length+min p.2.2.1.length 1) ⟨mt.set 0 ((ix mt 0).set 0 true),([(0,0)]:List (Int × Int)),([(0,0)]:List (Int × Int)),(0:Int)⟩ hI1_0 ⟨id,id,id,id,id,tV⟩ ⟨rI,rI,rI,rI,tV⟩ ?_
  intro⟨mt1,vis,now,dp⟩ hG1
  obtain⟨hmt1,hLI,hd0,hdp⟩:mt1=mat (tR s).1.sT.length t.sT.length vis∧LI (BadD (tR s).1 t) (SucD (tR s).1 t) vis now∧0≤dp∧dp+((min now.length 1:Nat):Int)≤(vis.length:Int):=hG1
  show Ct _ _ _ _ [(2,ptr 2 b2 0),(3,ptr 3 b3 0),(5,osl 23 v23),(7,sl 2 pE now),(8,int dp)] [(2,cell b2 [sl 1 rE_ ((tR s).1).aC,sl 2 sE ((tR s).1).sT]),(3,cell b3 [sl 1 rE_ t.aC,sl 2 sE t.sT]),(23,own v23 90 1 eqvE us),(231,bigown us 4 1 blE mt1 none)] _
  have hv1:=nodup_pairs (tR s).1.sT.length t.sT.length vis hLI.nd (fun p hp=>rch_box hT ht hU (hLI.rch p hp))
  have hml1:mt1.length=(tR s).1.sT.length:=by rw[hmt1];exact mat_len _ _ _
  refine sq (sq (rg (mv (fc (slenI 43 J) fun hm43=>(lnF J T.sl65 (bi J J b_gtr (nl (th ?_))))))))
  refine cd J (fun hc1=> ?_) (fun hc1=> ?_)
  ·try simp at hc1
   refine sk (th (sq (bk (sq (rg (nw 9 80 2 pE (ag (rtg (key:=9) 9 J (nl (th (sq (sq (rg (mv (lnF J T.sl65 (mv (nl (th (bk ?_)))))))))))))))))))
   have hI2_0:0≤now.length:=by
    first|omega|simp
   have hI2_1:mt1=mat (tR s).1.sT.length t.sT.length vis∧LI (BadD (tR s).1 t) (SucD (tR s).1 t) vis (now.drop 0++([]:List (Int × Int)))∧vis.length=vis.length+([]:List (Int × Int)).length:=by
    exact⟨hmt1,by simpa using hLI,rfl⟩
   refine lp (κ:=Nat × (List (List Bool)) × Value × (List (Int × Int)) × (List (Int × Int))) (fun p=> [(2,ptr 2 b2 0),(3,ptr 3 b3 0),(5,osl 23 v23),(7,sl 2 pE now),(8,int dp),(9,osl 9 p.2.2.1),(48,sl 2 pE now),(49,int (now.length:Int)),(50,int (p.1:Int))]) (fun p=> [(2,cell b2 [sl 1 rE_ ((tR s).1).aC,sl 2 sE ((tR s).1).sT]),(3,cell b3 [sl 1 rE_ t.aC,sl 2 sE t.sT]),(9,own p.2.2.1 80 2 pE p.2.2.2.1),(23,own v23 90 1 eqvE us),(231,bigown us 4 1 blE p.2.1 none)]) (fun p=>(p.1≤now.length)∧(p.2.1=mat (tR s).1.sT.length t.sT.length p.2.2.2.2∧LI (BadD (tR s).1 t) (SucD (tR s).1 t) p.2.2.2.2 (now.drop p.1++p.2.2.2.1)∧p.2.2.2.2.length=vis.length+p.2.2.2.1.length)) (fun p=>now.length- p.1) ⟨0,mt1,(.slice none 0 0),([]:List (Int × Int)),vis⟩ ⟨hI2_0,hI2_1⟩ ⟨id,id,id,id,id,id,id,id,id,tV⟩ ⟨rI,rI,rI,rI,rI,tV⟩ ?_
   intro⟨k2,mt2,v9x,nx,vis2⟩ hG2
   obtain⟨hk2,⟨hmt2,hLI2,hvl2⟩⟩:(k2≤now.length)∧(mt2=mat (tR s).1.sT.length t.sT.length vis2∧LI (BadD (tR s).1 t) (SucD (tR s).1 t) vis2 (now.drop k2++nx)∧vis2.length=vis.length+nx.length):=hG2
   show Ct _ _ _ _ [(2,ptr 2 b2 0),(3,ptr 3 b3 0),(5,osl 23 v23),(7,sl 2 pE now),(8,int dp),(9,osl 9 v9x),(48,sl 2 pE now),(49,int (now.length:Int)),(50,int (k2:Int))] [(2,cell b2 [sl 1 rE_ ((tR s).1).aC,sl 2 sE ((tR s).1).sT]),(3,cell b3 [sl 1 rE_ t.aC,sl 2 sE t.sT]),(9,own v9x 80 2 pE nx),(23,own v23 90 1 eqvE us),(231,bigown us 4 1 blE mt2 none)] _
   have hv2:=nodup_pairs (tR s).1.sT.length t.sT.length vis2 hLI2.nd (fun p hp=>rch_box hT ht hU (hLI2.rch p hp))
   have hml2:mt2.length=(tR s).1.sT.length:=by rw[hmt2];exact mat_len _ _ _
   refine sq (rg (bi J J b_lss (nl (th (sq ?_)))))
   refine cd J (fun hc2=> ?_) (fun hc2=> ?_)
   ·try simp at hc2
    have hpv:ix now k2∈vis2:=hLI2.opn _ (List.mem_append.2 (.inl (by rw[drop_ix O];exact List.mem_cons_self)))
    have hpr:=hLI2.rch _ hpv
    obtain⟨hp0,hp1,hp2,hp3⟩:=rch_box hT ht hU hpr
    have hxl:=(hT.st (ix now k2).1.toNat O).len
    have hyl:=(ht.st (ix now k2).2.toNat O).len
    refine sk (th (sq (bk (sq (rg (iF J J T.sl65 O gB (lFA J T.agg80 (Nat.le_of_ble_eq_true J) (al (key:=11) T.z80 (eC (eC eZ)) fun b11=>(sPA (cs':= [int ((ix now k2).1),int ((ix now k2).2)]) J J J T.agg80 J J (nl (th (sq (sq (dr (nh:=13) [0,1,0,4,15,31,0,64,0,256,960,1984,4095] T.mixed kR ?_))))))))))))))
    refine st_ J (fun _ _ _ gq kq=>fP (gq.1.trans J) T.fld28_1 kq) ?_
    refine st_ J (fun _ _ _ gq kq=>lP (gq.1.trans J) J J T.one26 kq) ?_
    refine st_ J (fun _ _ _ gq kq=>iPA (gq.1.trans J) J T.arr80 T.one3 J kq) ?_
    refine st_ J (fun _ _ _ gq kq=>lP (gq.1.trans J) J J T.one3 kq) ?_
    refine st_ J (fun _ _ _ gq kq=>iF (gq.1.trans J) (gq.2.1.trans J) T.sl26 O gB kq) ?_
    refine st_ J (fun _ _ _ gq kq=>lFA (gq.1.trans J) T.agg79 (Nat.le_of_ble_eq_true J) kq) ?_
    refine st_ J (fun _ _ _ gq kq=>fP (gq.1.trans J) T.fld28_1 kq) ?_
    refine st_ J (fun _ _ _ gq kq=>lP (gq.1.trans J) J J T.one26 kq) ?_
    refine st_ J (fun _ _ _ gq kq=>iPA (gq.1.trans J) J T.arr80 T.one3 J kq) ?_
    refine st_ J (fun _ _ _ gq kq=>lP (gq.1.trans J) J J T.one3 kq) ?_
    refine st_ J (fun _ _ _ gq kq=>iF (gq.1.trans J) (gq.2.1.trans J) T.sl26 O gB kq) ?_
    refine st_ J (fun _ _ _ gq kq=>lFA (gq.1.trans J) T.agg79 (Nat.le_of_ble_eq_true J) kq) ?_
    refine st_ J (fun _ _ _ gq kq=>cal0 (φs:= [agg [sl 1 nE (ix ((tR s).1).sT ((ix now k2).1).toNat).aP,sl 1 nE (ix ((tR s).1).sT ((ix now k2).1).toNat).next],agg [sl 1 nE (ix t.sT ((ix now k2).2).toNat).aP,sl 1 nE (ix t.sT ((ix now k2).2).toNat).next]]) (φ:=bl (partsB (ix ((tR s).1).sT ((ix now k2).1).toNat) (ix t.sT ((ix now k2).2).toNat))) ⟨(gq.1.trans J),(gq.2.1.trans J),tV⟩ (divs.parts_ok (ix ((tR s).1).sT ((ix now k2).1).toNat) (ix t.sT ((ix now k2).2).toNat)) T.ent176 kq) ?_
    refine pn (nl (th ?_))
    refine cd J (fun hc3=> ?_) (fun hc3=> ?_)
    ·try simp at hc3
     refine sq (rg (mv (ag (nl (th (rt (rt_ (rb (rt_ (rt_ (rb (rt_ (rb (rt_ (rt_ (rb (rt_ ?_)))))))))))))))))
     exact rE ⟨dp,⟨fun h=>absurd h O,fun h=>absurd ((trim_refp hs ht).2 h) (li_no hLI2 hpv (parts_bad.1 hc3))⟩⟩ [.tmp 4] J [int dp] ⟨.tmp J,tV⟩ J trivial eX
    ·try simp at hc3
     have hnb:¬BadD (tR s).1 t (ix now k2):=fun h=>by have h2:=parts_bad.2 h;exact absurd h2 (by rw[hc3];decide)
     refine sk (th (sq (rg (fP J T.fld28_1 (lP J J J T.one26 (iPA J J T.arr80 T.one3 J (lP J J J T.one3 (iF J J T.sl26 O gB (fF J T.fld79_1 (lF J J T.one66 (fc (slenI 74 J) fun hm74=>(lnF J T.sl66 (mv (nl (th (bk ?_))))))))))))))))
     have hI3_0:0≤(ix ((tR s).1).sT ((ix now k2).1).toNat).next.length:=by
      first|omega|simp
     have hI3_1:mt2=mat (tR s).1.sT.length t.sT.length vis2∧LI (BadD (tR s).1 t) (SucD (tR s).1 t) vis2 (now.drop k2++nx)∧vis2.length=vis.length+nx.length∧∀a,a<0→0≤ix (ix (tR s).1.sT (ix now k2).1.toNat).next a→(ix (ix (tR s).1.sT (ix now k2).1.toNat).next a,ix (ix t.sT (ix now k2).2.toNat).next a)∈vis2:=by
      exact⟨hmt2,hLI2,hvl2,fun a ha=>absurd ha O⟩
     refine lp (κ:=Nat × (List (List Bool)) × Value × (List (Int × Int)) × (List (Int × Int))) (fun p=> [(2,ptr 2 b2 0),(3,ptr 3 b3 0),(5,osl 23 v23),(7,sl 2 pE now),(8,int dp),(9,osl 9 p.2.2.1),(11,ptr 11 b11 0),(48,sl 2 pE now),(49,int (now.length:Int)),(50,int (k2:Int)),(74,sl 1 nE (ix ((tR s).1).sT ((ix now k2).1).toNat).next),(75,int ((ix ((tR s).1).sT ((ix now k2).1).toNat).next.length:Int)),(76,int (p.1:Int))]) (fun p=> [(2,cell b2 [sl 1 rE_ ((tR s).1).aC,sl 2 sE ((tR s).1).sT]),(3,cell b3 [sl 1 rE_ t.aC,sl 2 sE t.sT]),(9,own p.2.2.1 80 2 pE p.2.2.2.1),(11,cell b11 [int ((ix now k2).1),int ((ix now k2).2)]),(23,own v23 90 1 eqvE us),(231,bigown us 4 1 blE p.2.1 none)]) (fun p=>(p.1≤(ix ((tR s).1).sT ((ix now k2).1).toNat).next.length)∧(p.2.1=mat (tR s).1.sT.length t.sT.length p.2.2.2.2∧LI (BadD (tR s).1 t) (SucD (tR s).1 t) p.2.2.2.2 (now.drop k2++p.2.2.2.1)∧p.2.2.2.2.length=vis.length+p.2.2.2.1.length∧∀a,a<p.1→0≤ix (ix (tR s).1.sT (ix now k2).1.toNat).next a→(ix (ix (tR s).1.sT (ix now k2).1.toNat).next a,ix (ix t.sT (ix now k2).2.toNat).next a)∈p.2.2.2.2)) (fun p=>(ix ((tR s).1).sT ((ix now k2).1).toNat).next.length- p.1) ⟨0,mt2,v9x,nx,vis2⟩ ⟨hI3_0,hI3_1⟩ ⟨id,id,id,id,id,id,id,id,id,id,id,id,id,tV⟩ ⟨rI,rI,rI,rI,rI,rI,tV⟩ ?_
     intro⟨k3,mt3,v9y,nx3,vis3⟩ hG3
     obtain⟨hk3,⟨hmt3,hLI3,hvl3,hdn⟩⟩:(k3≤(ix ((tR s).1).sT ((ix now k2).1).toNat).next.length)∧(mt3=mat (tR s).1.sT.length t.sT.length vis3∧LI (BadD (tR s).1 t) (SucD (tR s).1 t) vis3 (now.drop k2++nx3)∧vis3.length=vis.length+nx3.length∧∀a,a<k3→0≤ix (ix (tR s).1.sT (ix now k2).1.toNat).next a→(ix (ix (tR s).1.sT (ix now k2).1.toNat).next a,ix (ix t.sT (ix now k2).2.toNat).next a)∈vis3):=hG3
     show Ct _ _ _ _ [(2,ptr 2 b2 0),(3,ptr 3 b3 0),(5,osl 23 v23),(7,sl 2 pE now),(8,int dp),(9,osl 9 v9y),(11,ptr 11 b11 0),(48,sl 2 pE now),(49,int (now.length:Int)),(50,int (k2:Int)),(74,sl 1 nE (ix ((tR s).1).sT ((ix now k2).1).toNat).next),(75,int ((ix ((tR s).1).sT ((ix now k2).1).toNat).next.length:Int)),(76,int (k3:Int))] [(2,cell b2 [sl 1 rE_ ((tR s).1).aC,sl 2 sE ((tR s).1).sT]),(3,cell b3 [sl 1 rE_ t.aC,sl 2 sE t.sT]),(9,own v9y 80 2 pE nx3),(11,cell b11 [int ((ix now k2).1),int ((ix now k2).2)]),(23,own v23 90 1 eqvE us),(231,bigown us 4 1 blE mt3 none)] _
     have hv3:=nodup_pairs (tR s).1.sT.length t.sT.length vis3 hLI3.nd (fun p hp=>rch_box hT ht hU (hLI3.rch p hp))
     have hml3:mt3.length=(tR s).1.sT.length:=by rw[hmt3];exact mat_len _ _ _
     refine sq (rg (bi J J b_lss (nl (th (sq ?_)))))
     refine cd J (fun hc4=> ?_) (fun hc4=> ?_)
     ·try simp at hc4
      refine sk (th (sq (bk (sq (rg (mv (iF J J T.sl66 O gB (lF J J T.one3 (ag (ag (nl (th (sq (sq (rg (mv (bi J J b_lss (nl (th ?_)))))))))))))))))))
      refine cd J (fun hc5=> ?_) (fun hc5=> ?_)
      ·try simp at hc5
       refine ex (xt_ (xb (th (rg (bi J J (b_add i6) (mv (nl ?_)))))))
       have hN0:(k3+1)≤(ix ((tR s).1).sT ((ix now k2).1).toNat).next.length:=by
        first|omega|simp_all
       have hN1:mt3=mat (tR s).1.sT.length t.sT.length vis3∧LI (BadD (tR s).1 t) (SucD (tR s).1 t) vis3 (now.drop k2++nx3)∧vis3.length=vis.length+nx3.length∧∀a,a<(k3+1)→0≤ix (ix (tR s).1.sT (ix now k2).1.toNat).next a→(ix (ix (tR s).1.sT (ix now k2).1.toNat).next a,ix (ix t.sT (ix now k2).2.toNat).next a)∈vis3:=by
        refine⟨hmt3,hLI3,hvl3,fun a ha h0=> ?_⟩
        by_cases e:a=k3
        ·subst e;omega
        ·exact hdn a O h0
       exact ln (⟨k3+1,mt3,v9y,nx3,vis3⟩:Nat × (List (List Bool)) × Value × (List (Int × Int)) × (List (Int × Int))) ⟨hN0,hN1⟩ dO ⟨id,id,id,id,id,id,id,id,id,id,id,id,id,tV⟩ ⟨rI,rI,rI,rI,rI,rI,tV⟩
      ·try simp at hc5
       have hka:k3<(tR s).1.aC.length:=by omega
       have hga:=WalkM.acc_go hT ht (x:=(ix now k2).1.toNat) (y:=(ix now k2).2.toNat) O O (fun u hu=>Classical.byContradiction fun hn=>hnb ⟨u,hu,hn⟩) ((hU _ O k3 hka).1 (by dsimp only [nxt];omega))
       obtain⟨hga1,hga2,hga3⟩:=hga
       dsimp only [nxt] at hga2 hga3
       have hrq:Rch (BadD (tR s).1 t) (SucD (tR s).1 t) (ix (ix (tR s).1.sT (ix now k2).1.toNat).next k3,ix (ix t.sT (ix now k2).2.toNat).next k3):=Rch.step hpr hnb ⟨k3,by dsimp only [nxt];omega,by dsimp only [nxt];omega,rfl⟩
       have hqn:=((hT.st (ix now k2).1.toNat O).nx k3 hka).2
       have hrl:(ix mt3 (ix (ix (tR s).1.sT (ix now k2).1.toNat).next k3).toNat).length=t.sT.length:=by rw[hmt3];exact mat_rowlen O
       have hmq:ix (ix mt3 (ix (ix (tR s).1.sT (ix now k2).1.toNat).next k3).toNat) (ix (ix t.sT (ix now k2).2.toNat).next k3).toNat=decide ((ix (ix (tR s).1.sT (ix now k2).1.toNat).next k3,ix (ix t.sT (ix now k2).2.toNat).next k3)∈vis3):=by
        rw[hmt3,mat_ix O O,Int.toNat_of_nonneg O,Int.toNat_of_nonneg O]
       refine sk (th (sq (rg (mv (fP J T.fld28_1 (lP J J J T.one26 (iPA J J T.arr80 T.one3 J (lP J J J T.one3 (iF J J T.sl26 O gB (fF J T.fld79_1 (lF J J T.one66 (mv (iF J J T.sl66 O gB (lF J J T.one3 (bd (css:= [(0,_),(1,_)]) T.st80 (eC (eC eZ)) ⟨J,J,p1 (φ:=int (ix (ix ((tR s).1).sT ((ix now k2).1).toNat).next k3)) J,⟨J,J,p1 (φ:=int (ix (ix t.sT ((ix now k2).2).toNat).next k3)) J,tV⟩⟩ (al (key:=14) T.z80 (eC (eC eZ)) fun b14=>(sPA (cs':= [int (ix (ix ((tR s).1).sT ((ix now k2).1).toNat).next k3),int (ix (ix t.sT ((ix now k2).2).toNat).next k3)]) J J J T.agg80 J J (nl (th (sq (tkBC 231 2310 (ix (ix (tR s).1.sT (ix now k2).1.toNat).next k3).toNat J J (by decide) (gK O) (gK O) (dr (nh:=10) [0,0,2,7,15,0,32,127,255,511] T.mixed kR ?_))))))))))))))))))))))
       refine st_ J (fun _ _ _ gq kq=>mv' (gq.1.trans J) kq) ?_
       refine st_ J (fun _ _ _ gq kq=>iPA (gq.1.trans J) J T.arr80 T.one3 J kq) ?_
       refine st_ J (fun _ _ _ gq kq=>lP (gq.1.trans J) J J T.one3 kq) ?_
       refine st_ J (fun _ _ _ gq kq=>iO (gq.1.trans J) J (gq.2.1.trans J) T.sl121 O O kq) ?_
       refine st_ J (fun _ _ _ gq kq=>lO (gq.1.trans J) J gB J T.one90 kq) ?_
       refine st_ J (fun _ _ _ gq kq=>iPA (gq.1.trans J) J T.arr80 T.one3 J kq) ?_
       refine st_ J (fun _ _ _ gq kq=>lP (gq.1.trans J) J J T.one3 kq) ?_
       refine st_ J (fun _ _ _ gq kq=>iO ((gq.1.trans J).trans (osl_is (key:=2310)).symm) J (gq.2.1.trans J) T.sl90 O O kq) ?_
       refine st_ J (fun _ _ _ gq kq=>lO (gq.1.trans J) J gB J T.one4 kq) ?_
       refine st_ J (fun _ _ _ gq kq=>no (gq.1.trans J) kq) ?_
       refine pn (nl (th ?_))
       refine cd J (fun hc6=> ?_) (fun hc6=> ?_)
       ·skip
        have hnq:(ix (ix (tR s).1.sT (ix now k2).1.toNat).next k3,ix (ix t.sT (ix now k2).2.toNat).next k3)∉vis3:=by
                  intro h
                  rw[hmq] at hc6
                  simp[h] at hc6
        refine sq (dr (nh:=8) [0,0,2,7,15,0,32,127,255] T.mixed kR ?_)
        refine st_ J (fun _ _ _ gq kq=>mv' (gq.1.trans J) kq) ?_
        refine st_ J (fun _ _ _ gq kq=>iPA (gq.1.trans J) J T.arr80 T.one3 J kq) ?_
        refine st_ J (fun _ _ _ gq kq=>lP (gq.1.trans J) J J T.one3 kq) ?_
        refine st_ J (fun _ _ _ gq kq=>iO (gq.1.trans J) J (gq.2.1.trans J) T.sl121 O O kq) ?_
        refine st_ J (fun _ _ _ gq kq=>lO (gq.1.trans J) J gB J T.one90 kq) ?_
        refine st_ J (fun _ _ _ gq kq=>iPA (gq.1.trans J) J T.arr80 T.one3 J kq) ?_
        refine st_ J (fun _ _ _ gq kq=>lP (gq.1.trans J) J J T.one3 kq) ?_
        refine st_ J (fun _ _ _ gq kq=>iO ((gq.1.trans J).trans (osl_is (key:=2310)).symm) J (gq.2.1.trans J) T.sl90 O O kq) ?_
        refine pn (sO (φ:=bl true) J J J T.one4 gB J (y':=true) J (nl (th (rg (gvU 231 2310 (ix (ix (tR s).1.sT (ix now k2).1.toNat).next k3).toNat J J (by decide) (gK O) (mv (lPA J J T.agg80 J (bs (css:= [[int (ix (ix ((tR s).1).sT ((ix now k2).1).toNat).next k3),int (ix (ix t.sT ((ix now k2).2).toNat).next k3)]]) T.mk65 ⟨J,J,pA (cs:= [int (ix (ix ((tR s).1).sT ((ix now k2).1).toNat).next k3),int (ix (ix t.sT ((ix now k2).2).toNat).next k3)]) J,tV⟩ J J J (ap (key:=9) (zs:= [(ix (ix ((tR s).1).sT ((ix now k2).1).toNat).next k3,ix (ix t.sT ((ix now k2).2).toNat).next k3)]) osl_eq J J J T.mk65 (by unfold maxL at*;simp;omega) (by unfold maxL at*;simp;omega) fun v116=>(ag (nl (eb (th (rg (bi J J (b_add i6) (mv (nl ?_)))))))))))))))))
        have hN0:(k3+1)≤((ix (((tR s).1).sT) (((ix now k2).1).toNat)).next).length:=by
                  first|omega|simp_all
        have hN1:(mt3.set ((ix (ix (tR s).1.sT (ix now k2).1.toNat).next k3).toNat) ((ix mt3 ((ix (ix (tR s).1.sT (ix now k2).1.toNat).next k3).toNat)).set ((ix ((ix t.sT (((ix now k2).2).toNat)).next) k3).toNat) true))=mat (tR s).1.sT.length t.sT.length (vis3++ [(ix (ix (tR s).1.sT (ix now k2).1.toNat).next k3,ix (ix t.sT (ix now k2).2.toNat).next k3)])∧LI (BadD (tR s).1 t) (SucD (tR s).1 t) (vis3++ [(ix (ix (tR s).1.sT (ix now k2).1.toNat).next k3,ix (ix t.sT (ix now k2).2.toNat).next k3)]) (now.drop k2++(nx3++ [(ix ((ix (((tR s).1).sT) (((ix now k2).1).toNat)).next) k3,ix ((ix t.sT (((ix now k2).2).toNat)).next) k3)]))∧(vis3++ [(ix (ix (tR s).1.sT (ix now k2).1.toNat).next k3,ix (ix t.sT (ix now k2).2.toNat).next k3)]).length=vis.length+(nx3++ [(ix ((ix (((tR s).1).sT) (((ix now k2).1).toNat)).next) k3,ix ((ix t.sT (((ix now k2).2).toNat)).next) k3)]).length∧∀a,a<(k3+1)→0≤ix (ix (tR s).1.sT (ix now k2).1.toNat).next a→(ix (ix (tR s).1.sT (ix now k2).1.toNat).next a,ix (ix t.sT (ix now k2).2.toNat).next a)∈(vis3++ [(ix (ix (tR s).1.sT (ix now k2).1.toNat).next k3,ix (ix t.sT (ix now k2).2.toNat).next k3)]):=by
                  refine⟨?_,?_,by simp;omega,fun a ha h0=> ?_⟩
                  ·have hms:=mat_set (n:=(tR s).1.sT.length) (m:=t.sT.length) (vis:=vis3) (x:=(ix (ix (tR s).1.sT (ix now k2).1.toNat).next k3).toNat) (y:=(ix (ix t.sT (ix now k2).2.toNat).next k3).toNat) O O
                   rw[Int.toNat_of_nonneg O,Int.toNat_of_nonneg O,←hmt3] at hms
                   exact hms
                  ·have:=li_push hLI3 hnq hrq
                   rwa [List.append_assoc] at this
                  ·by_cases e:a=k3
                   ·subst e;exact List.mem_append.2 (.inr (List.mem_singleton.2 rfl))
                   ·exact List.mem_append.2 (.inl (hdn a O h0))
        exact ln (⟨k3+1,mt3.set (ix (ix (tR s).1.sT (ix now k2).1.toNat).next k3).toNat ((ix mt3 (ix (ix (tR s).1.sT (ix now k2).1.toNat).next k3).toNat).set (ix (ix t.sT ((ix now k2).2).toNat).next k3).toNat true),v116,nx3++ [(ix (ix ((tR s).1).sT ((ix now k2).1).toNat).next k3,ix (ix t.sT ((ix now k2).2).toNat).next k3)],vis3++ [(ix (ix (tR s).1.sT (ix now k2).1.toNat).next k3,ix (ix t.sT (ix now k2).2.toNat).next k3)]⟩:Nat × (List (List Bool)) × Value × (List (Int × Int)) × (List (Int × Int))) ⟨hN0,hN1⟩ dO ⟨id,id,id,id,id,id,id,id,id,id,id,id,id,tV⟩ ⟨rI,rI,rI,rI,rI,rI,tV⟩
       ·skip
        have hyq:(ix (ix (tR s).1.sT (ix now k2).1.toNat).next k3,ix (ix t.sT (ix now k2).2.toNat).next k3)∈vis3:=by
                  rw[hmq] at hc6
                  simpa using hc6
        refine gvSC 231 2310 (ix (ix (tR s).1.sT (ix now k2).1.toNat).next k3).toNat rfl rfl (by decide) (gK O) (gK O) (sk (eb (th (rg (bi rfl rfl (b_add i6) (mv (nl ?_)))))))
        have hN0:(k3+1)≤((ix (((tR s).1).sT) (((ix now k2).1).toNat)).next).length:=by
                  first|omega|simp_all
        have hN1:mt3=mat (tR s).1.sT.length t.sT.length vis3∧LI (BadD (tR s).1 t) (SucD (tR s).1 t) vis3 (now.drop k2++nx3)∧vis3.length=vis.length+nx3.length∧∀a,a<(k3+1)→0≤ix (ix (tR s).1.sT (ix now k2).1.toNat).next a→(ix (ix (tR s).1.sT (ix now k2).1.toNat).next a,ix (ix t.sT (ix now k2).2.toNat).next a)∈vis3:=by
                  refine⟨hmt3,hLI3,hvl3,fun a ha h0=> ?_⟩
                  by_cases e:a=k3
                  ·subst e;exact hyq
                  ·exact hdn a O h0
        exact ln (⟨k3+1,mt3,v9y,nx3,vis3⟩:Nat × (List (List Bool)) × Value × (List (Int × Int)) × (List (Int × Int))) ⟨hN0,hN1⟩ dO ⟨id,id,id,id,id,id,id,id,id,id,id,id,id,tV⟩ ⟨rI,rI,rI,rI,rI,rI,tV⟩
     ·try simp at hc4
      refine ex (xt_ (xt_ (xb (eb (th (rg (bi J J (b_add i6) (mv (nl ?_)))))))))
      have hN0:(k2+1)≤now.length:=by
       first|omega|simp_all
      have hN1:mt3=mat (tR s).1.sT.length t.sT.length vis3∧LI (BadD (tR s).1 t) (SucD (tR s).1 t) vis3 (now.drop (k2+1)++nx3)∧vis3.length=vis.length+nx3.length:=by
       refine⟨hmt3,?_,hvl3⟩
       have h3:=hLI3
       rw[drop_ix O] at h3
       refine li_pop h3 ⟨hnb,?_⟩
       rintro _ ⟨a,ha,h0,rfl⟩
       exact hdn a (by dsimp only [nxt] at ha;omega) h0
      exact ln (⟨k2+1,mt3,v9y,nx3,vis3⟩:Nat × (List (List Bool)) × Value × (List (Int × Int)) × (List (Int × Int))) ⟨hN0,hN1⟩ dO ⟨id,id,id,id,id,id,id,id,id,tV⟩ ⟨rI,rI,rI,rI,rI,tV⟩
   ·try simp at hc2
    refine ex (xt_ (xt_ (xb (th (rg (fz 9 9 J J (mv (ag (nl (eb (th (rg (mv (bi J J (b_add i6) (ag (nl ?_))))))))))))))))
    have hN0:mt2=mat (tR s).1.sT.length t.sT.length vis2∧LI (BadD (tR s).1 t) (SucD (tR s).1 t) vis2 nx∧0≤(dp+1)∧(dp+1)+((min nx.length 1:Nat):Int)≤(vis2.length:Int):=by
     refine⟨hmt2,?_,O,?_⟩
     ·rw[show now.drop k2= [] from List.drop_eq_nil_of_le O] at hLI2
      simpa using hLI2
     ·omega
    exact ln (⟨mt2,vis2,nx,dp+1⟩:(List (List Bool)) × (List (Int × Int)) × (List (Int × Int)) × Int) hN0 dO ⟨id,id,id,id,id,tV⟩ ⟨rI,rI,rI,rI,tV⟩
  ·try simp at hc1
   refine ex (xt_ (xt_ (xb (th (sq (rg (ag (nl (th (rt ?_))))))))))
   exact rE ⟨-1,⟨fun _=>(trim_refp hs ht).1 (li_yes (by rw[show now= [] from by first|exact hc1|exact List.eq_nil_of_length_eq_zero O] at hLI;exact hLI)),fun _=>by decide⟩⟩ [.tmp 4] J [int (-1)] ⟨.tmp J,tV⟩ J trivial eX
end divd
end
section
open ref01 ref03 ref04 ref06 prog6 prog15 starts Part Rungs LeftM TrimM RoundM MergeM BisM BisM5 BisM6 WalkM StepM WitM JudgM
namespace JudgM2
theorem tS_ne {s:SS} (hs:oK s) (h0:ix (hOl s) 0=false) {x:Nat} (hx:x<(tS s).sT.length):0<(acc (tS s) x).length:=by
 rw[tS_len] at hx
 rw[tS_acc hx]
 exact List.length_pos_iff.2 (keep_ne (by have:=ord_bd hs hx;omega) (ord_solid hs h0 hx))
structure VR where
 holds:Bool
 ladder:List Int
 pairs:List PP
 wit:SSys
structure RefOK (s t:SS) (v:VR):Prop where
 yes:v.holds=true→RefP s t∧v.ladder=rungs s∧v.wit=⟨[],[]⟩∧(ix (hOl s) 0=true→v.pairs= [])∧(ix (hOl s) 0=false→∃q,QInv (tS s) t q∧(∀k,k<q.length→Done (tS s) t q k)∧v.pairs=q.map fun m=>(ix (ordS s) m.s.toNat,m.t))
 no:v.holds=false→¬RefP s t∧v.ladder= []∧v.pairs= []∧ix (hOl s) 0=false∧∃q i u,QInv (tS s) t q∧i<q.length∧u∈acc (tS s) (ix q i).s.toNat∧u∉acc t (ix q i).t.toNat∧WitOK (tS s) (pathL (tS s) (wordTo q i) u) v.wit
end JudgM2
end
section
open ref01 ref03 ref04 ref06 prog prog2 prog3 prog4 prog5 prog6 prog13 prog15 starts search Part Rungs LeftM TrimM RoundM MergeM BisM BisM5 WalkM StepM WitM JudgM JudgM2 refw judg wit
theorem oK.small {s:SS} (h:oK s):smallSpec s:=fun k hk i hi=>by
 have:=(h.st k hk).ac i hi
 omega
noncomputable def refB (s t:SS):Bool:= @decide (RefP s t) (Classical.propDecidable _)
theorem refB_iff {s t:SS}:refB s t=true↔RefP s t:=by unfold refB;simp
namespace refj
end refj
end
section
open ref01 ref03 ref04 ref06 prog prog2 prog3 prog6 prog13 Part Rungs LeftM TrimM RoundM MergeM BisM BisM4 BisM5 WalkM StepM WitM JudgM refw judg wit refj sysw divr divs divd LevM
noncomputable def eqR (s t:SS):Bool:=refB s t&&refB t s
noncomputable def fineR (g w:SS):Bool:=specOK g&&decide (g.aC=w.aC)&&isTrimS g&&eqR g w
namespace T
theorem ent142:Ent Tryz.prog 142:=ent_of kR
theorem ent108:Ent Tryz.prog 108:=ent_of kR
theorem ent21:Ent Tryz.prog 21:=ent_of kR
theorem ent58:Ent Tryz.prog 58:=ent_of kR
theorem ent59:Ent Tryz.prog 59:=ent_of kR
end T
namespace dive
theorem Refines_ok (s t:SS) (hs:oK s) (ht:oK t):
 Fn0 Tryz.prog 108 [spec s,spec t] (bl (refB s t)):=by
 refine fnI Tryz.func108 rfl rfl (fun w0 F0=> ?_)
 refine fcC (inhS 0 J) (fun hS0=> ?_)
 obtain⟨hsa0,hss0,hse0⟩:=sLn hS0
 refine fcC (inhS 1 J) (fun hS1=> ?_)
 obtain⟨hsa1,hss1,hse1⟩:=sLn hS1
 refine sq (rg (bx (key:=2) (cs:= [sl 1 rE_ s.aC,sl 2 sE s.sT]) J fun b2=>(bx (key:=3) (cs:= [sl 1 rE_ t.aC,sl 2 sE t.sT]) J fun b3=>(ag (nl (th (sq (rg (lPA J J T.agg28 J (lPA J J T.agg28 J (cl (divd.Depth_ok s t aS aS) T.ent142 trivial fun N7 i7=>(bi J J b_lss (ag (nl (th (rt ?_))))))))))))))))
 have hr0:(decide (i7.1<0))=(refB s t):=by
  rw[Bool.eq_iff_iff,refB_iff,decide_eq_true_eq];exact i7.2
 exact rE () [.tmp 4] J [bl (decide (i7.1<0))] ⟨.tmp J,tV⟩ (cA1 (fun x0=>rV [bl x0]) hr0) trivial eX
theorem Equal_ok (s t:SS) (hs:oK s) (ht:oK t):
 Fn0 Tryz.prog 59 [spec s,spec t] (bl (eqR s t)):=by
 refine fnI Tryz.func59 rfl rfl (fun w0 F0=> ?_)
 refine fcC (inhS 0 J) (fun hS0=> ?_)
 obtain⟨hsa0,hss0,hse0⟩:=sLn hS0
 refine fcC (inhS 1 J) (fun hS1=> ?_)
 obtain⟨hsa1,hss1,hse1⟩:=sLn hS1
 refine sq (rg (bx (key:=2) (cs:= [sl 1 rE_ s.aC,sl 2 sE s.sT]) J fun b2=>(bx (key:=3) (cs:= [sl 1 rE_ t.aC,sl 2 sE t.sT]) J fun b3=>(ag (nl (th (sq (rg (lPA J J T.agg28 J (lPA J J T.agg28 J (cal0 (φs:= [agg [sl 1 rE_ s.aC,sl 2 sE s.sT],agg [sl 1 rE_ t.aC,sl 2 sE t.sT]]) (φ:=bl (refB s t)) ⟨J,J,tV⟩ (dive.Refines_ok s t aS aS) T.ent108 (mv ?_))))))))))))
 apply gAnd (t:=8) (pd:=12) rfl
 rotate_left
 ·intro hg0 fin
  have hg0':=hg0
  try simp at hg0'
  exact gy J J J hg0 (lPA J J T.agg28 J (gy J J J hg0 (lPA J J T.agg28 J (gy J J J hg0 (cal0 (φs:= [agg [sl 1 rE_ t.aC,sl 2 sE t.sT],agg [sl 1 rE_ s.aC,sl 2 sE s.sT]]) (φ:=bl (refB t s)) ⟨J,J,tV⟩ (dive.Refines_ok t s aS aS) T.ent108 (pkT J hg0 J (drp (X:= [(11,_),(10,_),(9,_)]) ⟨J,J,J,tV⟩ fin)))))))
 ·intro hg0 fin
  exact gn J J J hg0 J J (gn J J J hg0 J J (gn J J J hg0 J J (pkF J hg0 J (drp (X:= [(11,_),(10,_),(9,_)]) ⟨J,J,J,tV⟩ fin))))
 refine ag (nl (th (rt ?_)))
 have hr0:((refB s t)&&(refB t s))=(eqR s t):=by
  first|rfl|simp_all|omega
 exact rE () [.tmp 4] J [bl ((refB s t)&&(refB t s))] ⟨.tmp J,tV⟩ (cA1 (fun x0=>rV [bl x0]) hr0) trivial eX
theorem Fine_ok (g w:SS) (hw:oK w):
 Fn0 Tryz.prog 22 [spec g,spec w] (bl (fineR g w)):=by
 refine fnI Tryz.func22 rfl rfl (fun w0 F0=> ?_)
 refine fcC (inhS 0 J) (fun hS0=> ?_)
 obtain⟨hsa0,hss0,hse0⟩:=sLn hS0
 refine fcC (inhS 1 J) (fun hS1=> ?_)
 obtain⟨hsa1,hss1,hse1⟩:=sLn hS1
 refine sq (rg (bx (key:=2) (cs:= [sl 1 rE_ g.aC,sl 2 sE g.sT]) J fun b2=>(bx (key:=3) (cs:= [sl 1 rE_ w.aC,sl 2 sE w.sT]) J fun b3=>(ag (nl (th (sq (rg (lPA J J T.agg28 J (cal0 (φs:= [agg [sl 1 rE_ g.aC,sl 2 sE g.sT]]) (φ:=bl (specOK g)) ⟨J,tV⟩ (ref03.Is_ok g) T.ent21 (mv ?_)))))))))))
 apply gAnd (t:=7) (pd:=13) rfl
 rotate_left
 ·intro hg0 fin
  have hg0':=hg0
  try simp at hg0'
  exact gy J J J hg0 (fP J T.fld28_0 (gy J J J hg0 (lP J J J T.one22 (gy J J J hg0 (fP J T.fld28_0 (gy J J J hg0 (lP J J J T.one22 (gy J J J hg0 (cal0 (φs:= [sl 1 rE_ g.aC,sl 1 rE_ w.aC]) (φ:=bl (decide (g.aC=w.aC))) ⟨J,J,tV⟩ (ref01.SameStrings_ok _ _) T.ent28 (pkT J hg0 J (drp (X:= [(12,_),(11,_),(10,_),(9,_),(8,_)]) ⟨J,J,J,J,J,tV⟩ fin)))))))))))
 ·intro hg0 fin
  exact gn J J J hg0 J J (gn J J J hg0 J J (gn J J J hg0 J J (gn J J J hg0 J J (gn J J J hg0 J J (pkF J hg0 J (drp (X:= [(12,_),(11,_),(10,_),(9,_),(8,_)]) ⟨J,J,J,J,J,tV⟩ fin))))))
 refine mv ?_
 apply gAnd (t:=14) (pd:=17) rfl
 rotate_left
 ·intro hg1 fin
  have hg1':=hg1
  try simp at hg1'
  have hok:oK g:=okSpec_of (by simp at hg1;exact hg1.1)
  exact gy J J J hg1 (lPA J J T.agg28 J (gy J J J hg1 (cal0 (φs:= [agg [sl 1 rE_ g.aC,sl 2 sE g.sT]]) (φ:=bl (isTrimS g)) ⟨J,tV⟩ (divr.IsTrim_ok g aS) T.ent58 (pkT J hg1 J (drp (X:= [(16,_),(15,_)]) ⟨J,J,tV⟩ fin)))))
 ·intro hg1 fin
  exact gn J J J hg1 J J (gn J J J hg1 J J (pkF J hg1 J (drp (X:= [(16,_),(15,_)]) ⟨J,J,tV⟩ fin)))
 refine mv ?_
 apply gAnd (t:=18) (pd:=22) rfl
 rotate_left
 ·intro hg2 fin
  have hg2':=hg2
  try simp at hg2'
  have hok:oK g:=okSpec_of (by simp at hg2;exact hg2.1.1)
  exact gy J J J hg2 (lPA J J T.agg28 J (gy J J J hg2 (lPA J J T.agg28 J (gy J J J hg2 (cal0 (φs:= [agg [sl 1 rE_ g.aC,sl 2 sE g.sT],agg [sl 1 rE_ w.aC,sl 2 sE w.sT]]) (φ:=bl (eqR g w)) ⟨J,J,tV⟩ (dive.Equal_ok g w aS aS) T.ent59 (pkT J hg2 J (drp (X:= [(21,_),(20,_),(19,_)]) ⟨J,J,J,tV⟩ fin)))))))
 ·intro hg2 fin
  exact gn J J J hg2 J J (gn J J J hg2 J J (gn J J J hg2 J J (pkF J hg2 J (drp (X:= [(21,_),(20,_),(19,_)]) ⟨J,J,J,tV⟩ fin))))
 refine ag (nl (th (rt ?_)))
 have hr0:((((specOK g)&&(decide (g.aC=w.aC)))&&(isTrimS g))&&(eqR g w))=(fineR g w):=by
  first|rfl|simp_all|omega
 exact rE () [.tmp 4] J [bl ((((specOK g)&&(decide (g.aC=w.aC)))&&(isTrimS g))&&(eqR g w))] ⟨.tmp J,tV⟩ (cA1 (fun x0=>rV [bl x0]) hr0) trivial eX
end dive
end
section
namespace LevM2
open ref01 ref03 ref04 ref06 Part Rungs LeftM TrimM BisM BisM5 BisM6 WitM JudgM LevM
end LevM2
end
section
open ref01 ref03 ref04 ref06 prog prog2 prog3 prog6 prog13 Part Rungs LeftM TrimM RoundM MergeM BisM BisM4 BisM5 WalkM StepM WitM JudgM refw judg wit refj sysw divr divs divd dive LevM LevM2
theorem off8 {m:SSys} (hm:okSys m) {x:Nat} (hx:x<m.sT.length):∀e∈ix m.sT x,0≤e.1∧e.1<8:=fun e he=>by
 have:=hm.ed x hx e he
 have:=hm.n8
 omega
namespace divg
end divg
end
section
namespace WitSat
open ref01 ref03 ref04 ref06 Part Rungs LeftM TrimM BisM BisM5 BisM6 WalkM StepM WitM JudgM
variable {T:SS} {want:List PP} {ss:List (List Int)} {q:List PP} {mm:List (PP × Int)} {m:SSys}
end WitSat
end
section
namespace WitVal
open ref01 ref03 ref04 ref06 Part Rungs LeftM TrimM BisM BisM5 BisM6 WalkM StepM WitM JudgM WitSat sysw
variable {T:SS} {want:List PP} {ss:List (List Int)} {q:List PP} {mm:List (PP × Int)} {m:SSys}
theorem sum_le {l:List (List PP)} {K:Nat}:(∀x∈l,x.length≤K)→sumLen l≤l.length*K:=by
 induction l with
 |nil=>intro _;simp[sumLen]
 |cons a l ih=>
  intro h
  have:=ih fun x hx=>h x (List.mem_cons_of_mem _ hx)
  have h0:=h a List.mem_cons_self
  rw[List.length_cons,Nat.succ_mul]
  unfold sumLen at this ⊢
  rw[List.map_cons,List.sum_cons]
  omega
end WitVal
end
section
namespace BisS
open ref01 ref03 ref04 ref06 Part Rungs LeftM TrimM MergeM RoundM BisM BisM4 BisM5 BisM6
structure BB (S D:SS) (R:Nat→Nat→Prop):Prop where
 bis:Bis S D R
 bd:∀{x y},R x y→x<S.sT.length∧y<D.sT.length
structure Numb {α:Type} [DecidableEq α] [Inhabited α] (A:α→List Int) (N:α→Nat→α) (n:Nat) (z:α) (l:List α) (D:SS):Prop where
 len:D.sT.length=l.length
 nd:l.Nodup
 ne:0<l.length
 hd:ix l 0=z
 acc:∀i,i<l.length→acc D i=A (ix l i)
 nl:∀i,i<l.length→(nxt D i).length=n
 nx:∀i,i<l.length→∀a,a<n→ix (nxt D i) a=if has (orAll (A (ix l i))) (a:Int)=true then(l.idxOf (N (ix l i) a):Int) else-1
 cl:∀i,i<l.length→∀a,a<n→has (orAll (A (ix l i))) (a:Int)=true→N (ix l i) a∈l
end BisS
end
section
open ref01 ref03 ref04 ref06 prog prog2 prog3 prog6 prog13 Part Rungs LeftM TrimM RoundM MergeM BisM BisM4 BisM5 WalkM StepM WitM JudgM JudgM2 refw judg wit refj sysw divr divs divd dive divg LevM LevM2
structure SomeOK (s:SS) (z:SSys × Int):Prop where
 bad:specOK s=false→z=(⟨[],[]⟩,30)
 hol:specOK s=true→ix (hOl s) 0=true→z=(⟨[],[]⟩,3)
 fit:specOK s=true→ix (hOl s) 0=false→z.2=0∧WitOK (tS s) [] z.1
namespace divw
end divw
end
section
open ref01 ref03 ref04 ref06 prog prog2 prog3 prog6 prog13 Part Rungs LeftM TrimM RoundM MergeM BisM BisM4 BisM5 WalkM StepM WitM JudgM JudgM2 refw judg wit refj sysw divr divs divd dive divg divw LevM LevM2
namespace divv
theorem Every_ok (l:List ByteArray) (hl:l.length≤8):
 Fn0 Tryz.prog 91 [strs l] (spec (everyS l)):=by
 refine fnI Tryz.func91 rfl rfl (fun w0 F0=> ?_)
 have h2n:2^l.length≤2^8:=Nat.pow_le_pow_right O hl
 refine fcC (slenI 0 J) (fun hm0=> ?_)
 refine sq (rg (al (key:=2) T.z28 (eC (eC eZ)) fun b2=>(nl (th (sq (rg (mv (lnF J T.sl22 (mk (key:=7) (m:=l.length) (enc:=nE) (y:=(0:Int)) J J T.mk66 (eC eZ) (by unfold maxL at*;omega) (by unfold maxL at*;omega) fun v7=>(fz 7 7 J J (bd (css:= [(1,_)]) T.st79 (eC (eC eZ)) ⟨J,J,p1 (φ:=sl 1 nE (List.replicate l.length (0:Int))) J,tV⟩ (al (key:=3) T.z79 (eC (eC eZ)) fun b3=>(sPA (cs':= [eqv (.slice none 0 0),sl 1 nE (List.replicate l.length (0:Int))]) J J J T.agg79 J J (nl (th (sq (sq (rg (mv (lnF J T.sl22 (bi J J (b_shlI O O) (mv (nl (th (bk ?_)))))))))))))))))))))))))
 refine nwC 30 3 1 nE (kncC 3 0 (osl 30 (.slice none 0 0)) rfl rfl eq_osl ?_)
 have hI0_0:0≤2^l.length:=by
  first|omega|simp
 have hI0_1:([]:List Int)=(List.range 0).map fun(x:Nat)=>(x:Int):=by
  rfl
 refine lp (κ:=Nat × Value × (List Int)) (fun p=> [(0,sl 1 rE_ l),(2,ptr 2 b2 0),(3,ptr 3 b3 0),(11,int ((2^l.length:Nat):Int)),(12,int (p.1:Int))]) (fun p=> [(2,cell b2 [eqv (.slice none 0 0),eqv (.slice none 0 0)]),(3,cell b3 [osl 30 p.2.1,sl 1 nE (List.replicate l.length 0)]),(30,own p.2.1 3 1 nE p.2.2)]) (fun p=>(p.1≤2^l.length)∧(p.2.2=(List.range p.1).map fun(x:Nat)=>(x:Int))) (fun p=>2^l.length- p.1) ⟨0,(.slice none 0 0),([]:List Int)⟩ ⟨hI0_0,hI0_1⟩ ⟨id,id,id,id,id,tV⟩ ⟨rI,rI,rI,tV⟩ ?_
 intro⟨k,v,acc⟩ hG0
 obtain⟨hk0,hI0⟩:(k≤2^l.length)∧(acc=(List.range k).map fun(x:Nat)=>(x:Int)):=hG0
 show Ct _ _ _ _ [(0,sl 1 rE_ l),(2,ptr 2 b2 0),(3,ptr 3 b3 0),(11,int ((2^l.length:Nat):Int)),(12,int (k:Int))] [(2,cell b2 [eqv (.slice none 0 0),eqv (.slice none 0 0)]),(3,cell b3 [osl 30 v,sl 1 nE (List.replicate l.length 0)]),(30,own v 3 1 nE acc)] _
 have hlen:acc.length=k:=by rw[hI0];simp
 refine sq (rg (bi J J b_lss (nl (th (sq ?_)))))
 refine cd J (fun hc0=> ?_) (fun hc0=> ?_)
 ·try simp at hc0
  have hkk:k<2^l.length:=by exact_mod_cast hc0
  refine sk (th (sq (bk (sq (rg (mv (ag (nl (th (rg (fP J T.fld79_0 (lP J J J T.one66 (mv (bsE (enc:=nE) (xs:= [(k:Int)]) (css:= [[int (k:Int)]]) T.mk66 ⟨J,J,p1 (φ:=int (k:Int)) J,tV⟩ J J J J (ap (key:=30) (zs:= [(k:Int)]) osl_eq J J J T.mk66 (by unfold maxL at*;simp;omega) (by unfold maxL at*;simp;omega) fun v19=>(fP J T.fld79_0 (storePO J J J J T.one66 J (nl (eb (th (rg (bi J J (b_add i6) (mv (nl ?_))))))))))))))))))))))))
  have hN0:(k+1)≤2^l.length:=by
   first|omega|simp_all
  have hN1:(acc++ [(k:Int)])=(List.range (k+1)).map fun(x:Nat)=>(x:Int):=by
   rw[hI0,List.range_succ,List.map_append];rfl
  exact ln (⟨k+1,v19,acc++ [(k:Int)]⟩:Nat × Value × (List Int)) ⟨hN0,hN1⟩ dO ⟨id,id,id,id,id,tV⟩ ⟨rI,rI,rI,tV⟩
 ·try simp at hc0
  have hkk:2^l.length≤k:=by first|exact_mod_cast hc0|exact Nat.le_of_not_lt (by exact_mod_cast hc0)
  refine ex (xt_ (xt_ (xb (th (sq (fzcC 3 30 0 J J J J (dr (nh:=5) [0,1,0,4,15,31] T.mixed kR ?_)))))))
  refine st_ J (fun _ _ _ gq kq=>mv' (gq.1.trans J) kq) ?_
  refine st_ J (fun _ _ _ gq kq=>calW (φs:= [sl 1 rE_ l]) (φ:=sl 1 rE_ l) ⟨(gq.1.trans J),tV⟩ (prog.sClonestrE_ok _ O) T.ent92 (fun N hN=>fun h=>nw_le h) kq) ?_
  refine st_ J (fun _ _ _ gq kq=>lPA (gq.1.trans J) J T.agg79 J kq) ?_
  refine st_ J (fun _ _ _ gq kq=>bsE (enc:=sE) (xs:= [(⟨acc,List.replicate l.length 0⟩)]) (css:= [[sl 1 nE acc,sl 1 nE (List.replicate l.length 0)]]) T.mk26 ⟨J,J,pA (cs:= [sl 1 nE acc,sl 1 nE (List.replicate l.length 0)]) (by exact(gq.1.trans J)),tV⟩ J J J J kq) ?_
  refine st_ J (fun _ _ _ gq kq=>bd (css:= [(0,_),(1,_)]) T.st28 (eC (eC eZ)) ⟨J,J,p1 (φ:=sl 1 rE_ l) (by exact(gq.1.trans J)),⟨J,J,p1 (φ:=sl 2 sE [(⟨acc,List.replicate l.length 0⟩)]) (by exact(gq.2.1.trans J)),tV⟩⟩ kq) ?_
  refine pn (sPA (cs':= [sl 1 rE_ l,sl 2 sE [(⟨acc,List.replicate l.length 0⟩)]]) J J J T.agg28 J J (nl (th (rt ?_))))
  have hr0:l=(everyS l).aC:=by
   rfl
  have hr1: [(⟨acc,List.replicate l.length 0⟩)]=(everyS l).sT:=by
   unfold everyS;rw[hI0,show k=2^l.length by omega]
  exact rE () [.cell 2 28] J [agg [sl 1 rE_ l,sl 2 sE [(⟨acc,List.replicate l.length 0⟩)]]] ⟨.agg J J T.agg28 J J,tV⟩ (cA2 (fun x0 x1=>rV [agg [sl 1 rE_ x0,sl 2 sE x1]]) hr0 hr1) trivial eX
end divv
end
section
open ref01 ref03 ref04 ref06 prog prog2 prog3 prog6 prog13 Part Rungs LeftM TrimM RoundM MergeM BisM BisM4 BisM5 WalkM StepM WitM JudgM JudgM2 refw judg wit refj sysw divr divs divd dive divg divw divv LevM LevM2
namespace divf
end divf
end
section
namespace ChsM
open ref01 ref03 divs divf
end ChsM
end
section
open ref01 ref03 ref04 ref06 Part Rungs LeftM TrimM
namespace ValidM
theorem lt_pow_of_bits {u n:Nat} (h:∀a,u.testBit a=true→a<n):u<2^n:=
 Nat.lt_pow_two_of_testBit u (fun i hi=>by
  cases hb:u.testBit i with
  |false=>rfl
  |true=>exact absurd (h i hb) O)
theorem stateOK_of {x:SA} {N n:Nat} (h:okState x N n):stateOK x (N:Int) n=true:=by
 unfold stateOK
 simp only [Bool.and_eq_true,decide_eq_true_eq]
 refine⟨⟨⟨by rw[h.len],h.rise⟩,List.all_eq_true.2 (fun j hj=> ?_)⟩,List.all_eq_true.2 (fun u hu=> ?_)⟩
 ·obtain⟨a,ha,rfl⟩:=mem_ix hj
  have:=h.nx a (by rw[←h.len];exact ha)
  simp;omega
 ·obtain⟨i,hi,rfl⟩:=mem_ix hu
  have h1:=h.ac i hi
  have h2:=h.go i hi
  unfold setOK
  rw[Bool.and_eq_true]
  constructor
  ·unfold isSet
   have:(ix x.aP i).toNat<2^n:=lt_pow_of_bits (fun a ha=>(h2 a (by unfold has;rw[Int.toNat_natCast];exact ha)).1)
   simp only [Bool.and_eq_true,decide_eq_true_eq,Int.toNat_natCast]
   omega
  ·refine List.all_eq_true.2 (fun a ha=> ?_)
   obtain⟨b,rfl,hb,hh⟩:=listOf_mem.1 ha
   have:=(h2 b hh).2
   rw[Int.toNat_natCast];simpa using this
theorem specOK_of {s:SS} (h:oK s) (h5:s.sT.length≤500):specOK s=true:=by
 unfold specOK
 simp only [Bool.and_eq_true,decide_eq_true_eq]
 exact⟨⟨⟨h.acts,h.few0⟩,h5⟩,List.all_eq_true.2 (fun x hx=>by
  obtain⟨k,hk,rfl⟩:=List.getElem_of_mem hx
  have:=stateOK_of (h.st k hk)
  rwa [ix_get hk] at this)⟩
theorem specOK_few {s:SS} (h:specOK s=true):s.sT.length≤500:=by
 unfold specOK at h
 simp only [Bool.and_eq_true,decide_eq_true_eq] at h
 exact h.1.2
end ValidM
end
section
namespace TrimI
open ref01 ref03 ref04 ref06 Part Rungs LeftM TrimM RoundM MergeM BisM BisM2 BisM3 BisM4 BisM5 BisM6 divr divd
theorem visit_rg:∀m,visit [] (rg m)=rg m
 |0=>rfl
 |m+1=>by rw[rg_succ,visit_app,visit_rg m,visit1_out O (fun h=>by have:=(mem_rg.1 h).2;omega)]
theorem map_pos {s:SS} {m:Nat} (hm:m≤(ordS s).length):((ordS s).take m).map (posN (ordS s))=rg m:=by
 apply List.ext_getElem
 ·simp[BisM3.rg];omega
 ·intro i h1 h2
  simp only [List.length_map,List.length_take] at h1
  rw[List.getElem_map,List.getElem_take]
  have hi:i<(ordS s).length:=by omega
  have:=posN_ix (order_nodup (solid s)) hi
  rw[ix_get hi] at this
  rw[←ix_get h2,rg_ix O]
  exact this
theorem next_tS {s:SS} (hs:oK s) {i:Nat} (hi:i<(ordS s).length):((ix (solid s).sT (ix (ordS s) i).toNat).next.map fun k=>if 0≤k then posN (ordS s) k else k)=(ix (tS s).sT i).next:=by
 have hbd:=ord_bd hs hi
 have hx:(ix (ordS s) i).toNat<s.sT.length:=by omega
 have hl:=(hs.st _ hx).len
 rw[tS_at hi,solid_at hx]
 show(cut (ix s.sT _) (orAll (keep s _))).map _=tnext s _
 unfold cut tnext
 rw[List.map_map,hl]
 refine List.map_congr_left (fun a ha=> ?_)
 show(if 0≤(if _ then _ else _:Int) then posN _ (if _ then _ else _) else(if _ then _ else _))=(if _ then _ else _)
 by_cases hh:has (orAll (keep s (ix (ordS s) i).toNat)) (a:Int)=true
 ·rw[if_pos hh]
  have hg:=can_go hs hx hh
  rw[if_pos hg.2.1,if_pos hh]
 ·rw[if_neg hh,if_neg hh];rfl
theorem t_step {s:SS} (hs:oK s) {i:Nat} (hi:i<(ordS s).length):rg (qn s (i+1))=visit (rg (qn s i)) (ix (tS s).sT i).next:=by
 have hol:=ord_le hs
 have hgt:=qn_gt hs hi
 have hix:ix (bq (solid s) i) i=ix (ordS s) i:=(ix_prefix (bq_order hs (i:=i) O) hgt).symm
 have hstep:bq (solid s) (i+1)=visit (bq (solid s) i) (ix (solid s).sT (ix (ordS s) i).toNat).next:=by
  show(if i<(bq (solid s) i).length then _ else _)=_
  rw[if_pos hgt,hix]
 rw[←visit_rg (qn s (i+1)),←visit_rg (qn s i),←map_pos (qn_le hs (i:=i+1) O),←map_pos (qn_le hs (i:=i) O),←bq_take hs (i:=i+1) O,←bq_take hs (i:=i) O,hstep,
  visit_merge (g:=posN (ordS s)) (fun k=>(posN_bd _ k).1),next_tS hs hi]
theorem t_bq {s:SS} (hs:oK s):∀i,i≤(ordS s).length→bq (tS s) i=rg (qn s i)
 |0,_=>rfl
 |i+1,hi=>by
  have ih:=t_bq hs i O
  have hgt:=qn_gt hs (i:=i) O
  show(if i<(bq (tS s) i).length then _ else _)=_
  rw[ih,rg_len,if_pos hgt,rg_ix hgt,Int.toNat_natCast,t_step hs O]
theorem t_order {s:SS} (hs:oK s):order (tS s)=rg (ordS s).length:=by
 have hol:=ord_le hs
 have e:bq (solid s) (ordS s).length=ordS s:=by
  refine bq_end hs ?_ hol
  exact(bq_order hs hol).length_le
 unfold order
 rw[tS_len,t_bq hs _ (Nat.le_refl _)]
 show rg (bq (solid s) (ordS s).length).length=_
 rw[e]
theorem tS_tS {s:SS} (hs:oK s) (h0:ix (hOl s) 0=false):tS (tS s)=tS s:=by
 have ho:ordS (tS s)=rg (ordS s).length:=by
  show order (solid (tS s))=_
  rw[solid_tS hs h0,t_order hs]
 have hT:=tS_ok hs
 show(⟨s.aC,(ordS (tS s)).map (tstate (tS s))⟩:SS)=⟨s.aC,(ordS s).map (tstate s)⟩
 congr 1
 rw[ho]
 apply List.ext_getElem
 ·simp[BisM3.rg]
 ·intro i h1 h2
  simp only [List.length_map,rg_len] at h1
  have hi:i<(ordS s).length:=h1
  have e1:(rg (ordS s).length)[i]'(by rw[rg_len];exact h1)=(i:Int):=by rw[←ix_get (by rw[rg_len];exact h1)];exact rg_ix h1
  rw[List.getElem_map,e1]
  have e2:(List.map (tstate s) (ordS s))[i]=ix (tS s).sT i:=(ix_get (by rw[tS_len];exact hi)).symm
  rw[e2]
  have hk:=tS_keep hs h0 hi
  unfold tstate tnext
  rw[Int.toNat_natCast,hk,ho]
  have e3:ix (tS s).sT i=⟨keep s (ix (ordS s) i).toNat,tnext s (ix (ordS s) i)⟩:=tS_at hi
  rw[e3]
  congr 1
  unfold tnext
  refine List.map_congr_left fun a ha=> ?_
  have ha:a<s.aC.length:=List.mem_range.1 ha
  by_cases hh:has (orAll (keep s (ix (ordS s) i).toNat)) (a:Int)=true
  ·rw[if_pos hh,if_pos hh,ix_map_range ha,if_pos hh]
   obtain⟨p1,_⟩:=posN_at (ord_closed hs hi hh)
   have p0:=(posN_bd (ordS s) (ix (ix s.sT (ix (ordS s) i).toNat).next a)).1
   have hnd:(rg (ordS s).length).Nodup:=by
    have:=order_nodup (tS s)
    rwa [t_order hs] at this
   have hq:=posN_ix hnd (i:=(posN (ordS s) (ix (ix s.sT (ix (ordS s) i).toNat).next a)).toNat) (by rw[rg_len];omega)
   rw[rg_ix O,Int.toNat_of_nonneg p0] at hq
   exact hq
  ·rw[if_neg hh,if_neg hh]
theorem trim_trim {s:SS} (hs:oK s):(tR (tR s).1).1=(tR s).1:=by
 cases h:ix (hOl s) 0 with
 |true=>rw[trimmed_hol h];show(tR (nothing s.aC)).1=_;rw[trimmed_hol (nothing_hollow _)];rfl
 |false=>
  rw[trimmed_not h]
  show(tR (tS s)).1=tS s
  rw[trimmed_not (tS_hollow hs h 0)]
  exact tS_tS hs h
theorem sim_trim {s:SS} (hs:oK s):Sim2 (solid (tR s).1) (solid s) 0 0:=by
 cases h:ix (hOl s) 0 with
 |true=>
  rw[trimmed_hol h]
  have f:=hs.few0
  have g:=(nothing_ok hs.acts).few0
  exact hol_sim (nothing_ok hs.acts) hs rfl O O (nothing_hollow _) h
 |false=>
  rw[trimmed_not h]
  have hop:=ordS_pos s
  have:=tS_sim hs h (i:=0) O
  show Sim2 (solid (tS s)) (solid s) 0 0
  rw[solid_tS hs h]
  rw[ord_zero] at this
  exact this
theorem ref_refl {s:SS} (hs:oK s):RefP s s:=((ref_iff hs hs rfl).2 (sim_refl _ _)).1
theorem ref_trim {s d:SS} (hs:oK s) (hd:oK d) (ha:s.aC=d.aC) (h:RefP s d∧RefP d s):RefP (tR s).1 d∧RefP d (tR s).1:=
 (ref_iff (trim_ok hs) hd ((trim_acts s).trans ha)).2 ((sim_trim hs).trans ((ref_iff hs hd ha).1 h))
theorem trim_len {s:SS} (hs:oK s):(tR s).1.sT.length≤s.sT.length:=by
 cases h:ix (hOl s) 0 with
 |true=>rw[trimmed_hol h];have:=hs.few0;show 1≤_;omega
 |false=>rw[trimmed_not h];show((ordS s).map _).length≤_;rw[List.length_map];exact ord_le hs
end TrimI
end
section
namespace QuoM
open ref01 ref03 ref04 ref06 Part Rungs LeftM TrimM RoundM MergeM BisM BisM4 BisM5 WitM JudgM LevM divr divs divd divf ChsM BisS TrimI
section
variable {α:Type} [DecidableEq α] [Inhabited α]
def pushL (l:List α) (p:α):List α:=if p∈l then l else l++ [p]
def outsL (A:α→List Int) (N:α→Nat→α) (p:α) (ks:List Int) (l:List α):List α:=ks.foldl (fun l a=>pushL l (N p a.toNat)) l
def actsL (A:α→List Int) (p:α):List Int:=listOf 63 (orAll (A p))
def stepL (A:α→List Int) (N:α→Nat→α) (l:List α) (p:α):List α:=outsL A N p (actsL A p) l
def runL (A:α→List Int) (N:α→Nat→α):Nat→Nat→List α→List α
 |0,_,l=>l
 |f+1,i,l=>if i<l.length then runL A N f (i+1) (stepL A N l (ix l i)) else l
theorem push_prefix (l:List α) (p:α):l<+:pushL l p:=by
 unfold pushL
 split
 ·exact List.prefix_rfl
 ·exact List.prefix_append _ _
theorem push_mem (l:List α) (p:α):p∈pushL l p:=by
 unfold pushL
 split
 ·assumption
 ·simp
theorem outs_prefix (A:α→List Int) (N:α→Nat→α) (p:α):∀(ks:List Int) (l:List α),l<+:outsL A N p ks l
 | [],l=>List.prefix_rfl
 |a::ks,l=>(push_prefix l _).trans (outs_prefix A N p ks _)
theorem outs_snoc (A:α→List Int) (N:α→Nat→α) (p:α) (ks:List Int) (a:Int) (l:List α):outsL A N p (ks++ [a]) l=pushL (outsL A N p ks l) (N p a.toNat):=by
 unfold outsL;rw[List.foldl_append];rfl
theorem outs_mem (A:α→List Int) (N:α→Nat→α) (p:α):∀(ks:List Int) (l:List α) (a:Int),a∈ks→N p a.toNat∈outsL A N p ks l
 | [],l,a,h=>nomatch h
 |b::ks,l,a,h=>by
  rcases List.mem_cons.1 h with rfl|h
  ·exact(outs_prefix A N p ks _).subset (push_mem l _)
  ·exact outs_mem A N p ks _ a h
theorem run_prefix (A:α→List Int) (N:α→Nat→α):∀(f i:Nat) (l:List α),l<+:runL A N f i l
 |0,i,l=>List.prefix_rfl
 |f+1,i,l=>by
  unfold runL
  split
  ·exact(outs_prefix A N _ _ l).trans (run_prefix A N f (i+1) _)
  ·exact List.prefix_rfl
structure Walk (A:α→List Int) (N:α→Nat→α) (ok:α→Prop) (z:α) (i:Nat) (l:List α):Prop where
 nd:l.Nodup
 ne:0<l.length
 hd:ix l 0=z
 ok:∀p∈l,ok p
 dn:∀j,j<i→j<l.length→∀a∈actsL A (ix l j),N (ix l j) a.toNat∈l
theorem ix_pre {l m:List α} (h:l<+:m) {j:Nat} (hj:j<l.length):ix m j=ix l j:=by
 obtain⟨t,rfl⟩:=h
 unfold ix
 rw[List.getD_eq_getElem?_getD,List.getD_eq_getElem?_getD,List.getElem?_append_left hj]
theorem push_nd {l:List α} {p:α} (h:l.Nodup):(pushL l p).Nodup:=by
 unfold pushL
 split
 ·exact h
 ·next g=>
  rw[List.nodup_append]
  refine⟨h,by simp,fun a ha b hb e=> ?_⟩
  rw[List.mem_singleton.1 hb] at e
  subst e;exact g ha
theorem push_in {l:List α} {p q:α} (h:q∈pushL l p):q∈l∨q=p:=by
 unfold pushL at h
 split at h
 ·exact .inl h
 ·rcases List.mem_append.1 h with h|h
  ·exact .inl h
  ·exact .inr (List.mem_singleton.1 h)
theorem outs_nd (A:α→List Int) (N:α→Nat→α) (p:α):∀(ks:List Int) (l:List α),l.Nodup→(outsL A N p ks l).Nodup
 | [],l,h=>h
 |a::ks,l,h=>outs_nd A N p ks _ (push_nd h)
theorem outs_in (A:α→List Int) (N:α→Nat→α) (p:α):∀(ks:List Int) (l:List α) (q:α),q∈outsL A N p ks l→q∈l∨∃a∈ks,q=N p a.toNat
 | [],l,q,h=> .inl h
 |a::ks,l,q,h=>by
  rcases outs_in A N p ks _ q h with h|⟨b,hb,e⟩
  ·rcases push_in h with h|h
   ·exact .inl h
   ·exact .inr ⟨a,List.mem_cons_self,h⟩
  ·exact .inr ⟨b,List.mem_cons_of_mem _ hb,e⟩
variable {A:α→List Int} {N:α→Nat→α} {ok:α→Prop} {z:α}
theorem walk_step (hok:∀p,ok p→∀a∈actsL A p,ok (N p a.toNat)) {i:Nat} {l:List α} (h:Walk A N ok z i l) (hi:i<l.length):Walk A N ok z (i+1) (stepL A N l (ix l i)):=by
 have hp:=outs_prefix A N (ix l i) (actsL A (ix l i)) l
 refine⟨outs_nd A N _ _ l h.nd,Nat.lt_of_lt_of_le h.ne hp.length_le,(ix_pre hp h.ne).trans h.hd,fun p hq=> ?_,fun j hj hl a ha=> ?_⟩
 ·rcases outs_in A N _ _ l p hq with g|⟨a,ha,rfl⟩
  ·exact h.ok p g
  ·exact hok _ (h.ok _ (ix_memS hi)) a ha
 ·have hjl:j<l.length:=by omega
  have e:ix (stepL A N l (ix l i)) j=ix l j:=ix_pre hp hjl
  rw[e] at ha ⊢
  by_cases g:j<i
  ·exact hp.subset (h.dn j g hjl a ha)
  ·have:j=i:=by omega
   subst this
   exact outs_mem A N _ _ l a ha
theorem walk_run (hok:∀p,ok p→∀a∈actsL A p,ok (N p a.toNat)):∀(f i:Nat) (l:List α),i≤l.length→Walk A N ok z i l→∃j,j≤(runL A N f i l).length∧Walk A N ok z j (runL A N f i l)∧(j=(runL A N f i l).length∨j=i+f)
 |0,i,l,hi,h=>⟨i,hi,h,.inr O⟩
 |f+1,i,l,hi,h=>by
  unfold runL
  split
  ·next g=>
   have hp:=outs_prefix A N (ix l i) (actsL A (ix l i)) l
   obtain⟨j,h1,h2,h3⟩:=walk_run hok f (i+1) _ (by have:=hp.length_le;show _≤(stepL A N l (ix l i)).length;unfold stepL;omega) (walk_step hok h g)
   exact⟨j,h1,h2,O⟩
  ·next g=>exact⟨i,hi,h,.inl O⟩
theorem walk_end (hok:∀p,ok p→∀a∈actsL A p,ok (N p a.toNat)) {B:Nat} (hB:∀l:List α,l.Nodup→(∀p∈l,ok p)→l.length≤B) {l:List α} (h:Walk A N ok z 0 l) {f:Nat} (hf:B≤f):Walk A N ok z (runL A N f 0 l).length (runL A N f 0 l):=by
 obtain⟨j,h1,h2,h3⟩:=walk_run hok f 0 l O h
 have:=hB _ h2.nd h2.ok
 have e:j=(runL A N f 0 l).length:=by omega
 rwa [e] at h2
def ofL (A:α→List Int) (N:α→Nat→α) (n:Nat) (L:List α) (p:α):SA:=⟨A p,(List.range n).map fun(a:Nat)=>if has (orAll (A p)) (a:Int)=true then(L.idxOf (N p a):Int) else-1⟩
theorem numb_of (hn:∀p,ok p→∀a:Nat,has (orAll (A p)) (a:Int)=true→a<63) {n:Nat} {L:List α} (h:Walk A N ok z L.length L) (acts:List ByteArray):Numb A N n z L ⟨acts,L.map (ofL A N n L)⟩:=by
 have hat:∀i,i<L.length→ix (L.map (ofL A N n L)) i=ofL A N n L (ix L i):=fun i hi=>TurnM.ix_mapS hi
 refine⟨by simp,h.nd,h.ne,h.hd,fun i hi=> ?_,fun i hi=> ?_,fun i hi a ha=> ?_,fun i hi a ha hh=> ?_⟩
 ·show(ix (L.map (ofL A N n L)) i).aP=_
  rw[hat i hi];rfl
 ·show(ix (L.map (ofL A N n L)) i).next.length=_
  rw[hat i hi];simp[ofL]
 ·show ix (ix (L.map (ofL A N n L)) i).next a=_
  rw[hat i hi]
  exact ix_map_range ha
 ·have:=h.dn i hi hi (a:Int) (listOf_mem.2 ⟨a,rfl,hn _ (h.ok _ (ix_memS hi)) a hh,hh⟩)
  rwa [Int.toNat_natCast] at this
theorem numb_ok {n:Nat} {L:List α} {D:SS} (hD:Numb A N n z L D) (hact:actionsOK D.aC=true) (hn:D.aC.length=n) (hl:L.length≤10000) (hb:∀p∈L,∀u∈A p,0≤u∧u<256) (hg:∀p∈L,∀a:Nat,has (orAll (A p)) (a:Int)=true→a<n) (hr:∀p∈L,rising (A p)=true):oK D:=by
 have n8:=actionsOK_len hact
 refine⟨hact,n8,by rw[hD.len];exact hD.ne,by rw[hD.len];exact hl,fun k hk=> ?_⟩
 rw[hD.len] at hk
 have hm:ix L k∈L:=ix_memS hk
 have ea:(ix D.sT k).aP=A (ix L k):=hD.acc k hk
 have en:(ix D.sT k).next.length=n:=hD.nl k hk
 have ex:∀a,a<n→ix (ix D.sT k).next a=if has (orAll (A (ix L k))) (a:Int)=true then(L.idxOf (N (ix L k) a):Int) else-1:=hD.nx k hk
 refine⟨by rw[en,hn],fun a ha=> ?_,fun i hi=> ?_,fun i hi a ha=> ?_,by rw[ea];exact hr _ hm⟩
 ·rw[ex a O]
  by_cases hh:has (orAll (A (ix L k))) (a:Int)=true
  ·rw[if_pos hh]
   have:=List.idxOf_lt_length_of_mem (hD.cl k hk a O hh)
   rw[hD.len];omega
  ·rw[if_neg hh];omega
 ·rw[ea] at hi ⊢
  exact hb _ hm _ (ix_memS hi)
 ·rw[ea] at hi ha
  have hh:has (orAll (A (ix L k))) (a:Int)=true:=(orAll_has _ _).2 ⟨_,ix_memS hi,ha⟩
  have:=hg _ hm a hh
  rw[ex a this,if_pos hh]
  omega
end
abbrev pix (l:List PP) (p:PP):Nat:= @List.idxOf PP instBEqOfDecidableEq p l
theorem idx_lt {α:Type} [DecidableEq α] {l:List α} {p:α} (h:p∈l):l.idxOf p<l.length:=List.idxOf_lt_length_of_mem h
theorem idx_at {α:Type} [DecidableEq α] [Inhabited α] {l:List α} {p:α} (h:p∈l):ix l (l.idxOf p)=p:=by rw[ix_get (idx_lt h)];exact List.getElem_idxOf _
theorem idx_app {α:Type} [DecidableEq α] {l r:List α} {p:α} (h:p∈l):(l++r).idxOf p=l.idxOf p:=by rw[List.idxOf_append,if_pos h]
theorem idx_end {α:Type} [DecidableEq α] {l:List α} {p:α} (h:p∉l):(l++ [p]).idxOf p=l.length:=by rw[List.idxOf_append,if_neg h];simp
theorem idx_le {α:Type} [DecidableEq α] [Inhabited α] {l:List α} {p:α} {k:Nat} (hk:k<l.length) (h:ix l k=p):l.idxOf p≤k:=by
 rcases Nat.lt_or_ge k (l.idxOf p) with g|g
 ·have hf:=List.not_of_lt_findIdx (p:=(· ==p)) (xs:=l) (i:=k) (by unfold List.idxOf at g;exact g)
  rw[ix_get hk] at h
  simp[h] at hf
 ·exact g
def bes:PP:=(-1,-1)
def subs (n:Nat):List Int:=(List.range (2^n)).map fun(x:Nat)=>(x:Int)
def qA (t s:SS) (p:PP):List Int:=if p=bes then subs t.aC.length else(subs t.aC.length).filter (fitsB (ix t.sT p.1.toNat) (ix s.sT p.2.toNat))
def qN (t s:SS) (p:PP) (a:Nat):PP:=if p≠bes∧0≤ix (nxt s p.2.toNat) a then(ix (nxt t p.1.toNat) a,ix (nxt s p.2.toNat) a) else bes
def qOk (t s:SS) (p:PP):Prop:=p=bes∨(0≤p.1∧p.1<(t.sT.length:Int)∧0≤p.2∧p.2<(s.sT.length:Int))
theorem subs_mem {n:Nat} {u:Int}:u∈subs n↔0≤u∧u<((2^n:Nat):Int):=by
 unfold subs
 rw[List.mem_map]
 constructor
 ·rintro⟨k,hk,rfl⟩
  have:=List.mem_range.1 hk
  omega
 ·rintro⟨h0,h1⟩
  exact⟨u.toNat,List.mem_range.2 O,O⟩
theorem subs_rise (n:Nat):(subs n).Pairwise (· < ·):=by
 unfold subs
 rw[List.pairwise_map]
 exact List.pairwise_lt_range.imp fun h=>by omega
theorem has_sub {n:Nat} {u:Int} (h:u∈subs n) {a:Nat} (ha:has u (a:Int)=true):a<n:=by
 have hu:=subs_mem.1 h
 unfold has at ha
 rw[Int.toNat_natCast] at ha
 have h7:2^a≤u.toNat:=Nat.ge_two_pow_of_testBit ha
 exact(Nat.pow_lt_pow_iff_right (a:=2) O).1 O
theorem has_and {u o:Int} {a:Nat}:has (andI u o) (a:Int)=(has u (a:Int)&&has o (a:Int)):=by
 unfold has andI
 rw[Int.toNat_natCast,Int.toNat_natCast,Nat.testBit_and]
def qL (t s:SS):List PP:=runL (qA t s) (qN t s) (t.sT.length*s.sT.length+1) 0 [(0,0)]
def quoD (t s:SS):SS:=⟨t.aC,(qL t s).map (ofL (qA t s) (qN t s) t.aC.length (qL t s))⟩
end QuoM
end
section
namespace FailM
open ref01 ref03 ref04 ref06 prog15 starts Part Rungs LeftM TrimM RoundM BisM BisM5 BisM6 WalkM StepM WitM JudgM LevM divs QuoM
abbrev T3:=Int × Int × Int
structure M5 where
 x:Int
 t:Int
 s:Int
 before:Int
 action:Int
deriving Inhabited,DecidableEq
def tri (m:M5):T3:=(m.x,m.t,m.s)
def toMt (m:M5):Mt:=⟨m.s,m.t,m.before,m.action⟩
def smap3 (mm:List (T3 × Bool)) (l:List T3):Prop:=∀p,mget mm p=if p∈l then some true else none
def Bad3 (x:SSys) (t s:SS) (p:T3):Prop:=∃o∈acc s p.2.2.toNat,andI (offM x p.1.toNat) o∉acc t p.2.1.toNat
def nx3 (t s:SS) (p:T3) (e:PP):T3:=(e.2,ix (nxt t p.2.1.toNat) e.1.toNat,ix (nxt s p.2.2.toNat) e.1.toNat)
inductive Rch3 (x:SSys) (t s:SS):T3→Prop
 |zero:Rch3 x t s (0,0,0)
 |step {p:T3} {e:PP}:Rch3 x t s p→¬Bad3 x t s p→e∈edg x p.1.toNat→0≤ix (nxt s p.2.2.toNat) e.1.toNat→Rch3 x t s (nx3 t s p e)
def Well3 (x:SSys) (t s:SS):Prop:=∀p,Rch3 x t s p→¬Bad3 x t s p
variable {x:SSys} {t s:SS}
structure QF (x:SSys) (t s:SS) (q:List M5):Prop where
 ne:0<q.length
 hd:ix q 0=⟨0,0,0,-1,0⟩
 nd:(q.map tri).Nodup
 rch:∀m∈q,Rch3 x t s (tri m)
 back:∀k,0<k→k<q.length→∃(b:Nat) (e:PP),(ix q k).before=(b:Int)∧(ix q k).action=e.1∧b<k∧¬Bad3 x t s (tri (ix q b))∧e∈edg x (ix q b).x.toNat∧0≤ix (nxt s (ix q b).s.toNat) e.1.toNat∧tri (ix q k)=nx3 t s (tri (ix q b)) e
def DoneF (x:SSys) (t s:SS) (q:List M5) (k:Nat):Prop:=
 ¬Bad3 x t s (tri (ix q k))∧∀e∈edg x (ix q k).x.toNat,0≤ix (nxt s (ix q k).s.toNat) e.1.toNat→nx3 t s (tri (ix q k)) e∈q.map tri
structure MidF (x:SSys) (t s:SS) (q:List M5) (i k:Nat) (q2:List M5) (mm2:List (T3 × Bool)):Prop where
 qi:QF x t s q2
 sm:smap3 mm2 (q2.map tri)
 pre:q<+:q2
 dn:∀j,j<i→DoneF x t s q2 j
 al:∀e∈(edg x (ix q i).x.toNat).take k,0≤ix (nxt s (ix q i).s.toNat) e.1.toNat→nx3 t s (tri (ix q i)) e∈q2.map tri
variable {q q2:List M5} {i k:Nat} {mm mm2:List (T3 × Bool)}
abbrev wordF (q:List M5) (k:Nat):List Int:=wordTo (q.map toMt) k
structure FailOK (x:SSys) (t s:SS) (z:List Int × Int × Bool):Prop where
 none:z.2.2=false→z.1= []∧z.2.1=0∧Well3 x t s
 some:z.2.2=true→∃q i,QF x t s q∧i<q.length∧z.1=wordF q i∧z.2.1∈acc s (ix q i).s.toNat∧andI (offM x (ix q i).x.toNat) z.2.1∉acc t (ix q i).t.toNat
end FailM
end
section
namespace DivM
open ref01 ref03 ref04 ref06 Part Rungs LeftM TrimM RoundM MergeM BisM BisM2 BisM4 BisM5 BisM6 WalkM WitM JudgM JudgM2 LevM divr divs divd dive divg divw divv refj sysw ChsM BisS TrimI ValidM WitSat WitVal QuoM
theorem rep_ix {n a:Nat} (v:Int) (h:a<n):ix (List.replicate n v) a=v:=by rw[ix_get (by simpa using h)];simp
noncomputable def quoS (t s:SS):SS × Bool:=
 if ix (hOl s) 0=true then(everyS t.aC,true)
 else if (qL t (tR s).1).length≤500 then((tR (quoD t (tR s).1)).1,true) else(⟨[],[]⟩,false)
noncomputable def divS (t s:SS):SS × Int:=
 if fineE t s=0 then(if (quoS t s).2=true then((quoS t s).1,0) else(⟨[],[]⟩,2)) else(⟨[],[]⟩,fineE t s)
structure RefQ (t s D:SS):Prop where
 acts:D.aC=t.aC
 hol:ix (hOl s) 0=true→D=everyS t.aC
 num:ix (hOl s) 0=false→∃l,Numb (qA t (tR s).1) (qN t (tR s).1) t.aC.length (0,0) l D∧l.length≤t.sT.length*s.sT.length+1
structure Same (q D:SS):Prop where
 ok:oK q
 few:q.sT.length≤500
 acts:q.aC=D.aC
 trim:(tR q).1=q
 r1:RefP q D
 r2:RefP D q
theorem refB_of {s t:SS} (h:RefP s t):refB s t=true:=refB_iff.2 h
theorem fine_same {q D:SS} (h:Same q D):fineR q D=true:=by
 unfold fineR eqR isTrimS
 rw[specOK_of h.ok h.few,decide_eq_true h.acts,decide_eq_true h.trim.symm,refB_of h.r1,refB_of h.r2];rfl
structure MissOK (t s:SS) (z:SSys × Int):Prop where
 no:(divS t s).2≠0→z=(⟨[],[]⟩,(divS t s).2)
 yes:(divS t s).2=0→SomeOK (divS t s).1 z
theorem ref_hollow {q D:SS} (h:Same q D) (hD:oK D):ix (hOl q) 0=ix (hOl D) 0:=by
 have f1:=h.ok.few0
 have f2:=hD.few0
 have hs:=(ref_iff h.ok hD h.acts).1 ⟨h.r1,h.r2⟩
 cases h1:ix (hOl q) 0<;>cases h2:ix (hOl D) 0
 ·rfl
 ·exact absurd hs.symm (not_sim O O h2 h1)
 ·exact absurd hs (not_sim O O h1 h2)
 ·rfl
end DivM
end
end Go.Proofs.YtnlfjojfgghchaaGreatDoor
