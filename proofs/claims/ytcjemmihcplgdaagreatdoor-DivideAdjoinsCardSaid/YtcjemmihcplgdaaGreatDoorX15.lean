/- The walks of the functions and the plain laws. Own texts of this claim, packed: ZdLawP, ZdJudgM, Zdsysw, Zddivr, Zddivs, ZdLevM, Zddivd, ZdJudgM2, Zdrefj, Zddive, ZdLevM2. -/
import Derived.Test.YtcjemmihcplgdaaGreatDoorX05
import Derived.Test.YtcjemmihcplgdaaGreatDoorX13
import Derived.Test.YtcjemmihcplgdaaGreatDoorX14
import Derived.Test.YtcjemmihcplgdaaGreatDoorRows
import Derived.ProofKit
import Derived.LaidMore
import Derived.Lib.LaidTab
import Derived.Lib.SmallJoins
import Derived.OpenShut
import Derived.Stop.Joined
import Derived.Test.YtcjemmihcplgdaaGreatDoorX11
import Derived.Test.YtcjemmihcplgdaaGreatDoorX04
import Derived.Test.YtcjemmihcplgdaaGreatDoorX07
import Derived.Test.YtcjemmihcplgdaaGreatDoorX09
set_option linter.all false
namespace Go.Proofs.YtcjemmihcplgdaaGreatDoor
open AL Go
set_option maxRecDepth 100000
section
open ref01 ref03 ref04 ref06 prog prog2 prog6 Itoa
open Go.ChangeShapes Go.WideShapes Go.ChangeAt Go.WideElems Go.RowKit
namespace LawOpen
theorem laidOut:laidOutB Tryz.prog=true:=by kernel_rfl
theorem own:ownKnob Tryz.prog.godebug=none:=by kernel_rfl
theorem weights_agg {H:Type} {P:Program} {t:TypeId} {fs:Array Field} {ps:List (DataW H)} (h:P.underlying t=some (.struct fs)):(DataW.agg ps:DataW H).weights P t=DataW.weightsEach P (fs.toList.map (·.type)) ps:=by
 simp[DataW.weights,h]
section
variable {H:Type} {enc:TypeId × Value→H} {W:World}
attribute [local semireducible] agg in
theorem open_stateA {m:Nat} {cs:List Value} {y:DataW H × List MemPlace} (h:DataW.trod enc Tryz.prog W 0 (fun _=>true) true m 81 cs=some y) (hz:∀k∈y.1.weights Tryz.prog 81,k≤reachBytes) (hl:cs.length=2):
 ∃x:SA,All2 W (allF W) (sE x) cs∧∀t∈x.aP,t<2^63:=by
 obtain⟨y0,y1,n,hx,_,h0,h1⟩:=trod_struct2 Tryz.underlying81 h
 subst hx
 have hz:∀k∈y0.1.weights Tryz.prog 36++(y1.1.weights Tryz.prog 36++ []),k≤reachBytes:=by
  have e:(DataW.agg [y0.1,y1.1]:DataW H).weights Tryz.prog 81=y0.1.weights Tryz.prog 36++(y1.1.weights Tryz.prog 36++ []):=by
   rw[weights_agg Tryz.underlying81]
   simp[DataW.weightsEach]
  rw[←e];exact hz
 have c28:Tryz.prog.cellsOf 36=1:=by kernel_rfl
 have c3:Tryz.prog.cellsOf 3=1:=by kernel_rfl
 have b3:1≤Tryz.prog.bytesOf 3:=by have:Tryz.prog.bytesOf 3=8:=kR;omega
 match cs,hl with
 | [v0,v1],_=>
   have h0:DataW.trod enc Tryz.prog W 0 (fun _=>true) true n 36 (([v0,v1].drop 0).take (Tryz.prog.cellsOf 36))=some y0:=h0
   have h1:DataW.trod enc Tryz.prog W 0 (fun _=>true) true n 36 (([v0,v1].drop 1).take (Tryz.prog.cellsOf 36))=some y1:=h1
   rw[c28] at h0 h1
   obtain⟨ys,g1,g2⟩:=open_intsA Tryz.underlying36 Tryz.underlying3 c3 b3 h0 (fun k hk=>hz k (List.mem_append.2 (.inl hk)))
   obtain⟨zs,g3,_⟩:=open_intsA Tryz.underlying36 Tryz.underlying3 c3 b3 h1 (fun k hk=>hz k (List.mem_append.2 (.inr (List.mem_append.2 (.inl hk)))))
   exact⟨⟨ys,zs⟩,⟨g1,g3,tV⟩,fun t ht=>by have:=g2 t ht;omega⟩
attribute [local semireducible] agg in
theorem open_specA {r:Reach} {b0:Nat} {v:Value} {d:DataW H} {p:List MemPlace} (hv:Value.okWide Tryz.prog W r b0 25 v) (h:DataW.Trod enc Tryz.prog W 0 (fun _=>true) true 25 v d p) (hz:∀k∈d.weights Tryz.prog 25,k≤reachBytes):
 ∃s:SS,(spec s).p W (allF W) v∧smallSpec s:=by
 obtain⟨v0,v1,y0,y1,n,rfl,rfl,rfl,h0,h1⟩:=Go.Joins.open_agg2 Tryz.underlying25 kR kR hv h
 have hz:∀k∈y0.1.weights Tryz.prog 22++(y1.1.weights Tryz.prog 23++ []),k≤reachBytes:=by
  have e:(DataW.agg [y0.1,y1.1]:DataW H).weights Tryz.prog 25=y0.1.weights Tryz.prog 22++(y1.1.weights Tryz.prog 23++ []):=by
   rw[weights_agg Tryz.underlying25]
   simp[DataW.weightsEach]
  rw[←e];exact hz
 have c9:Tryz.prog.cellsOf 9=1:=by kernel_rfl
 have b9:1≤Tryz.prog.bytesOf 9:=by have:Tryz.prog.bytesOf 9=16:=kR;omega
 have c69:Tryz.prog.cellsOf 81=2:=by kernel_rfl
 have b69:1≤Tryz.prog.bytesOf 81:=by have:Tryz.prog.bytesOf 81=48:=kR;omega
 obtain⟨al,g1⟩:=open_strsA Tryz.underlying22 Tryz.underlying9 c9 b9 h0 (fun k hk=>hz k (List.mem_append.2 (.inl hk)))
 obtain⟨xs,g2,g3⟩:=open_slA (n:=2) (E:=sE) Tryz.underlying23 c69 (by decide) b69 h1 (fun k hk=>hz k (List.mem_append.2 (.inr (List.mem_append.2 (.inl hk))))) (fun x=> ∀t∈x.aP,t<2^63) (fun m cs y hy hw hl=>open_stateA hy hw hl)
 refine⟨⟨al,xs⟩,⟨[v0,v1],rfl,g1,g2,tV⟩,fun k hk i hi=> ?_⟩
 have hk:k<xs.length:=hk
 have hi:i<(ix xs k).aP.length:=hi
 exact g3 (ix xs k) (Rungs.ix_memS hk) _ (Rungs.ix_mem hi)
end
abbrev laid3:List (String × DataW Unit):= [("math/bits.deBruijn32tab",Rows.laid_math_bits_deBruijn32tab),("math/bits.deBruijn64tab",Rows.laid_math_bits_deBruijn64tab),("internal/strconv.uint64pow10",Rows.laid_internal_strconv_uint64pow10)]
theorem tab_of_laid {W:World} (h:laidMetH Tryz.prog laid3 W) (v:Value):tab.p W (allF W) v:=by
 rw[MakeChecks.laidMetH_plain _ _ _ kR] at h
 obtain⟨ps,⟨g0,t0,cs0,f0,p0,q0,hg0,ht0,hv0,hd0,⟨g1,t1,cs1,f1,p1,q1,hg1,ht1,hv1,hd1,⟨g2,t2,cs2,f2,p2,q2,hg2,ht2,hv2,hd2,_,_⟩,_⟩,_⟩,_,_⟩:=h
 have e0:g2=0:=Option.some.inj (hg2.symm.trans (show Tryz.prog.globalNamed "internal/strconv.uint64pow10" =some 0 by kernel_rfl))
 subst e0
 have e1:t2=275:=Option.some.inj (ht2.symm.trans (show(Tryz.prog.globals[0]?).map (·.type)=some 275 by kernel_rfl))
 subst e1
 have hc:=Lib.cells_of_tab (zs:=Lib.pow10Tab) (k:= .u64) Tryz.underlying275 Tryz.underlying224 kR kR hd2
 refine⟨0,by kernel_rfl,?_,?_⟩
 ·have h2:=hv2
  unfold World.var? at h2
  rw[show Tryz.prog.globalNamed "internal/strconv.uint64pow10" =some 0 by kernel_rfl] at h2
  simp only [Option.bind_some] at h2
  show 0<W.heap.size
  cases hh:W.heap[0]? with
  |none=>rw[hh] at h2;cases h2
  |some o=>exact(Array.getElem?_eq_some_iff.1 hh).1
 ·unfold Lib.TabIs tabName
  rw[hv2,←hc]
end LawOpen
open LawOpen
namespace LawOpen2
theorem door_met (os:Os) (args:Array Value):laidMetH Tryz.prog laid3 ((World.doorLaid Tryz.prog 400 os).forCall (fun _ _=>0) ⟨#[],args,[]⟩).memory:=
 laidMetH_of_parts3 (fuel:=8) (laidMet_of_run' 8 kR kR) kR kR
end LawOpen2
open LawOpen2 WitM wit
namespace LawOpen3
section
variable {H:Type} {enc:TypeId × Value→H} {W:World}
end
end LawOpen3
end
section
open ref01 ref03 ref04 ref06 prog15 starts Part Rungs LeftM TrimM RoundM BisM BisM5 BisM6 WalkM StepM WitM
namespace JudgM
def offE (es:List PP):Int:=orAll (es.map fun e=>((2^e.1.toNat:Nat):Int))
abbrev edg (m:SSys) (x:Nat):List PP:=ix m.sT x
abbrev offM (m:SSys) (x:Nat):Int:=offE (edg m x)
def edM (m:SSys) (x:Nat):List (Nat × Nat):=(edg m x).map fun e=>(e.1.toNat,e.2.toNat)
theorem has_pow (a b:Nat):has ((2^a:Nat):Int) (b:Int)=decide (a=b):=by
 unfold has;rw[Int.toNat_natCast,Int.toNat_natCast,Nat.testBit_two_pow]
theorem off_has {es:List PP} {a:Nat}:has (offE es) (a:Int)=true↔∃e∈es,e.1.toNat=a:=by
 unfold offE
 rw[orAll_has]
 constructor
 ·rintro⟨u,hu,hh⟩
  obtain⟨e,he,rfl⟩:=List.mem_map.1 hu
  rw[has_pow] at hh
  exact⟨e,he,by simpa using hh⟩
 ·rintro⟨e,he,rfl⟩
  exact⟨_,List.mem_map.2 ⟨e,he,rfl⟩,by rw[has_pow];simp⟩
theorem off_ok (m:SSys):OffOK (offM m) (edM m):=fun x a=>by
 rw[off_has]
 unfold edM
 constructor
 ·rintro⟨e,he,h⟩;exact⟨_,List.mem_map.2 ⟨e,he,rfl⟩,h⟩
 ·rintro⟨e,he,h⟩
  obtain⟨e',he',rfl⟩:=List.mem_map.1 he
  exact⟨e',he',h⟩
structure okSys (m:SSys):Prop where
 acts:actionsOK m.aC=true
 n8:m.aC.length≤8
 few0:1≤m.sT.length
 few1:m.sT.length≤10000
 ed:∀x,x<m.sT.length→∀e∈edg m x,0≤e.1∧e.1<(m.aC.length:Int)∧0≤e.2∧e.2<(m.sT.length:Int)
 many:∀x,x<m.sT.length→(edg m x).length≤400000
def SatM (m:SSys) (t:SS):Prop:=Sat (offM m) (edM m) t 0 0
structure QJ (m:SSys) (t:SS) (q:List Mt):Prop where
 ne:0<q.length
 hd:ix q 0=⟨0,0,-1,0⟩
 bd:∀p∈q,0≤p.s∧p.s<(m.sT.length:Int)∧0≤p.t∧p.t<(t.sT.length:Int)
 nd:(q.map pairOf).Nodup
 back:∀k,0<k→k<q.length→∃(b:Nat) (e:PP),(ix q k).before=(b:Int)∧(ix q k).action=e.1∧b<k∧e∈edg m (ix q b).s.toNat∧(ix q k).s=e.2∧(ix q k).t=ix (nxt t (ix q b).t.toNat) e.1.toNat∧offM m (ix q b).s.toNat∈acc t (ix q b).t.toNat
 all:∀R,SatR (offM m) (edM m) t R→R 0 0→∀p∈q,R p.s.toNat p.t.toNat
def DoneJ (m:SSys) (t:SS) (q:List Mt) (k:Nat):Prop:=
 offM m (ix q k).s.toNat∈acc t (ix q k).t.toNat∧∀e∈edg m (ix q k).s.toNat,(e.2,ix (nxt t (ix q k).t.toNat) e.1.toNat)∈q.map pairOf
theorem edge_go {m:SSys} {t:SS} (hm:okSys m) (ht:oK t) {x y:Nat} (hx:x<m.sT.length) (hy:y<t.sT.length) (ha:offM m x∈acc t y) {e:PP} (he:e∈edg m x):
 e.1.toNat<t.aC.length∧0≤ix (nxt t y) e.1.toNat∧ix (nxt t y) e.1.toNat<(t.sT.length:Int):=by
 have:=or_go ht hy (a:=e.1.toNat) ((orAll_has _ _).2 ⟨_,ha,off_has.2 ⟨e,he,rfl⟩⟩)
 exact this
theorem nodup_pairs:∀(n m:Nat) (l:List (Int × Int)),l.Nodup→(∀p∈l,0≤p.1∧p.1<(n:Int)∧0≤p.2∧p.2<(m:Int))→l.length≤n*m:=by
 intro n m l hnd hb
 have h1:(l.map fun p=>p.1.toNat*m+p.2.toNat).Nodup:=by
  rw[List.nodup_iff_pairwise_ne,List.pairwise_map]
  refine List.Pairwise.imp_of_mem ?_ hnd
  intro a b ha hb' hne e
  have b1:=hb a ha
  have b2:=hb b hb'
  have hm:0<m:=by omega
  have e1:a.1.toNat=b.1.toNat:=by
   have:=congrArg (· /m) e
   simp only [Nat.mul_comm _ m] at this
   rw[Nat.mul_add_div hm,Nat.mul_add_div hm,Nat.div_eq_of_lt O,Nat.div_eq_of_lt O] at this
   omega
  have e2:a.2.toNat=b.2.toNat:=by rw[e1] at e;omega
  exact hne (Prod.ext O O)
 have h2:∀x∈(l.map fun p=>p.1.toNat*m+p.2.toNat),x∈List.range (n*m):=fun x hx=>by
  obtain⟨p,hp,rfl⟩:=List.mem_map.1 hx
  have b1:=hb p hp
  rw[List.mem_range]
  have:(p.1.toNat+1)*m≤n*m:=Nat.mul_le_mul_right m O
  rw[Nat.add_mul] at this
  omega
 have h3:=List.Nodup.length_le_of_subset h1 h2
 simpa using h3
structure MidJ (m:SSys) (t:SS) (q:List Mt) (i:Nat) (k:Nat) (q2:List Mt) (mm2:List ((Int × Int) × Bool)):Prop where
 qi:QJ m t q2
 sm:smap mm2 q2
 pre:q<+:q2
 dn:∀k,k<i→DoneJ m t q2 k
 al:∀e∈(edg m (ix q i).s.toNat).take k,(e.2,ix (nxt t (ix q i).t.toNat) e.1.toNat)∈q2.map pairOf
structure VJ where
 holds:Bool
 pairs:List PP
 word:List Int
 state:Int
structure JudgeOK (m:SSys) (t:SS) (v:VJ):Prop where
 yes:v.holds=true→SatM m t∧v.word= []∧v.state=0∧∃q,QJ m t q∧(∀k,k<q.length→DoneJ m t q k)∧v.pairs=sortP (q.map pairOf)
 no:v.holds=false→¬SatM m t∧v.pairs= []∧∃q i,QJ m t q∧i<q.length∧v.word=wordTo q i∧v.state=(ix q i).s∧(∀k,k<i→DoneJ m t q k)∧offM m (ix q i).s.toNat∉acc t (ix q i).t.toNat
end JudgM
end
section
open ref01 ref03 ref04 ref06 prog prog2 prog3 prog6 prog13 prog15 starts search Part Rungs LeftM TrimM RoundM BisM BisM5 WalkM StepM WitM JudgM refw judg wit
def ordI (d e:Int × Int):Int:=if d.1=e.1 then d.2- e.2 else d.1- e.1
theorem ordI_lt {d e:Int × Int} (h:¬0≤ordI d e):d.1<e.1∨(d.1=e.1∧d.2<e.2):=by
 unfold ordI at h
 split at h<;>omega
theorem ordI_ge {d e:Int × Int} (h:0≤ordI d e):¬(d.1<e.1∨(d.1=e.1∧d.2<e.2)):=by
 unfold ordI at h
 split at h<;>omega
def edgeOK (A N:Nat) (e:Int × Int):Bool:=decide (0≤e.1)&&decide (e.1<(A:Int))&&decide (0≤e.2)&&decide (e.2<(N:Int))
theorem edgeOK_iff {A N:Nat} {e:Int × Int}:edgeOK A N e=true↔0≤e.1∧e.1<(A:Int)∧0≤e.2∧e.2<(N:Int):=by
 unfold edgeOK;simp[and_assoc]
def ltP (d e:Int × Int):Bool:=decide (d.1<e.1)||(decide (d.1=e.1)&&decide (d.2<e.2))
theorem ltP_iff {d e:Int × Int}:ltP d e=true↔d.1<e.1∨(d.1=e.1∧d.2<e.2):=by unfold ltP;simp
def edgesOK (A N:Nat) (l:List (Int × Int)):Bool:=l.all (edgeOK A N)&&(List.range (l.length- 1)).all fun i=>ltP (ix l i) (ix l (i+1))
def sumLen (l:List (List (Int × Int))):Nat:=(l.map List.length).sum
theorem sumLen_snoc (l:List (List (Int × Int))) (x:List (Int × Int)):sumLen (l++ [x])=sumLen l+x.length:=by simp[sumLen]
theorem sumLen_take (l:List (List (Int × Int))) (k:Nat):sumLen (l.take k)≤sumLen l:=by
 conv=>rhs;rw[←List.take_append_drop k l]
 unfold sumLen
 rw[List.map_append,List.sum_append];omega
theorem sumLen_ix {l:List (List (Int × Int))} {k:Nat} (h:k<l.length):(ix l k).length≤sumLen l:=by
 have:=sumLen_take l (k+1)
 rw[take_s h,sumLen_snoc] at this
 omega
def sysOK (m:SSys):Bool:=actionsOK m.aC&&decide (1≤m.sT.length)&&decide (m.sT.length≤5000)&&m.sT.all (edgesOK m.aC.length m.sT.length)&&decide (sumLen m.sT≤400000)
theorem sysOK_ok {m:SSys} (h:sysOK m=true):okSys m:=by
 unfold sysOK at h
 simp only [Bool.and_eq_true,decide_eq_true_eq] at h
 obtain⟨⟨⟨⟨h1,h2⟩,h3⟩,h4⟩,h5⟩:=h
 refine⟨h1,actionsOK_len h1,h2,O,fun x hx e he=> ?_,fun x hx=> ?_⟩
 ·have g:=all_ix h4 hx
  unfold edgesOK at g
  rw[Bool.and_eq_true] at g
  exact edgeOK_iff.1 (List.all_eq_true.1 g.1 e he)
 ·exact Nat.le_trans (sumLen_ix hx) h5
theorem edges_of {A N:Nat} {l:List (Int × Int)} (h1:∀j,j<l.length→edgeOK A N (ix l j)=true) (h2:∀j,j+1<l.length→ltP (ix l j) (ix l (j+1))=true):edgesOK A N l=true:=by
 unfold edgesOK
 rw[Bool.and_eq_true]
 refine⟨List.all_eq_true.2 (fun e he=> ?_),List.all_eq_true.2 (fun j hj=>h2 j (by have:=List.mem_range.1 hj;omega))⟩
 obtain⟨j,hj,rfl⟩:=List.getElem_of_mem he
 rw[←ix_get hj];exact h1 j hj
theorem edges_no1 {A N:Nat} {l:List (Int × Int)} {j:Nat} (hj:j<l.length) (h:edgeOK A N (ix l j)=false):edgesOK A N l=false:=by
 cases g:edgesOK A N l with
 |false=>rfl
 |true=>
  unfold edgesOK at g
  rw[Bool.and_eq_true] at g
  rw[all_ix g.1 hj] at h;cases h
theorem edges_no2 {A N:Nat} {l:List (Int × Int)} {j:Nat} (hj:j<l.length) (h0:0<j) (h:ltP (ix l (j- 1)) (ix l j)=false):edgesOK A N l=false:=by
 cases g:edgesOK A N l with
 |false=>rfl
 |true=>
  unfold edgesOK at g
  rw[Bool.and_eq_true] at g
  have:=List.all_eq_true.1 g.2 (j- 1) (List.mem_range.2 O)
  rw[show j- 1+1=j by omega,h] at this;cases this
theorem sys_lens {m:SSys} (h:Inh (sys m)):m.aC.length≤140737488355328∧m.sT.length≤140737488355328∧∀k,k<m.sT.length→(ix m.sT k).length≤140737488355328:=
 ⟨(h.agg 0 rfl).len,(h.agg 1 rfl).len,fun _ hk=>((h.agg 1 rfl).el (gK hk) 0 rfl).len⟩
namespace T
theorem fld105_0:FieldAt Tryz.prog 105 0 0:=fieldAt_of kR
theorem fld105_1:FieldAt Tryz.prog 105 1 1:=fieldAt_of kR
theorem sl103:IsSlice Tryz.prog 103 105 2:=isSlice_of kR
theorem agg105:IsAgg Tryz.prog 105 2:=isAgg_of kR
theorem z105:ZeroIs Tryz.prog 105 [.int .i64 0,.int .i64 0]:=zeroIs_of kR
theorem sl41:IsSlice Tryz.prog 41 103 1:=isSlice_of kR
theorem fld43_0:FieldAt Tryz.prog 43 0 0:=fieldAt_of kR
theorem ent98:Ent Tryz.prog 98:=ent_of kR
end T
namespace sysw
theorem order_ok (d e:Int × Int) (hd:bdP d) (he:bdP e):
 Fn0 Tryz.prog 98 [agg [int d.1,int d.2],agg [int e.1,int e.2]] (int (ordI d e)):=by
 refine fnI Tryz.func98 rfl rfl (fun w0 F0=> ?_)
 unfold bdP at hd he
 refine sq (rg (bx (key:=2) (cs:= [int d.1,int d.2]) J fun b2=>(bx (key:=3) (cs:= [int e.1,int e.2]) J fun b3=>(ag (nl (th (sq (sq (rg (fP J T.fld105_0 (lP J J J T.one3 (fP J T.fld105_0 (lP J J J T.one3 (bi J J b_neq (nl (th ?_))))))))))))))))
 refine cd J (fun hc0=> ?_) (fun hc0=> ?_)
 ·try simp at hc0
  refine sq (rg (fP J T.fld105_0 (lP J J J T.one3 (fP J T.fld105_0 (lP J J J T.one3 (bi J J (b_sub i6) (ag (nl (th (rt (rt_ ?_)))))))))))
  have hr0:((d.1- e.1):Int)=(ordI d e):=by
   unfold ordI;rw[if_neg hc0]
  exact rE () [.tmp 4] J [int (d.1- e.1)] ⟨.tmp J,tV⟩ (cA1 (fun x0=>rV [int x0]) hr0) trivial eX
 ·try simp at hc0
  refine sk (th (sq (rg (fP J T.fld105_1 (lP J J J T.one3 (fP J T.fld105_1 (lP J J J T.one3 (bi J J (b_sub i6) (ag (nl (th (rt ?_))))))))))))
  have hr0:((d.2- e.2):Int)=(ordI d e):=by
   unfold ordI;rw[if_pos hc0]
  exact rE () [.tmp 4] J [int (d.2- e.2)] ⟨.tmp J,tV⟩ (cA1 (fun x0=>rV [int x0]) hr0) trivial eX
theorem Offers_ok (l:List (Int × Int)) (hl:∀e∈l,0≤e.1∧e.1<8):
 Fn0 Tryz.prog 85 [sl 2 pE l] (int (offE l)):=by
 refine fnI Tryz.func85 rfl rfl (fun w0 F0=> ?_)
 refine fcC (slenI 0 J) (fun hm0=> ?_)
 refine sq (rg (ag (nl (th (sq (rg (ag (nl (th (sq (sq (rg (mv (lnF J T.sl103 (mv (nl (th (bk ?_))))))))))))))))))
 have hI0_0:0≤l.length:=by
  first|omega|simp
 have hI0_1:(0:Int)=offE (l.take 0)∧0≤(0:Int)∧(0:Int)<256:=by
  exact⟨rfl,O,O⟩
 refine lp (κ:=Nat × Int) (fun p=> [(2,int 0),(3,int p.2),(6,sl 2 pE l),(7,int (l.length:Int)),(8,int (p.1:Int))]) (fun p=> []) (fun p=>(p.1≤l.length)∧(p.2=offE (l.take p.1)∧0≤p.2∧p.2<256)) (fun p=>l.length- p.1) ⟨0,(0:Int)⟩ ⟨hI0_0,hI0_1⟩ ⟨id,id,id,id,id,tV⟩ trivial ?_
 intro⟨k,u⟩ hG0
 obtain⟨hk0,⟨hu,hu0,hu1⟩⟩:(k≤l.length)∧(u=offE (l.take k)∧0≤u∧u<256):=hG0
 show Ct _ _ _ _ [(2,int 0),(3,int u),(6,sl 2 pE l),(7,int (l.length:Int)),(8,int (k:Int))] [] _
 refine sq (rg (bi J J b_lss (nl (th (sq ?_)))))
 refine cd J (fun hc0=> ?_) (fun hc0=> ?_)
 ·try simp at hc0
  have hek:=hl _ (ix_memS hc0)
  have hp:2^ ((ix l k).1).toNat≤2^7:=Nat.pow_le_pow_right O O
  have hp0:0≤((2^ ((ix l k).1).toNat:Nat):Int):=Int.natCast_nonneg _
  refine sk (th (sq (bk (sq (rg (iF J J T.sl103 O gB (lFA J T.agg105 (Nat.le_of_ble_eq_true J) (al (key:=5) T.z105 (eC (eC eZ)) fun b5=>(sPA (cs':= [int ((ix l k).1),int ((ix l k).2)]) J J J T.agg105 J J (nl (th (rg (mv (fP J T.fld105_0 (lP J J J T.one3 (bi J J (b_shlI O O) (bi J J (b_orI O O O O) (ag (nl (eb (th (rg (bi J J (b_add i6) (mv (nl ?_)))))))))))))))))))))))))
  have hN0:(k+1)≤l.length:=by
   first|omega|simp_all
  have hN1:((u.toNat|||(2^ ((ix l k).1).toNat):Nat):Int)=offE (l.take (k+1))∧0≤((u.toNat|||(2^ ((ix l k).1).toNat):Nat):Int)∧((u.toNat|||(2^ ((ix l k).1).toNat):Nat):Int)<256:=by
   refine⟨?_,O,or_lt256 (b:=((2^ ((ix l k).1).toNat:Nat):Int)) hu1 O⟩
   rw[take_s hc0]
   unfold offE
   rw[List.map_append,List.map_cons,List.map_nil,orAll_snoc,hu];rfl
  exact ln (⟨k+1,((u.toNat|||(2^ ((ix l k).1).toNat):Nat):Int)⟩:Nat × Int) ⟨hN0,hN1⟩ dO ⟨id,id,id,id,id,tV⟩ trivial
 ·try simp at hc0
  refine ex (xt_ (xt_ (xb (th (sq (rg (mv (ag (nl (th (rt ?_)))))))))))
  have hr0:(u:Int)=(offE l):=by
   rw[hu,show k=l.length by omega,List.take_length]
  exact rE () [.tmp 2] J [int u] ⟨.tmp J,tV⟩ (cA1 (fun x0=>rV [int x0]) hr0) trivial eX
theorem Valid_ok (m:SSys):
 Fn0 Tryz.prog 138 [sys m] (bl (sysOK m)):=by
 refine fnI Tryz.func138 rfl rfl (fun w0 F0=> ?_)
 refine fcC (inhS 0 J) (fun hS0=> ?_)
 obtain⟨hma0,hms0,hme0⟩:=sys_lens hS0
 refine sq (rg (bx (key:=1) (cs:= [sl 1 rE_ m.aC,sl 1 gE m.sT]) J fun b1=>(ag (nl (th (sq (rg (fP J T.fld43_1 (lP J J J T.one41 (fc (slenI 10 J) fun hm10=>(lnF J T.sl41 (ag (nl (th (sq (sq (rg (fP J T.fld43_0 (lP J J J T.one22 (cal0 (φs:= [sl 1 rE_ m.aC]) (φ:=bl (actionsOK m.aC)) ⟨J,tV⟩ (prog.aValid_ok _) T.ent134 (no J (mv ?_))))))))))))))))))))))
 apply gOr (t:=16) (pd:=19) rfl
 rotate_left
 ·intro hg0 fin
  have hg0':=hg0
  try simp at hg0'
  exact gy J J J hg0 (mv (gy J J J hg0 (bi J J b_lss (pkF J hg0 J (drp (X:= [(18,_),(17,_)]) ⟨J,J,tV⟩ fin)))))
 ·intro hg0 fin
  exact gn J J J hg0 J J (gn J J J hg0 J J (pkT J hg0 J (drp (X:= [(18,_),(17,_)]) ⟨J,J,tV⟩ fin)))
 refine mv ?_
 apply gOr (t:=20) (pd:=23) rfl
 rotate_left
 ·intro hg1 fin
  have hg1':=hg1
  try simp at hg1'
  exact gy J J J hg1 (mv (gy J J J hg1 (bi J J b_gtr (pkF J hg1 J (drp (X:= [(22,_),(21,_)]) ⟨J,J,tV⟩ fin)))))
 ·intro hg1 fin
  exact gn J J J hg1 J J (gn J J J hg1 J J (pkT J hg1 J (drp (X:= [(22,_),(21,_)]) ⟨J,J,tV⟩ fin)))
 refine nl (th ?_)
 refine cd J (fun hc0=> ?_) (fun hc0=> ?_)
 ·try simp at hc0
  refine sq (rg (ag (nl (th (rt (rt_ ?_))))))
  have hr0:false=(sysOK m):=by
   unfold sysOK
   by_cases h:actionsOK m.aC=true
   ·simp[h] at hc0 ⊢
    omega
   ·simp[h]
  exact rE () [.tmp 2] J [bl false] ⟨.tmp J,tV⟩ (cA1 (fun x0=>rV [bl x0]) hr0) trivial eX
 ·try simp at hc0
  have hact:=actionsOK_len (l:=m.aC) (by simp_all)
  refine sk (th (sq (rg (ag (nl (th (sq (sq (rg (fP J T.fld43_1 (lP J J J T.one41 (lnF J T.sl41 (mv (nl (th (bk ?_))))))))))))))))
  have hI0_0:0≤m.sT.length:=by
   first|omega|simp
  have hI0_1:(0:Int)=(sumLen (m.sT.take 0):Int)∧(m.sT.take 0).all (edgesOK m.aC.length m.sT.length)=true∧(0:Int)≤400000:=by
   exact⟨rfl,by simp,O⟩
  refine lp (κ:=Nat × Int) (fun p=> [(1,ptr 1 b1 0),(3,int (m.sT.length:Int)),(4,int p.2),(25,sl 1 gE m.sT),(26,int (m.sT.length:Int)),(27,int (p.1:Int))]) (fun p=> [(1,cell b1 [sl 1 rE_ m.aC,sl 1 gE m.sT])]) (fun p=>(p.1≤m.sT.length)∧(p.2=(sumLen (m.sT.take p.1):Int)∧(m.sT.take p.1).all (edgesOK m.aC.length m.sT.length)=true∧p.2≤400000)) (fun p=>m.sT.length- p.1) ⟨0,(0:Int)⟩ ⟨hI0_0,hI0_1⟩ ⟨id,id,id,id,id,id,tV⟩ ⟨rI,tV⟩ ?_
  intro⟨k,n⟩ hG0
  obtain⟨hk0,⟨hn,hal,hn4⟩⟩:(k≤m.sT.length)∧(n=(sumLen (m.sT.take k):Int)∧(m.sT.take k).all (edgesOK m.aC.length m.sT.length)=true∧n≤400000):=hG0
  show Ct _ _ _ _ [(1,ptr 1 b1 0),(3,int (m.sT.length:Int)),(4,int n),(25,sl 1 gE m.sT),(26,int (m.sT.length:Int)),(27,int (k:Int))] [(1,cell b1 [sl 1 rE_ m.aC,sl 1 gE m.sT])] _
  have hmk:=hme0 k
  refine sq (rg (bi J J b_lss (nl (th (sq ?_)))))
  refine cd J (fun hc1=> ?_) (fun hc1=> ?_)
  ·try simp at hc1
   refine sk (th (sq (bk (sq (rg (iF J J T.sl41 O gB (lF J J T.one103 (ag (nl (th (sq (rg (mv (mv (fc (slenI 32 J) fun hm32=>(lnF J T.sl103 (bi J J (b_add i6) (ag (nl (th (sq (sq (rg (mv (bi J J b_gtr (nl (th ?_)))))))))))))))))))))))))))
   refine cd J (fun hc2=> ?_) (fun hc2=> ?_)
   ·try simp at hc2
    refine sq (rg (ag (nl (th (rt (rt_ (rb (rt_ (rt_ (rb (rt_ ?_)))))))))))
    have hr0:false=(sysOK m):=by
     unfold sysOK
     rw[decide_eq_false (p:=sumLen m.sT≤400000) (by have:=sumLen_take m.sT (k+1);rw[take_s O,sumLen_snoc] at this;omega)]
     simp
    exact rE () [.tmp 2] J [bl false] ⟨.tmp J,tV⟩ (cA1 (fun x0=>rV [bl x0]) hr0) trivial eX
   ·try simp at hc2
    refine sk (th (sq (rg (mv (lnF J T.sl103 (mv (nl (th (bk ?_)))))))))
    have hI1_0:0≤(ix m.sT k).length:=by
     first|omega|simp
    have hI1_1:(∀j,j<0→edgeOK m.aC.length m.sT.length (ix (ix m.sT k) j)=true)∧∀j,j+1<0→ltP (ix (ix m.sT k) j) (ix (ix m.sT k) (j+1))=true:=by
     exact⟨fun j hj=>by omega,fun j hj=>by omega⟩
    refine lp (κ:=Nat) (fun p=> [(1,ptr 1 b1 0),(3,int (m.sT.length:Int)),(4,int (n+((ix m.sT k).length:Int))),(6,sl 2 pE (ix m.sT k)),(25,sl 1 gE m.sT),(26,int (m.sT.length:Int)),(27,int (k:Int)),(37,sl 2 pE (ix m.sT k)),(38,int ((ix m.sT k).length:Int)),(39,int (p:Int))]) (fun p=> [(1,cell b1 [sl 1 rE_ m.aC,sl 1 gE m.sT])]) (fun p=>(p≤(ix m.sT k).length)∧((∀j,j<p→edgeOK m.aC.length m.sT.length (ix (ix m.sT k) j)=true)∧∀j,j+1<p→ltP (ix (ix m.sT k) j) (ix (ix m.sT k) (j+1))=true)) (fun p=>(ix m.sT k).length- p) 0 ⟨hI1_0,hI1_1⟩ ⟨id,id,id,id,id,id,id,id,id,id,tV⟩ ⟨rI,tV⟩ ?_
    intro k1 hG1
    obtain⟨hk1,hI1⟩:(k1≤(ix m.sT k).length)∧((∀j,j<k1→edgeOK m.aC.length m.sT.length (ix (ix m.sT k) j)=true)∧∀j,j+1<k1→ltP (ix (ix m.sT k) j) (ix (ix m.sT k) (j+1))=true):=hG1
    refine sq (rg (bi J J b_lss (nl (th (sq ?_)))))
    refine cd J (fun hc3=> ?_) (fun hc3=> ?_)
    ·try simp at hc3
     refine sk (th (sq (bk (sq (rg (mv (iF J J T.sl103 O gB (lFA J T.agg105 (Nat.le_of_ble_eq_true J) (al (key:=8) T.z105 (eC (eC eZ)) fun b8=>(ag (sPA (cs':= [int ((ix (ix m.sT k) k1).1),int ((ix (ix m.sT k) k1).2)]) J J J T.agg105 J J (nl (th (sq (dr (nh:=36) [0,1,3,7,15,31,15,79,207,511,1023,2047,4095,8191,16383,32767,65535,131071,262143,131071,1048575,2097151,4194303,8388607,16777215,33554431,67108863,67108863,201326591,536870911,1073741823,67108863,4294967295,8589934591,17179869183,34359738367] T.mixed kR ?_)))))))))))))))
     refine st_ J (fun _ _ _ gq kq=>fP (gq.1.trans J) T.fld105_0 kq) ?_
     refine st_ J (fun _ _ _ gq kq=>lP (gq.1.trans J) J J T.one3 kq) ?_
     refine st_ J (fun _ _ _ gq kq=>bi (gq.1.trans J) J b_lss kq) ?_
     refine st_ J (fun _ _ _ gq kq=>mv' (gq.1.trans J) kq) ?_
     refine sg_ (φ:=ptr 8 b8 0) J J J J (List.mem_of_elem_eq_true J) (fun hgd=> ?_) ?_
     ·have hgd':=hgd
      try simp at hgd'
      exact fun _ _ _ gq kq=>fP (gq.1.trans J) T.fld105_0 kq
     refine sg_ (φ:=int ((ix (ix m.sT k) k1).1)) J J J J (List.mem_of_elem_eq_true J) (fun hgd=> ?_) ?_
     ·have hgd':=hgd
      try simp at hgd'
      exact fun _ _ _ gq kq=>lP (gq.1.trans (gif_t hgd)) J J T.one3 kq
     refine sg_ (φ:=ptr 1 b1 0) J J J J (List.mem_of_elem_eq_true J) (fun hgd=> ?_) ?_
     ·have hgd':=hgd
      try simp at hgd'
      exact fun _ _ _ gq kq=>fP (gq.1.trans J) T.fld43_0 kq
     refine sg_ (φ:=sl 1 rE_ m.aC) J J J J (List.mem_of_elem_eq_true J) (fun hgd=> ?_) ?_
     ·have hgd':=hgd
      try simp at hgd'
      exact fun _ _ _ gq kq=>lP (gq.1.trans (gif_t hgd)) J J T.one22 kq
     refine sg_ (φ:=int (m.aC.length:Int)) J J J J (List.mem_of_elem_eq_true J) (fun hgd=> ?_) ?_
     ·have hgd':=hgd
      try simp at hgd'
      exact fun _ _ _ gq kq=>lnF (gq.1.trans (gif_t hgd)) T.sl22 kq
     refine sg_ (φ:=bl (decide ((m.aC.length:Int)≤((ix (ix m.sT k) k1).1)))) J J J J (List.mem_of_elem_eq_true J) (fun hgd=> ?_) ?_
     ·have hgd':=hgd
      try simp at hgd'
      exact fun _ _ _ gq kq=>bi (gq.1.trans (gif_t hgd)) (gq.2.1.trans (gif_t hgd)) b_geq kq
     refine st_ J (fun _ _ _ gq kq=>pk (gq.1.trans J) (pk_or (x:= .tmp 47) (gq.1.trans J) (gq.2.1.trans J) J) kq) ?_
     refine st_ J (fun _ _ _ gq kq=>mv' (gq.1.trans J) kq) ?_
     refine sg_ (φ:=ptr 8 b8 1) J J J J (List.mem_of_elem_eq_true J) (fun hgd=> ?_) ?_
     ·have hgd':=hgd
      try simp at hgd'
      exact fun _ _ _ gq kq=>fP (gq.1.trans J) T.fld105_1 kq
     refine sg_ (φ:=int ((ix (ix m.sT k) k1).2)) J J J J (List.mem_of_elem_eq_true J) (fun hgd=> ?_) ?_
     ·have hgd':=hgd
      try simp at hgd'
      exact fun _ _ _ gq kq=>lP (gq.1.trans (gif_t hgd)) J J T.one3 kq
     refine sg_ (φ:=bl (decide (((ix (ix m.sT k) k1).2)<0))) J J J J (List.mem_of_elem_eq_true J) (fun hgd=> ?_) ?_
     ·have hgd':=hgd
      try simp at hgd'
      exact fun _ _ _ gq kq=>bi (gq.1.trans (gif_t hgd)) J b_lss kq
     refine st_ J (fun _ _ _ gq kq=>pk (gq.1.trans J) (pk_or (x:= .tmp 55) (gq.1.trans J) (gq.2.1.trans J) J) kq) ?_
     refine st_ J (fun _ _ _ gq kq=>mv' (gq.1.trans J) kq) ?_
     refine sg_ (φ:=ptr 8 b8 1) J J J J (List.mem_of_elem_eq_true J) (fun hgd=> ?_) ?_
     ·have hgd':=hgd
      try simp at hgd'
      exact fun _ _ _ gq kq=>fP (gq.1.trans J) T.fld105_1 kq
     refine sg_ (φ:=int ((ix (ix m.sT k) k1).2)) J J J J (List.mem_of_elem_eq_true J) (fun hgd=> ?_) ?_
     ·have hgd':=hgd
      try simp at hgd'
      exact fun _ _ _ gq kq=>lP (gq.1.trans (gif_t hgd)) J J T.one3 kq
     refine sg_ (φ:=int (m.sT.length:Int)) J J J J (List.mem_of_elem_eq_true J) (fun hgd=> ?_) ?_
     ·have hgd':=hgd
      try simp at hgd'
      exact fun _ _ _ gq kq=>mv' (gq.1.trans J) kq
     refine sg_ (φ:=bl (decide ((m.sT.length:Int)≤((ix (ix m.sT k) k1).2)))) J J J J (List.mem_of_elem_eq_true J) (fun hgd=> ?_) ?_
     ·have hgd':=hgd
      try simp at hgd'
      exact fun _ _ _ gq kq=>bi (gq.1.trans (gif_t hgd)) (gq.2.1.trans (gif_t hgd)) b_geq kq
     refine st_ J (fun _ _ _ gq kq=>pk (gq.1.trans J) (pk_or (x:= .tmp 60) (gq.1.trans J) (gq.2.1.trans J) J) kq) ?_
     refine st_ J (fun _ _ _ gq kq=>mv' (gq.1.trans J) kq) ?_
     refine sg_ (φ:=int (k1:Int)) J J J J (List.mem_of_elem_eq_true J) (fun hgd=> ?_) ?_
     ·have hgd':=hgd
      try simp at hgd'
      exact fun _ _ _ gq kq=>mv' (gq.1.trans J) kq
     refine sg_ (φ:=bl (decide (0<(k1:Int)))) J J J J (List.mem_of_elem_eq_true J) (fun hgd=> ?_) ?_
     ·have hgd':=hgd
      try simp at hgd'
      exact fun _ _ _ gq kq=>bi (gq.1.trans (gif_t hgd)) J b_gtr kq
     refine sg_ (φ:=bl (decide (0<(k1:Int)))) J J J J (List.mem_of_elem_eq_true J) (fun hgd=> ?_) ?_
     ·have hgd':=hgd
      try simp at hgd'
      exact fun _ _ _ gq kq=>mv' (gq.1.trans (gif_t hgd)) kq
     refine sg2_ (φ:=sl 2 pE (ix m.sT k)) rfl rfl rfl rfl (List.mem_of_elem_eq_true rfl) (fun hgd hgd2=> ?_) ?_
     ·have hgd':=hgd
      try simp at hgd'
      have hgd2':=hgd2
      try simp at hgd2'
      exact fun _ _ _ gq kq=>mv' (gq.1.trans J) kq
     refine sg2_ (φ:=int (k1:Int)) rfl rfl rfl rfl (List.mem_of_elem_eq_true rfl) (fun hgd hgd2=> ?_) ?_
     ·have hgd':=hgd
      try simp at hgd'
      have hgd2':=hgd2
      try simp at hgd2'
      exact fun _ _ _ gq kq=>mv' (gq.1.trans J) kq
     refine sg2_ (φ:=int ((k1:Int)- 1)) rfl rfl rfl rfl (List.mem_of_elem_eq_true rfl) (fun hgd hgd2=> ?_) ?_
     ·have hgd':=hgd
      try simp at hgd'
      have hgd2':=hgd2
      try simp at hgd2'
      exact fun _ _ _ gq kq=>bi (gq.1.trans (gif_t2 hgd hgd2)) J (b_sub i6) kq
     refine sg2_ (φ:=fp [int ((ix (ix m.sT k) ((k1:Int)- 1).toNat).1),int ((ix (ix m.sT k) ((k1:Int)- 1).toNat).2)]) rfl rfl rfl rfl (List.mem_of_elem_eq_true rfl) (fun hgd hgd2=> ?_) ?_
     ·have hgd':=hgd
      try simp at hgd'
      have hgd2':=hgd2
      try simp at hgd2'
      exact fun _ _ _ gq kq=>iF (gq.1.trans (gif_t2 hgd hgd2)) (gq.2.1.trans (gif_t2 hgd hgd2)) T.sl103 O gB kq
     refine sg2_ (φ:=agg [int ((ix (ix m.sT k) ((k1:Int)- 1).toNat).1),int ((ix (ix m.sT k) ((k1:Int)- 1).toNat).2)]) rfl rfl rfl rfl (List.mem_of_elem_eq_true rfl) (fun hgd hgd2=> ?_) ?_
     ·have hgd':=hgd
      try simp at hgd'
      have hgd2':=hgd2
      try simp at hgd2'
      exact fun _ _ _ gq kq=>lFA (gq.1.trans (gif_t2 hgd hgd2)) T.agg105 (Nat.le_of_ble_eq_true J) kq
     refine sg2_ (φ:=agg [int ((ix (ix m.sT k) k1).1),int ((ix (ix m.sT k) k1).2)]) rfl rfl rfl rfl (List.mem_of_elem_eq_true rfl) (fun hgd hgd2=> ?_) ?_
     ·have hgd':=hgd
      try simp at hgd'
      have hgd2':=hgd2
      try simp at hgd2'
      exact fun _ _ _ gq kq=>lPA (gq.1.trans J) J T.agg105 J kq
     refine sg2_ (φ:=int (ordI ((ix (ix m.sT k) ((k1:Int)- 1).toNat).1,(ix (ix m.sT k) ((k1:Int)- 1).toNat).2) ((ix (ix m.sT k) k1).1,(ix (ix m.sT k) k1).2))) rfl rfl rfl rfl (List.mem_of_elem_eq_true rfl) (fun hgd hgd2=> ?_) ?_
     ·have hgd':=hgd
      try simp at hgd'
      have hgd2':=hgd2
      try simp at hgd2'
      have hp1:=edgeOK_iff.1 (hI1.1 ((k1:Int)- 1).toNat O)
      have hb1:bdP ((ix (ix m.sT k) ((k1:Int)- 1).toNat).1,(ix (ix m.sT k) ((k1:Int)- 1).toNat).2):=by unfold bdP;dsimp only;omega
      have hb2:bdP ((ix (ix m.sT k) k1).1,(ix (ix m.sT k) k1).2):=by unfold bdP;dsimp only;omega
      exact fun _ _ _ gq kq=>cal0 (φs:= [agg [int ((ix (ix m.sT k) ((k1:Int)- 1).toNat).1),int ((ix (ix m.sT k) ((k1:Int)- 1).toNat).2)],agg [int ((ix (ix m.sT k) k1).1),int ((ix (ix m.sT k) k1).2)]]) (φ:=int (ordI ((ix (ix m.sT k) ((k1:Int)- 1).toNat).1,(ix (ix m.sT k) ((k1:Int)- 1).toNat).2) ((ix (ix m.sT k) k1).1,(ix (ix m.sT k) k1).2))) ⟨(gq.1.trans (gif_t2 hgd hgd2)),(gq.2.1.trans (gif_t2 hgd hgd2)),tV⟩ (sysw.order_ok ((ix (ix m.sT k) ((k1:Int)- 1).toNat).1,(ix (ix m.sT k) ((k1:Int)- 1).toNat).2) ((ix (ix m.sT k) k1).1,(ix (ix m.sT k) k1).2) aS aS) T.ent98 kq
     refine sg2_ (φ:=bl (decide (0≤(ordI ((ix (ix m.sT k) ((k1:Int)- 1).toNat).1,(ix (ix m.sT k) ((k1:Int)- 1).toNat).2) ((ix (ix m.sT k) k1).1,(ix (ix m.sT k) k1).2))))) rfl rfl rfl rfl (List.mem_of_elem_eq_true rfl) (fun hgd hgd2=> ?_) ?_
     ·have hgd':=hgd
      try simp at hgd'
      have hgd2':=hgd2
      try simp at hgd2'
      exact fun _ _ _ gq kq=>bi (gq.1.trans (gif_t2 hgd hgd2)) J b_geq kq
     refine sg_ (φ:=bl ((decide (0<(k1:Int)))&&(decide (0≤(ordI ((ix (ix m.sT k) ((k1:Int)- 1).toNat).1,(ix (ix m.sT k) ((k1:Int)- 1).toNat).2) ((ix (ix m.sT k) k1).1,(ix (ix m.sT k) k1).2)))))) J J J J (List.mem_of_elem_eq_true J) (fun hgd=> ?_) ?_
     ·have hgd':=hgd
      try simp at hgd'
      exact fun _ _ _ gq kq=>pk (gq.1.trans (gif_t hgd)) (pk_and (x:= .tmp 69) (gq.1.trans (gif_t hgd)) (gq.2.1.trans (gif_and hgd)) J) kq
     refine st_ J (fun _ _ _ gq kq=>pk (gq.1.trans J) (pk_or (x:= .tmp 66) (gq.1.trans J) (gq.2.1.trans J) J) kq) ?_
     refine pn (nl (th ?_))
     refine cd J (fun hc4=> ?_) (fun hc4=> ?_)
     ·skip
      simp only [Bool.or_eq_true,Bool.and_eq_true,decide_eq_true_eq] at hc4
      refine sq (rg (ag (nl (th (rt (rb (rt_ (rt_ (rb (rb (rt_ (rt_ (rb (rt_ ?_))))))))))))))
      have hr0:false=(sysOK m):=by
       unfold sysOK
       rw[all_fail (xs:=m.sT) (k:=k) O ?_];simp
       have hno:∀{p:Prop},(edgeOK m.aC.length m.sT.length (ix (ix m.sT k) k1)=true→¬p)→p→edgesOK m.aC.length m.sT.length (ix m.sT k)=false:=fun hh hp=>edges_no1 hc3 (by cases g:edgeOK m.aC.length m.sT.length (ix (ix m.sT k) k1) with|false=>rfl|true=>exact absurd hp (hh g))
       rcases hc4 with(((h|h)|h)|h)|h
       ·exact hno (fun g=>by have:=edgeOK_iff.1 g;omega) h
       ·exact hno (fun g=>by have:=edgeOK_iff.1 g;omega) h
       ·exact hno (fun g=>by have:=edgeOK_iff.1 g;omega) h
       ·exact hno (fun g=>by have:=edgeOK_iff.1 g;omega) h
       ·have h5:=ordI_ge h.2
        rw[show((k1:Int)- 1).toNat=k1- 1 by omega] at h5
        refine edges_no2 hc3 O ?_
        cases g:ltP (ix (ix m.sT k) (k1- 1)) (ix (ix m.sT k) k1) with
        |false=>rfl
        |true=>exact absurd (ltP_iff.1 g) h5
      exact rE () [.tmp 2] J [bl false] ⟨.tmp J,tV⟩ (cA1 (fun x0=>rV [bl x0]) hr0) trivial eX
     ·skip
      simp only [Bool.or_eq_false_iff,Bool.and_eq_false_iff,decide_eq_false_iff_not] at hc4
      obtain⟨⟨⟨⟨h41,h42⟩,h43⟩,h44⟩,h45⟩:=hc4
      refine sk (eb (th (rg (bi J J (b_add i6) (mv (nl ?_))))))
      have hN0:(k1+1)≤(ix m.sT k).length:=by
       first|omega|simp_all
      have hN1:(∀j,j<(k1+1)→edgeOK m.aC.length m.sT.length (ix (ix m.sT k) j)=true)∧∀j,j+1<(k1+1)→ltP (ix (ix m.sT k) j) (ix (ix m.sT k) (j+1))=true:=by
       refine⟨fun j hj=> ?_,fun j hj=> ?_⟩
       ·by_cases e:j=k1
        ·subst e;exact edgeOK_iff.2 ⟨O,O,O,O⟩
        ·exact hI1.1 j O
       ·by_cases e:j+1=k1
        ·subst e
         rcases h45 with h|h
         ·exact absurd O h
         ·rw[show(((j+1:Nat):Int)- 1).toNat=j by omega] at h
          exact ltP_iff.2 (ordI_lt h)
        ·exact hI1.2 j O
      exact ln (k1+1) ⟨hN0,hN1⟩ dO ⟨id,id,id,id,id,id,id,id,id,id,tV⟩ ⟨rI,tV⟩
    ·try simp at hc3
     refine ex (xt_ (xt_ (xb (eb (th (rg (bi J J (b_add i6) (mv (nl ?_)))))))))
     have hN0:(k+1)≤m.sT.length:=by
      first|omega|simp_all
     have hN1:(n+((ix m.sT k).length:Int))=(sumLen (m.sT.take (k+1)):Int)∧(m.sT.take (k+1)).all (edgesOK m.aC.length m.sT.length)=true∧(n+((ix m.sT k).length:Int))≤400000:=by
      refine⟨?_,?_,O⟩
      ·rw[take_s O,sumLen_snoc];omega
      ·rw[all_take_succ O,hal,edges_of (fun j hj=>hI1.1 j O) (fun j hj=>hI1.2 j O)];rfl
     exact ln (⟨k+1,n+((ix m.sT k).length:Int)⟩:Nat × Int) ⟨hN0,hN1⟩ dO ⟨id,id,id,id,id,id,tV⟩ ⟨rI,tV⟩
  ·try simp at hc1
   refine ex (xt_ (xt_ (xb (th (sq (rg (ag (nl (th (rt ?_))))))))))
   have hr0:true=(sysOK m):=by
    have hkk:k=m.sT.length:=by omega
    rw[hkk,List.take_length] at hal hn
    unfold sysOK
    rw[hal,hc0.1.1]
    simp;omega
   exact rE () [.tmp 2] J [bl true] ⟨.tmp J,tV⟩ (cA1 (fun x0=>rV [bl x0]) hr0) trivial eX
end sysw
end
section
open ref01 ref03 ref04 ref06 prog prog2 prog3 prog6 Part Rungs LeftM TrimM RoundM BisM BisM5
def everyS (l:List ByteArray):SS:=⟨l,[⟨(List.range (2^l.length)).map fun(x:Nat)=>(x:Int),List.replicate l.length 0⟩]⟩
noncomputable def tstR (s:SS) (x:Int):SA:=⟨(ix (solid s).sT x.toNat).aP,(ix (solid s).sT x.toNat).next.map (mapK (atL s.sT.length (ordS s)))⟩
theorem tstR_eq {s:SS} (hs:oK s) {x:Int} (h0:0≤x) (hx:x<(s.sT.length:Int)):tstR s x=tstate s x:=by
 have hx':x.toNat<s.sT.length:=by omega
 have hl:=solid_next hs hx'
 unfold tstR tstate
 congr 1
 ·exact solid_acc hx'
 ·rw[map_ix_range,hl]
  refine List.map_congr_left fun a ha=> ?_
  have ha:=List.mem_range.1 ha
  have h1:=solid_ix hs hx' ha
  have h2:=(hs.st _ hx').nx a ha
  dsimp only [nxt] at h1 h2 ⊢
  rw[h1]
  by_cases h:has (orAll (keep s x.toNat)) (a:Int)=true
  ·have hg:=can_go hs hx' h
   rw[if_pos h,if_pos h]
   unfold mapK
   rw[if_pos hg.2.1,atL_ix O,Int.toNat_of_nonneg hg.2.1]
  ·rw[if_neg h,if_neg h];rfl
noncomputable def isTrimS (s:SS):Bool:=decide (s=(tR s).1)
namespace T
theorem ent50:Ent Tryz.prog 50:=ent_of kR
theorem ent109:Ent Tryz.prog 109:=ent_of kR
theorem ent110:Ent Tryz.prog 110:=ent_of kR
theorem ent37:Ent Tryz.prog 37:=ent_of kR
theorem ent55:Ent Tryz.prog 55:=ent_of kR
end T
namespace divr
theorem In_ok (l:List Int) (x:Int):
 Fn0 Tryz.prog 157 [ints l,int x] (bl (decide (x∈l))):=by
 refine fnI Tryz.func157 rfl rfl (fun w0 F0=> ?_)
 refine fcC (slenI 0 J) (fun hm0=> ?_)
 refine sq (rg (ag (nl (th (sq (sq (rg (mv (lnF J T.sl36 (mv (nl (th (bk ?_)))))))))))))
 have hI0_0:0≤l.length:=by
  first|omega|simp
 have hI0_1:∀j,j<0→x≠ix l j:=by
  intro j hj;omega
 refine lp (κ:=Nat) (fun p=> [(1,int x),(7,sl 1 nE l),(8,int (l.length:Int)),(9,int (p:Int))]) (fun p=> []) (fun p=>(p≤l.length)∧(∀j,j<p→x≠ix l j)) (fun p=>l.length- p) 0 ⟨hI0_0,hI0_1⟩ ⟨id,id,id,id,tV⟩ trivial ?_
 intro k hG0
 obtain⟨hk0,hI0⟩:(k≤l.length)∧(∀j,j<k→x≠ix l j):=hG0
 refine sq (rg (bi J J b_lss (nl (th (sq ?_)))))
 refine cd J (fun hc0=> ?_) (fun hc0=> ?_)
 ·try simp at hc0
  refine sk (th (sq (bk (sq (rg (iF J J T.sl36 O gB (lF J J T.one3 (ag (nl (th (sq (rg (mv (mv (bi J J b_eql (nl (th ?_)))))))))))))))))
  refine cd J (fun hc1=> ?_) (fun hc1=> ?_)
  ·try simp at hc1
   refine sq (rg (ag (nl (th (rt (rb (rt_ (rt_ (rb (rt_ ?_))))))))))
   have hr0:true=(decide (x∈l)):=by
    exact(decide_eq_true (by rw[hc1];exact ix_mem O)).symm
   exact rE () [.tmp 4] J [bl true] ⟨.tmp J,tV⟩ (cA1 (fun x0=>rV [bl x0]) hr0) trivial eX
  ·try simp at hc1
   refine sk (eb (th (rg (bi J J (b_add i6) (mv (nl ?_))))))
   have hN0:(k+1)≤l.length:=by
    first|omega|simp_all
   have hN1:∀j,j<(k+1)→x≠ix l j:=by
    intro j hj
    by_cases e:j=k
    ·subst e;exact hc1
    ·exact hI0 j O
   exact ln (k+1) ⟨hN0,hN1⟩ dO ⟨id,id,id,id,tV⟩ trivial
 ·try simp at hc0
  refine ex (xt_ (xt_ (xb (th (sq (rg (ag (nl (th (rt ?_))))))))))
  have hr0:false=(decide (x∈l)):=by
   refine(decide_eq_false (fun hx=> ?_)).symm
   obtain⟨j,hj,e⟩:=List.getElem_of_mem hx
   exact hI0 j O (by rw[ix_get hj];exact e.symm)
  exact rE () [.tmp 4] J [bl false] ⟨.tmp J,tV⟩ (cA1 (fun x0=>rV [bl x0]) hr0) trivial eX
theorem Trim_ok (s:SS) (hs:oK s):
 Fn0 Tryz.prog 55 [spec s] (tup [spec (tR s).1,ints (tR s).2]):=by
 refine fnI Tryz.func55 rfl rfl (fun w0 F0=> ?_)
 have hf0:=hs.few0;have hf1:=hs.few1;have hn8:=hs.n8;have hhl:=hollow_len s;have hsl:=solid_len s;have hoq:=order_okQ hs;have hol:=hoq.le;have hnd:(order (solid s)).Nodup:=order_nodup _
 refine fcC (inhS 0 J) (fun hS0=> ?_)
 obtain⟨hsa0,hss0,hse0⟩:=sLn hS0
 refine sq (rg (bx (key:=1) (cs:= [sl 1 rE_ s.aC,sl 2 sE s.sT]) J fun b1=>(al (key:=2) T.z25 (eC (eC eZ)) fun b2=>(ag (nl (th (sq (sq (rg (lPA J J T.agg25 J (cal0 (φs:= [agg [sl 1 rE_ s.aC,sl 2 sE s.sT]]) (φ:=sl 1 blE (hOl s)) ⟨J,tV⟩ (ref04.Hollow_ok s aS) T.ent108 (iF J J T.sl143 O (gK (k:=0) O) (lF J J T.one4 (nl (th ?_)))))))))))))))
 refine cd J (fun hc0=> ?_) (fun hc0=> ?_)
 ·try simp at hc0
  refine sq (rg (fP J T.fld25_0 (lP J J J T.one22 (cal0 (φs:= [sl 1 rE_ s.aC]) (φ:=agg [sl 1 rE_ (nothing s.aC).aC,sl 2 sE (nothing s.aC).sT]) ⟨J,tV⟩ (ref03.Nothing_ok s.aC O) T.ent50 (sPA (cs':= [sl 1 rE_ (nothing s.aC).aC,sl 2 sE (nothing s.aC).sT]) J J J T.agg25 J J (ag (nl (th (rt (rt_ ?_))))))))))
  have hL:=trimmed_hol hc0
  refine knA 3 (sl 1 nE []) rfl slnil ?_
  have hr0:(nothing s.aC).aC=((tR s).1).aC:=by
   rw[hL]
  have hr1:(nothing s.aC).sT=((tR s).1).sT:=by
   rw[hL]
  have hr2: []=((tR s).2):=by
   rw[hL]
  exact rE () [.cell 2 25,.tmp 3] J [agg [sl 1 rE_ (nothing s.aC).aC,sl 2 sE (nothing s.aC).sT],sl 1 nE []] ⟨.agg J J T.agg25 J J,.tmp J,tV⟩ (cA3 (fun x0 x1 x2=>rV [agg [sl 1 rE_ x0,sl 2 sE x1],sl 1 nE x2]) hr0 hr1 hr2) trivial eX
 ·try simp at hc0
  refine sk (th (sq (rg (lPA J J T.agg25 J (cal0 (φs:= [agg [sl 1 rE_ s.aC,sl 2 sE s.sT]]) (φ:=agg [sl 1 rE_ (solid s).aC,sl 2 sE (solid s).sT]) ⟨J,tV⟩ (ref04.Solid_ok s aS) T.ent109 (al (key:=4) T.z25 (eC (eC eZ)) fun b4=>(sPA (cs':= [sl 1 rE_ (solid s).aC,sl 2 sE (solid s).sT]) J J J T.agg25 J J (nl (th (sq (rg (lPA J J T.agg25 J (cal0 (φs:= [agg [sl 1 rE_ (solid s).aC,sl 2 sE (solid s).sT]]) (φ:=sl 1 nE (order (solid s))) ⟨J,tV⟩ (ref04.Order_ok (solid s) (by rw[hsl];omega) (by rw[hsl];omega) (fun k hk=>by rw[hsl] at hk;exact⟨by rw[solid_next hs hk];omega,fun a ha=>by rw[hsl];exact solid_bd hs hk ha⟩)) T.ent110 (ag (nl (th (sq (rg (fP J T.fld25_1 (lP J J J T.one23 (fc (slenI 27 J) fun hm27=>(lnF J T.sl23 (mk (key:=29) (m:=s.sT.length) (enc:=nE) (y:=(0:Int)) J J T.mk36 (eC eZ) mL mL fun v29=>(ag (nl (th (sq (sq (rg (mv (fc (slenI 30 J) fun hm30=>(lnF J T.sl36 (mv (nl (th (bk ?_))))))))))))))))))))))))))))))))))))
  have hI0_0:0≤(order (solid s)).length:=by
   first|omega|simp
  have hI0_1:(List.replicate s.sT.length (0:Int))=atL s.sT.length ((order (solid s)).take 0):=by
   exact atL_zero _
  refine lp (κ:=Nat × (List Int)) (fun p=> [(1,ptr 1 b1 0),(2,ptr 2 b2 0),(3,eqv (.slice none 0 0)),(4,ptr 4 b4 0),(5,sl 1 nE (order (solid s))),(6,osl 29 v29),(30,sl 1 nE (order (solid s))),(31,int ((order (solid s)).length:Int)),(32,int (p.1:Int))]) (fun p=> [(1,cell b1 [sl 1 rE_ s.aC,sl 2 sE s.sT]),(2,cell b2 [eqv (.slice none 0 0),eqv (.slice none 0 0)]),(4,cell b4 [sl 1 rE_ (solid s).aC,sl 2 sE (solid s).sT]),(29,own v29 3 1 nE p.2)]) (fun p=>(p.1≤(order (solid s)).length)∧(p.2=atL s.sT.length ((order (solid s)).take p.1))) (fun p=>(order (solid s)).length- p.1) ⟨0,List.replicate s.sT.length (0:Int)⟩ ⟨hI0_0,hI0_1⟩ ⟨id,id,id,id,id,id,id,id,id,tV⟩ ⟨rI,rI,rI,rI,tV⟩ ?_
  intro⟨k,pl⟩ hG0
  obtain⟨hk0,hI0⟩:(k≤(order (solid s)).length)∧(pl=atL s.sT.length ((order (solid s)).take k)):=hG0
  show Ct _ _ _ _ [(1,ptr 1 b1 0),(2,ptr 2 b2 0),(3,eqv (.slice none 0 0)),(4,ptr 4 b4 0),(5,sl 1 nE (order (solid s))),(6,osl 29 v29),(30,sl 1 nE (order (solid s))),(31,int ((order (solid s)).length:Int)),(32,int (k:Int))] [(1,cell b1 [sl 1 rE_ s.aC,sl 2 sE s.sT]),(2,cell b2 [eqv (.slice none 0 0),eqv (.slice none 0 0)]),(4,cell b4 [sl 1 rE_ (solid s).aC,sl 2 sE (solid s).sT]),(29,own v29 3 1 nE pl)] _
  have hpl:pl.length=s.sT.length:=by rw[hI0];exact atL_len _ _
  refine sq (rg (bi J J b_lss (nl (th (sq ?_)))))
  refine cd J (fun hc1=> ?_) (fun hc1=> ?_)
  ·try simp at hc1
   have hox:=hoq.1 k O
   refine sk (th (sq (bk (sq (rg (mv (iF J J T.sl36 O gB (lF J J T.one3 (ag (ag (nl (th (rg (mv (mv (mv (iO J J J T.sl36 O O (sO (φ:=int (k:Int)) J J J T.one3 gB J (y':=(k:Int)) J (nl (eb (th (rg (bi J J (b_add i6) (mv (nl ?_)))))))))))))))))))))))))
   have hN0:(k+1)≤(order (solid s)).length:=by
    first|omega|simp_all
   have hN1:(pl.set (ix (order (solid s)) k).toNat (k:Int))=atL s.sT.length ((order (solid s)).take (k+1)):=by
    have hat:=atL_snoc (n:=s.sT.length) (fresh hnd (m:=k) O) hox.1 hox.2
    rw[List.length_take,Nat.min_eq_left O] at hat
    rw[hI0,take_s O]
    exact hat
   exact ln (⟨k+1,pl.set (ix (order (solid s)) k).toNat (k:Int)⟩:Nat × (List Int)) ⟨hN0,hN1⟩ dO ⟨id,id,id,id,id,id,id,id,id,tV⟩ ⟨rI,rI,rI,rI,tV⟩
  ·try simp at hc1
   refine ex (xt_ (xt_ (xb (th (sq (rg (fP J T.fld25_0 (lP J J J T.one22 (appendF (enc:=rE_) (ys:=s.aC) J J T.mk22 mL (bd (css:= [(0,_)]) T.st25 (eC (eC eZ)) ⟨J,J,p1 (φ:=sl 1 rE_ s.aC) J,tV⟩ (al (key:=9) T.z25 (eC (eC eZ)) fun b9=>(sPA (cs':= [sl 1 rE_ s.aC,eqv (.slice none 0 0)]) J J J T.agg25 J J (nl (th (sq (sq (rg (mv (lnF J T.sl36 (mv (nl (th (bk ?_)))))))))))))))))))))))
   refine nwC 90 81 2 sE (kncC 9 1 (osl 90 (.slice none 0 0)) rfl rfl eq_osl ?_)
   have hI1_0:0≤(order (solid s)).length:=by
    first|omega|simp
   have hI1_1:([]:List SA)=((order (solid s)).take 0).map (tstR s):=by
    simp
   refine lp (κ:=Nat × Value × (List SA)) (fun p=> [(2,ptr 2 b2 0),(3,eqv (.slice none 0 0)),(4,ptr 4 b4 0),(5,sl 1 nE (order (solid s))),(6,osl 29 v29),(9,ptr 9 b9 0),(46,sl 1 nE (order (solid s))),(47,int ((order (solid s)).length:Int)),(48,int (p.1:Int))]) (fun p=> [(1,cell b1 [sl 1 rE_ s.aC,sl 2 sE s.sT]),(2,cell b2 [eqv (.slice none 0 0),eqv (.slice none 0 0)]),(4,cell b4 [sl 1 rE_ (solid s).aC,sl 2 sE (solid s).sT]),(9,cell b9 [sl 1 rE_ s.aC,osl 90 p.2.1]),(29,own v29 3 1 nE pl),(90,own p.2.1 81 2 sE p.2.2)]) (fun p=>(p.1≤(order (solid s)).length)∧(p.2.2=((order (solid s)).take p.1).map (tstR s))) (fun p=>(order (solid s)).length- p.1) ⟨0,(.slice none 0 0),([]:List SA)⟩ ⟨hI1_0,hI1_1⟩ ⟨id,id,id,id,id,id,id,id,id,tV⟩ ⟨rI,rI,rI,rI,rI,rI,tV⟩ ?_
   intro⟨k1,v2x,acc⟩ hG1
   obtain⟨hk1,hI1⟩:(k1≤(order (solid s)).length)∧(acc=((order (solid s)).take k1).map (tstR s)):=hG1
   show Ct _ _ _ _ [(2,ptr 2 b2 0),(3,eqv (.slice none 0 0)),(4,ptr 4 b4 0),(5,sl 1 nE (order (solid s))),(6,osl 29 v29),(9,ptr 9 b9 0),(46,sl 1 nE (order (solid s))),(47,int ((order (solid s)).length:Int)),(48,int (k1:Int))] [(1,cell b1 [sl 1 rE_ s.aC,sl 2 sE s.sT]),(2,cell b2 [eqv (.slice none 0 0),eqv (.slice none 0 0)]),(4,cell b4 [sl 1 rE_ (solid s).aC,sl 2 sE (solid s).sT]),(9,cell b9 [sl 1 rE_ s.aC,osl 90 v2x]),(29,own v29 3 1 nE pl),(90,own v2x 81 2 sE acc)] _
   have hal:acc.length≤k1:=by rw[hI1];simp;omega
   refine sq (rg (bi J J b_lss (nl (th (sq ?_)))))
   refine cd J (fun hc2=> ?_) (fun hc2=> ?_)
   ·try simp at hc2
    have hox1:=hoq.1 k1 O
    have hsn:=solid_next hs (x:=(ix (order (solid s)) k1).toNat) O
    refine sk (th (sq (bk (sq (rg (iF J J T.sl36 O gB (lF J J T.one3 (ag (nl (th (sq (rg (fP J T.fld25_1 (lP J J J T.one23 (mv (iF J J T.sl23 O gB (fF J T.fld81_0 (lF J J T.one36 (bd (css:= [(0,_)]) T.st81 (eC (eC eZ)) ⟨J,J,p1 (φ:=sl 1 nE (ix (solid s).sT (ix (order (solid s)) k1).toNat).aP) J,tV⟩ (al (key:=12) T.z81 (eC (eC eZ)) fun b12=>(sPA (cs':= [sl 1 nE (ix (solid s).sT (ix (order (solid s)) k1).toNat).aP,eqv (.slice none 0 0)]) J J J T.agg81 J J (nl (th (sq (sq (rg (fP J T.fld25_1 (lP J J J T.one23 (mv (iF J J T.sl23 O gB (fF J T.fld81_1 (lF J J T.one36 (fc (slenI 64 J) fun hm64=>(lnF J T.sl36 (mv (nl (th (bk ?_))))))))))))))))))))))))))))))))))))))
    refine nwC 121 3 1 nE (kncC 12 1 (osl 121 (.slice none 0 0)) rfl rfl eq_osl ?_)
    have hI2_0:0≤(ix (solid s).sT (ix (order (solid s)) k1).toNat).next.length:=by
     first|omega|simp
    have hI2_1:([]:List Int)=((ix (solid s).sT (ix (order (solid s)) k1).toNat).next.take 0).map (mapK pl):=by
     simp
    refine lp (κ:=Nat × Value × (List Int)) (fun p=> [(2,ptr 2 b2 0),(3,eqv (.slice none 0 0)),(4,ptr 4 b4 0),(5,sl 1 nE (order (solid s))),(6,osl 29 v29),(9,ptr 9 b9 0),(12,ptr 12 b12 0),(46,sl 1 nE (order (solid s))),(47,int ((order (solid s)).length:Int)),(48,int (k1:Int)),(64,sl 1 nE (ix (solid s).sT (ix (order (solid s)) k1).toNat).next),(65,int ((ix (solid s).sT (ix (order (solid s)) k1).toNat).next.length:Int)),(66,int (p.1:Int))]) (fun p=> [(1,cell b1 [sl 1 rE_ s.aC,sl 2 sE s.sT]),(2,cell b2 [eqv (.slice none 0 0),eqv (.slice none 0 0)]),(4,cell b4 [sl 1 rE_ (solid s).aC,sl 2 sE (solid s).sT]),(9,cell b9 [sl 1 rE_ s.aC,osl 90 v2x]),(12,cell b12 [sl 1 nE (ix (solid s).sT (ix (order (solid s)) k1).toNat).aP,osl 121 p.2.1]),(29,own v29 3 1 nE pl),(90,own v2x 81 2 sE acc),(121,own p.2.1 3 1 nE p.2.2)]) (fun p=>(p.1≤(ix (solid s).sT (ix (order (solid s)) k1).toNat).next.length)∧(p.2.2=((ix (solid s).sT (ix (order (solid s)) k1).toNat).next.take p.1).map (mapK pl))) (fun p=>(ix (solid s).sT (ix (order (solid s)) k1).toNat).next.length- p.1) ⟨0,(.slice none 0 0),([]:List Int)⟩ ⟨hI2_0,hI2_1⟩ ⟨id,id,id,id,id,id,id,id,id,id,id,id,id,tV⟩ ⟨rI,rI,rI,rI,rI,rI,rI,rI,tV⟩ ?_
    intro⟨k2,v3x,l3⟩ hG2
    obtain⟨hk2,hI2⟩:(k2≤(ix (solid s).sT (ix (order (solid s)) k1).toNat).next.length)∧(l3=((ix (solid s).sT (ix (order (solid s)) k1).toNat).next.take k2).map (mapK pl)):=hG2
    show Ct _ _ _ _ [(2,ptr 2 b2 0),(3,eqv (.slice none 0 0)),(4,ptr 4 b4 0),(5,sl 1 nE (order (solid s))),(6,osl 29 v29),(9,ptr 9 b9 0),(12,ptr 12 b12 0),(46,sl 1 nE (order (solid s))),(47,int ((order (solid s)).length:Int)),(48,int (k1:Int)),(64,sl 1 nE (ix (solid s).sT (ix (order (solid s)) k1).toNat).next),(65,int ((ix (solid s).sT (ix (order (solid s)) k1).toNat).next.length:Int)),(66,int (k2:Int))] [(1,cell b1 [sl 1 rE_ s.aC,sl 2 sE s.sT]),(2,cell b2 [eqv (.slice none 0 0),eqv (.slice none 0 0)]),(4,cell b4 [sl 1 rE_ (solid s).aC,sl 2 sE (solid s).sT]),(9,cell b9 [sl 1 rE_ s.aC,osl 90 v2x]),(12,cell b12 [sl 1 nE (ix (solid s).sT (ix (order (solid s)) k1).toNat).aP,osl 121 v3x]),(29,own v29 3 1 nE pl),(90,own v2x 81 2 sE acc),(121,own v3x 3 1 nE l3)] _
    have hl3:l3.length≤k2:=by rw[hI2];simp;omega
    refine sq (rg (bi J J b_lss (nl (th (sq ?_)))))
    refine cd J (fun hc3=> ?_) (fun hc3=> ?_)
    ·try simp at hc3
     have hbd:=solid_bd hs (x:=(ix (order (solid s)) k1).toNat) O (a:=k2) O
     refine sk (th (sq (bk (sq (rg (iF J J T.sl36 O gB (lF J J T.one3 (ag (nl (th (sq (sq (rg (mv (bi J J b_geq (nl (th ?_)))))))))))))))))
     refine cd J (fun hc4=> ?_) (fun hc4=> ?_)
     ·try simp at hc4
      refine rg (mv (mv (iO J J J T.sl36 O O (lO J J gB J T.one3 (ag (nl (th (rg (fP J T.fld81_1 (lP J J J T.one36 (mv (bsE (enc:=nE) (xs:= [(ix pl (ix (ix (solid s).sT (ix (order (solid s)) k1).toNat).next k2).toNat)]) (css:= [[int (ix pl (ix (ix (solid s).sT (ix (order (solid s)) k1).toNat).next k2).toNat)]]) T.mk36 ⟨J,J,p1 (φ:=int (ix pl (ix (ix (solid s).sT (ix (order (solid s)) k1).toNat).next k2).toNat)) J,tV⟩ J J J J (ap (key:=121) (zs:= [(ix pl (ix (ix (solid s).sT (ix (order (solid s)) k1).toNat).next k2).toNat)]) osl_eq J J J T.mk36 (by unfold maxL at*;simp;omega) (by unfold maxL at*;simp;omega) fun v80=>(fP J T.fld81_1 (storePO J J J J T.one36 J (nl (eb (th (rg (bi J J (b_add i6) (mv (nl ?_))))))))))))))))))))))
      have hN0:(k2+1)≤(ix (solid s).sT (ix (order (solid s)) k1).toNat).next.length:=by
       first|omega|simp_all
      have hN1:(l3++ [(ix pl (ix (ix (solid s).sT (ix (order (solid s)) k1).toNat).next k2).toNat)])=((ix (solid s).sT (ix (order (solid s)) k1).toNat).next.take (k2+1)).map (mapK pl):=by
       rw[map_take_succ O,hI2];simp[mapK,hc4]
      exact ln (⟨k2+1,v80,l3++ [(ix pl (ix (ix (solid s).sT (ix (order (solid s)) k1).toNat).next k2).toNat)]⟩:Nat × Value × (List Int)) ⟨hN0,hN1⟩ dO ⟨id,id,id,id,id,id,id,id,id,id,id,id,id,tV⟩ ⟨rI,rI,rI,rI,rI,rI,rI,rI,tV⟩
     ·try simp at hc4
      refine sk (th (rg (fP J T.fld81_1 (lP J J J T.one36 (mv (bsE (enc:=nE) (xs:= [(ix (ix (solid s).sT (ix (order (solid s)) k1).toNat).next k2)]) (css:= [[int (ix (ix (solid s).sT (ix (order (solid s)) k1).toNat).next k2)]]) T.mk36 ⟨J,J,p1 (φ:=int (ix (ix (solid s).sT (ix (order (solid s)) k1).toNat).next k2)) J,tV⟩ J J J J (ap (key:=121) (zs:= [(ix (ix (solid s).sT (ix (order (solid s)) k1).toNat).next k2)]) osl_eq J J J T.mk36 (by unfold maxL at*;simp;omega) (by unfold maxL at*;simp;omega) fun v80=>(fP J T.fld81_1 (storePO J J J J T.one36 J (nl (eb (th (rg (bi J J (b_add i6) (mv (nl ?_))))))))))))))))
      have hN0:(k2+1)≤(ix (solid s).sT (ix (order (solid s)) k1).toNat).next.length:=by
       first|omega|simp_all
      have hN1:(l3++ [(ix (ix (solid s).sT (ix (order (solid s)) k1).toNat).next k2)])=((ix (solid s).sT (ix (order (solid s)) k1).toNat).next.take (k2+1)).map (mapK pl):=by
       rw[map_take_succ O,hI2];simp[mapK];omega
      exact ln (⟨k2+1,v80,l3++ [(ix (ix (solid s).sT (ix (order (solid s)) k1).toNat).next k2)]⟩:Nat × Value × (List Int)) ⟨hN0,hN1⟩ dO ⟨id,id,id,id,id,id,id,id,id,id,id,id,id,tV⟩ ⟨rI,rI,rI,rI,rI,rI,rI,rI,tV⟩
    ·try simp at hc3
     refine ex (xt_ (xt_ (xb (th (rg (fP J T.fld25_1 (lP J J J T.one23 (fzc 12 121 1 J J J J (lPA J J T.agg81 J (bsE (enc:=sE) (xs:= [(⟨(ix (solid s).sT (ix (order (solid s)) k1).toNat).aP,l3⟩)]) (css:= [[sl 1 nE (ix (solid s).sT (ix (order (solid s)) k1).toNat).aP,sl 1 nE l3]]) T.mk23 ⟨J,J,pA (cs:= [sl 1 nE (ix (solid s).sT (ix (order (solid s)) k1).toNat).aP,sl 1 nE l3]) J,tV⟩ J J J J (ap (key:=90) (zs:= [(⟨(ix (solid s).sT (ix (order (solid s)) k1).toNat).aP,l3⟩)]) osl_eq J J J T.mk23 (by unfold maxL at*;simp;omega) (by unfold maxL at*;simp;omega) fun v87=>(fP J T.fld25_1 (storePO J J J J T.one23 J (nl (eb (th (rg (bi J J (b_add i6) (mv (nl ?_))))))))))))))))))))
     have hN0:(k1+1)≤(order (solid s)).length:=by
      first|omega|simp_all
     have hN1:(acc++ [(⟨(ix (solid s).sT (ix (order (solid s)) k1).toNat).aP,l3⟩)])=((order (solid s)).take (k1+1)).map (tstR s):=by
      rw[map_take_succ O,hI1]
      congr 2
      unfold tstR
      rw[hI2,show k2=(ix (solid s).sT (ix (order (solid s)) k1).toNat).next.length by omega,List.take_length,hI0,show k=(order (solid s)).length by omega,List.take_length]
     exact ln (⟨k1+1,v87,acc++ [(⟨(ix (solid s).sT (ix (order (solid s)) k1).toNat).aP,l3⟩)]⟩:Nat × Value × (List SA)) ⟨hN0,hN1⟩ dO ⟨id,id,id,id,id,id,id,id,id,tV⟩ ⟨rI,rI,rI,rI,rI,rI,tV⟩
   ·try simp at hc2
    refine ex (xt_ (xt_ (xb (th (sq (rg (fzc 9 90 1 J J J J (lPA J J T.agg25 J (mv (sPA (cs':= [sl 1 rE_ s.aC,sl 2 sE acc]) J J J T.agg25 J J (ag (nl (th (rt ?_))))))))))))))
    have hL:=trimmed_not (s:=s) (by simpa using hc0)
    have hr0:s.aC=((tR s).1).aC:=by
     rw[hL]
    have hr1:acc=((tR s).1).sT:=by
     rw[hL,hI1,show k1=(order (solid s)).length by omega,List.take_length]
     exact List.map_congr_left fun x hx=>by
      obtain⟨j,hj,rfl⟩:=List.getElem_of_mem hx
      have:=hoq.1 j hj
      rw[ix_get hj] at this
      exact tstR_eq hs this.1 this.2
    have hr2:(order (solid s))=((tR s).2):=by
     rw[hL]
    exact rE () [.cell 2 25,.tmp 3] J [agg [sl 1 rE_ s.aC,sl 2 sE acc],sl 1 nE (order (solid s))] ⟨.agg J J T.agg25 J J,.tmp J,tV⟩ (cA3 (fun x0 x1 x2=>rV [agg [sl 1 rE_ x0,sl 2 sE x1],sl 1 nE x2]) hr0 hr1 hr2) trivial eX
theorem IsTrim_ok (s:SS) (hs:oK s):
 Fn0 Tryz.prog 106 [spec s] (bl (isTrimS s)):=by
 refine fnI Tryz.func106 rfl rfl (fun w0 F0=> ?_)
 refine fcC (inhS 0 J) (fun hS0=> ?_)
 obtain⟨hsa0,hss0,hse0⟩:=sLn hS0
 refine sq (rg (bx (key:=1) (cs:= [sl 1 rE_ s.aC,sl 2 sE s.sT]) J fun b1=>(ag (nl (th (sq (rg (lPA J J T.agg25 J (cal0 (φs:= [agg [sl 1 rE_ s.aC,sl 2 sE s.sT]]) (φ:=tup [agg [sl 1 rE_ ((tR s).1).aC,sl 2 sE ((tR s).1).sT],sl 1 nE ((tR s).2)]) ⟨J,tV⟩ (divr.Trim_ok s aS) T.ent55 (mv (xt J J (xt J J (al (key:=3) T.z25 (eC (eC eZ)) fun b3=>(sPA (cs':= [sl 1 rE_ ((tR s).1).aC,sl 2 sE ((tR s).1).sT]) J J J T.agg25 J J (ag (nl (th (sq (rg (lPA J J T.agg25 J (lPA J J T.agg25 J (cal0 (φs:= [agg [sl 1 rE_ s.aC,sl 2 sE s.sT],agg [sl 1 rE_ ((tR s).1).aC,sl 2 sE ((tR s).1).sT]]) (φ:=bl (isTrimS s)) ⟨J,J,tV⟩ (ref03.Same_ok s (tR s).1) T.ent37 (ag (nl (th (rt ?_))))))))))))))))))))))))))
 exact rE () [.tmp 2] J [bl (isTrimS s)] ⟨.tmp J,tV⟩ J trivial eX
end divr
end
section
open ref01 ref03 ref04 ref06 prog prog2 prog3 prog6 prog13 Part Rungs LeftM TrimM RoundM BisM BisM5 WalkM StepM WitM JudgM refw judg wit sysw divr
def andI (u o:Int):Int:=((u.toNat&&&o.toNat:Nat):Int)
def fitsB (x y:SA) (u:Int):Bool:=y.aP.all fun o=>decide (andI u o∈x.aP)
def partsB (x y:SA):Bool:=x.aP.any fun o=>decide (o∉y.aP)
noncomputable def bothE (t s:SS):Int:=if specOK t=true∧specOK s=true then(if t.aC=s.aC then 0 else 10) else 30
def largeB (t s:SS):Bool:=decide ((t.sT.length:Int)*(s.sT.length:Int)+1>500)
def noneM (m:SSys):Bool:=decide (m.aC.length=0)&&decide (m.sT.length=0)
def goalS:SS:=⟨[⟨#[97]⟩,⟨#[98]⟩],[⟨[1],[0,-1]⟩]⟩
def partS:SS:=⟨[⟨#[97]⟩,⟨#[98]⟩],[⟨[1,3],[0,0]⟩]⟩
def accB (s:SS) (x u:Int):Bool:=decide (0≤x)&&decide (u∈acc s x.toNat)
theorem any_yes {α:Type} [Inhabited α] {l:List α} {p:α→Bool} {k:Nat} (hk:k<l.length) (h:p (ix l k)=true):l.any p=true:=List.any_eq_true.2 ⟨_,ix_memS hk,h⟩
theorem any_no {α:Type} [Inhabited α] {l:List α} {p:α→Bool} (h:∀j,j<l.length→p (ix l j)=false):l.any p=false:=by
 cases g:l.any p with
 |false=>rfl
 |true=>
  obtain⟨e,he,hp⟩:=List.any_eq_true.1 g
  obtain⟨j,hj,rfl⟩:=List.getElem_of_mem he
  rw[←ix_get hj,h j hj] at hp;cases hp
namespace T
theorem ent157:Ent Tryz.prog 157:=ent_of kR
theorem ent32:Ent Tryz.prog 32:=ent_of kR
theorem ent79:Ent Tryz.prog 79:=ent_of kR
end T
namespace divs
theorem parts_ok (x y:SA):
 Fn0 Tryz.prog 226 [state x,state y] (bl (partsB x y)):=by
 refine fnI Tryz.func226 rfl rfl (fun w0 F0=> ?_)
 refine fcC (inhS 0 J) (fun hS0=> ?_)
 obtain⟨hxa0,hxn0⟩:=state_lens hS0
 refine fcC (inhS 1 J) (fun hS1=> ?_)
 obtain⟨hxa1,hxn1⟩:=state_lens hS1
 refine sq (rg (bx (key:=2) (cs:= [sl 1 nE x.aP,sl 1 nE x.next]) J fun b2=>(bx (key:=3) (cs:= [sl 1 nE y.aP,sl 1 nE y.next]) J fun b3=>(ag (nl (th (sq (sq (rg (fP J T.fld81_0 (lP J J J T.one36 (fc (slenI 8 J) fun hm8=>(lnF J T.sl36 (mv (nl (th (bk ?_)))))))))))))))))
 have hI0_0:0≤x.aP.length:=by
  first|omega|simp
 have hI0_1:∀j,j<0→decide (ix x.aP j∉y.aP)=false:=by
  intro j hj;omega
 refine lp (κ:=Nat) (fun p=> [(3,ptr 3 b3 0),(8,sl 1 nE x.aP),(9,int (x.aP.length:Int)),(10,int (p:Int))]) (fun p=> [(2,cell b2 [sl 1 nE x.aP,sl 1 nE x.next]),(3,cell b3 [sl 1 nE y.aP,sl 1 nE y.next])]) (fun p=>(p≤x.aP.length)∧(∀j,j<p→decide (ix x.aP j∉y.aP)=false)) (fun p=>x.aP.length- p) 0 ⟨hI0_0,hI0_1⟩ ⟨id,id,id,id,tV⟩ ⟨rI,rI,tV⟩ ?_
 intro k hG0
 obtain⟨hk0,hI0⟩:(k≤x.aP.length)∧(∀j,j<k→decide (ix x.aP j∉y.aP)=false):=hG0
 refine sq (rg (bi J J b_lss (nl (th (sq ?_)))))
 refine cd J (fun hc0=> ?_) (fun hc0=> ?_)
 ·try simp at hc0
  refine sk (th (sq (bk (sq (rg (iF J J T.sl36 O gB (lF J J T.one3 (ag (nl (th (sq (rg (fP J T.fld81_0 (lP J J J T.one36 (mv (cal0 (φs:= [sl 1 nE y.aP,int (ix x.aP k)]) (φ:=bl (decide ((ix x.aP k)∈y.aP))) ⟨J,J,tV⟩ (divr.In_ok _ _) T.ent157 (no J (nl (th ?_)))))))))))))))))))
  refine cd J (fun hc1=> ?_) (fun hc1=> ?_)
  ·skip
   refine sq (rg (ag (nl (th (rt (rb (rt_ (rt_ (rb (rt_ ?_))))))))))
   have hr0:true=(partsB x y):=by
    exact(any_yes (k:=k) O (by simpa using hc1)).symm
   exact rE () [.tmp 4] J [bl true] ⟨.tmp J,tV⟩ (cA1 (fun x0=>rV [bl x0]) hr0) trivial eX
  ·skip
   refine sk (eb (th (rg (bi J J (b_add i6) (mv (nl ?_))))))
   have hN0:(k+1)≤x.aP.length:=by
    first|omega|simp_all
   have hN1:∀j,j<(k+1)→decide (ix x.aP j∉y.aP)=false:=by
    intro j hj
    by_cases e:j=k
    ·subst e;simpa using hc1
    ·exact hI0 j O
   exact ln (k+1) ⟨hN0,hN1⟩ dO ⟨id,id,id,id,tV⟩ ⟨rI,rI,tV⟩
 ·try simp at hc0
  refine ex (xt_ (xt_ (xb (th (sq (rg (ag (nl (th (rt ?_))))))))))
  have hr0:false=(partsB x y):=by
   exact(any_no (fun j hj=>hI0 j O)).symm
  exact rE () [.tmp 4] J [bl false] ⟨.tmp J,tV⟩ (cA1 (fun x0=>rV [bl x0]) hr0) trivial eX
theorem both_ok (t s:SS):
 Fn0 Tryz.prog 44 [spec t,spec s] (int (bothE t s)):=by
 refine fnI Tryz.func44 rfl rfl (fun w0 F0=> ?_)
 refine fcC (inhS 0 J) (fun hS0=> ?_)
 obtain⟨hsa0,hss0,hse0⟩:=sLn hS0
 refine fcC (inhS 1 J) (fun hS1=> ?_)
 obtain⟨hsa1,hss1,hse1⟩:=sLn hS1
 refine sq (rg (bx (key:=2) (cs:= [sl 1 rE_ t.aC,sl 2 sE t.sT]) J fun b2=>(bx (key:=3) (cs:= [sl 1 rE_ s.aC,sl 2 sE s.sT]) J fun b3=>(ag (nl (th (sq (bk (sq (rg (lPA J J T.agg25 J (cal0 (φs:= [agg [sl 1 rE_ t.aC,sl 2 sE t.sT]]) (φ:=bl (specOK t)) ⟨J,tV⟩ (ref03.Is_ok t) T.ent32 (no J (mv ?_))))))))))))))
 apply gOr (t:=9) (pd:=13) rfl
 rotate_left
 ·intro hg0 fin
  have hg0':=hg0
  try simp at hg0'
  exact gy J J J hg0 (lPA J J T.agg25 J (gy J J J hg0 (cal0 (φs:= [agg [sl 1 rE_ s.aC,sl 2 sE s.sT]]) (φ:=bl (specOK s)) ⟨J,tV⟩ (ref03.Is_ok s) T.ent32 (gy J J J hg0 (no J (pkF J hg0 J (drp (X:= [(12,_),(11,_),(10,_)]) ⟨J,J,J,tV⟩ fin)))))))
 ·intro hg0 fin
  exact gn J J J hg0 J J (gn J J J hg0 J J (gn J J J hg0 J J (pkT J hg0 J (drp (X:= [(12,_),(11,_),(10,_)]) ⟨J,J,J,tV⟩ fin))))
 refine ag (nl (th ?_))
 refine cd J (fun hc0=> ?_) (fun hc0=> ?_)
 ·skip
  have hn:¬(specOK t=true∧specOK s=true):=by rintro⟨h1,h2⟩;simp[h1,h2] at hc0
  refine sq (rg (ag (nl (th (rt (rb (rt_ ?_)))))))
  have hr0:(30:Int)=(bothE t s):=by
   unfold bothE;rw[if_neg hn]
  exact rE () [.tmp 4] J [int 30] ⟨.tmp J,tV⟩ (cA1 (fun x0=>rV [int x0]) hr0) trivial eX
 ·skip
  have hy:specOK t=true∧specOK s=true:=by
   cases h1:specOK t<;>cases h2:specOK s<;>simp_all
  refine sq (rg (fP J T.fld25_0 (lP J J J T.one22 (fP J T.fld25_0 (lP J J J T.one22 (cal0 (φs:= [sl 1 rE_ t.aC,sl 1 rE_ s.aC]) (φ:=bl (decide (t.aC=s.aC))) ⟨J,J,tV⟩ (ref01.SameStrings_ok _ _) T.ent33 (no J (ag (nl (th ?_))))))))))
  refine cd J (fun hc1=> ?_) (fun hc1=> ?_)
  ·skip
   refine sq (rg (ag (nl (th (rt (rb (rt_ ?_)))))))
   have hr0:(10:Int)=(bothE t s):=by
    unfold bothE;rw[if_pos hy,if_neg (by simpa using hc1)]
   exact rE () [.tmp 4] J [int 10] ⟨.tmp J,tV⟩ (cA1 (fun x0=>rV [int x0]) hr0) trivial eX
  ·skip
   refine sk (eb (th (sq (rg (ag (nl (th (rt ?_))))))))
   have hr0:(0:Int)=(bothE t s):=by
    unfold bothE;rw[if_pos hy,if_pos (by simpa using hc1)]
   exact rE () [.tmp 4] J [int 0] ⟨.tmp J,tV⟩ (cA1 (fun x0=>rV [int x0]) hr0) trivial eX
theorem goal_ok:
 Fn0 Tryz.prog 99 [] (spec goalS):=by
 refine fnI Tryz.func99 rfl rfl (fun w0 F0=> ?_)
 refine sq (rg (al (key:=0) T.z25 (eC (eC eZ)) fun b0=>(nl (th (sq (rg (bsE (enc:=rE_) (xs:= [({ data:= #[97] }),({ data:= #[98] })]) (css:= [[str ({ data:= #[97] })],[str ({ data:= #[98] })]]) T.mk22 ⟨J,J,p1 (φ:=str ({ data:= #[97] })) J,⟨J,J,p1 (φ:=str ({ data:= #[98] })) J,tV⟩⟩ J J J J (bsE (enc:=nE) (xs:= [1]) (css:= [[int 1]]) T.mk36 ⟨J,J,p1 (φ:=int 1) J,tV⟩ J J J J (bsE (enc:=nE) (xs:= [0,(-1)]) (css:= [[int 0],[int (-1)]]) T.mk36 ⟨J,J,p1 (φ:=int 0) J,⟨J,J,p1 (φ:=int (-1)) J,tV⟩⟩ J J J J (bd (css:= [(0,_),(1,_)]) T.st81 (eC (eC eZ)) ⟨J,J,p1 (φ:=sl 1 nE [1]) J,⟨J,J,p1 (φ:=sl 1 nE [0,(-1)]) J,tV⟩⟩ (bsE (enc:=sE) (xs:= [(⟨[1],[0,(-1)]⟩)]) (css:= [[sl 1 nE [1],sl 1 nE [0,(-1)]]]) T.mk23 ⟨J,J,pA (cs:= [sl 1 nE [1],sl 1 nE [0,(-1)]]) J,tV⟩ J J J J (bd (css:= [(0,_),(1,_)]) T.st25 (eC (eC eZ)) ⟨J,J,p1 (φ:=sl 1 rE_ [({ data:= #[97] }),({ data:= #[98] })]) J,⟨J,J,p1 (φ:=sl 2 sE [(⟨[1],[0,(-1)]⟩)]) J,tV⟩⟩ (sPA (cs':= [sl 1 rE_ [({ data:= #[97] }),({ data:= #[98] })],sl 2 sE [(⟨[1],[0,(-1)]⟩)]]) J J J T.agg25 J J (nl (th (rt ?_))))))))))))))))
 have hr0: [({ data:= #[97] }),({ data:= #[98] })]=goalS.aC:=by
  first|rfl|simp_all|omega
 have hr1: [(⟨[1],[0,(-1)]⟩)]=goalS.sT:=by
  first|rfl|simp_all|omega
 exact rE () [.cell 0 25] J [agg [sl 1 rE_ [({ data:= #[97] }),({ data:= #[98] })],sl 2 sE [(⟨[1],[0,(-1)]⟩)]]] ⟨.agg J J T.agg25 J J,tV⟩ (cA2 (fun x0 x1=>rV [agg [sl 1 rE_ x0,sl 2 sE x1]]) hr0 hr1) trivial eX
theorem part_ok:
 Fn0 Tryz.prog 100 [] (spec partS):=by
 refine fnI Tryz.func100 rfl rfl (fun w0 F0=> ?_)
 refine sq (rg (al (key:=0) T.z25 (eC (eC eZ)) fun b0=>(nl (th (sq (rg (bsE (enc:=rE_) (xs:= [({ data:= #[97] }),({ data:= #[98] })]) (css:= [[str ({ data:= #[97] })],[str ({ data:= #[98] })]]) T.mk22 ⟨J,J,p1 (φ:=str ({ data:= #[97] })) J,⟨J,J,p1 (φ:=str ({ data:= #[98] })) J,tV⟩⟩ J J J J (bsE (enc:=nE) (xs:= [1,3]) (css:= [[int 1],[int 3]]) T.mk36 ⟨J,J,p1 (φ:=int 1) J,⟨J,J,p1 (φ:=int 3) J,tV⟩⟩ J J J J (bsE (enc:=nE) (xs:= [0,0]) (css:= [[int 0],[int 0]]) T.mk36 ⟨J,J,p1 (φ:=int 0) J,⟨J,J,p1 (φ:=int 0) J,tV⟩⟩ J J J J (bd (css:= [(0,_),(1,_)]) T.st81 (eC (eC eZ)) ⟨J,J,p1 (φ:=sl 1 nE [1,3]) J,⟨J,J,p1 (φ:=sl 1 nE [0,0]) J,tV⟩⟩ (bsE (enc:=sE) (xs:= [(⟨[1,3],[0,0]⟩)]) (css:= [[sl 1 nE [1,3],sl 1 nE [0,0]]]) T.mk23 ⟨J,J,pA (cs:= [sl 1 nE [1,3],sl 1 nE [0,0]]) J,tV⟩ J J J J (bd (css:= [(0,_),(1,_)]) T.st25 (eC (eC eZ)) ⟨J,J,p1 (φ:=sl 1 rE_ [({ data:= #[97] }),({ data:= #[98] })]) J,⟨J,J,p1 (φ:=sl 2 sE [(⟨[1,3],[0,0]⟩)]) J,tV⟩⟩ (sPA (cs':= [sl 1 rE_ [({ data:= #[97] }),({ data:= #[98] })],sl 2 sE [(⟨[1,3],[0,0]⟩)]]) J J J T.agg25 J J (nl (th (rt ?_))))))))))))))))
 have hr0: [({ data:= #[97] }),({ data:= #[98] })]=partS.aC:=by
  first|rfl|simp_all|omega
 have hr1: [(⟨[1,3],[0,0]⟩)]=partS.sT:=by
  first|rfl|simp_all|omega
 exact rE () [.cell 0 25] J [agg [sl 1 rE_ [({ data:= #[97] }),({ data:= #[98] })],sl 2 sE [(⟨[1,3],[0,0]⟩)]]] ⟨.agg J J T.agg25 J J,tV⟩ (cA2 (fun x0 x1=>rV [agg [sl 1 rE_ x0,sl 2 sE x1]]) hr0 hr1) trivial eX
theorem Accepts_ok (s:SS) (x u:Int) (hx:x<(s.sT.length:Int)):
 Fn0 Tryz.prog 119 [spec s,int x,int u] (bl (accB s x u)):=by
 refine fnI Tryz.func119 rfl rfl (fun w0 F0=> ?_)
 refine fcC (inhS 0 J) (fun hS0=> ?_)
 obtain⟨hsa0,hss0,hse0⟩:=sLn hS0
 refine sq (rg (bx (key:=3) (cs:= [sl 1 rE_ s.aC,sl 2 sE s.sT]) J fun b3=>(ag (nl (th (sq (rg (mv (bi J J b_geq (mv ?_))))))))))
 apply gAnd (t:=9) (pd:=18) rfl
 rotate_left
 ·intro hg0 fin
  have hg0':=hg0
  try simp at hg0'
  exact gy J J J hg0 (fP J T.fld25_1 (gy J J J hg0 (lP J J J T.one23 (gy J J J hg0 (mv (gy J J J hg0 (iF J J T.sl23 O gB (gy J J J hg0 (fF J T.fld81_0 (gy J J J hg0 (lF J J T.one36 (gy J J J hg0 (mv (gy J J J hg0 (cal0 (φs:= [sl 1 nE (ix s.sT x.toNat).aP,int u]) (φ:=bl (decide (u∈(ix s.sT x.toNat).aP))) ⟨J,J,tV⟩ (divr.In_ok _ _) T.ent157 (pkT J hg0 J (drp (X:= [(17,_),(16,_),(15,_),(14,_),(13,_),(12,_),(11,_),(10,_)]) ⟨J,J,J,J,J,J,J,J,tV⟩ fin)))))))))))))))))
 ·intro hg0 fin
  exact gn J J J hg0 J J (gn J J J hg0 J J (gn J J J hg0 J J (gn J J J hg0 J J (gn J J J hg0 J J (gn J J J hg0 J J (gn J J J hg0 J J (gn J J J hg0 J J (pkF J hg0 J (drp (X:= [(17,_),(16,_),(15,_),(14,_),(13,_),(12,_),(11,_),(10,_)]) ⟨J,J,J,J,J,J,J,J,tV⟩ fin)))))))))
 refine ag (nl (th (rt ?_)))
 have hr0:((decide (0≤x))&&(decide (u∈(ix s.sT x.toNat).aP)))=(accB s x u):=by
  first|rfl|simp_all|omega
 exact rE () [.tmp 6] J [bl ((decide (0≤x))&&(decide (u∈(ix s.sT x.toNat).aP)))] ⟨.tmp J,tV⟩ (cA1 (fun x0=>rV [bl x0]) hr0) trivial eX
theorem before_ok (d e:Int × Int):
 Fn0 Tryz.prog 79 [agg [int d.1,int d.2],agg [int e.1,int e.2]] (bl (ltP d e)):=by
 refine fnI Tryz.func79 rfl rfl (fun w0 F0=> ?_)
 refine sq (rg (bx (key:=2) (cs:= [int d.1,int d.2]) J fun b2=>(bx (key:=3) (cs:= [int e.1,int e.2]) J fun b3=>(ag (nl (th (sq (rg (fP J T.fld105_0 (lP J J J T.one3 (fP J T.fld105_0 (lP J J J T.one3 (bi J J b_lss (mv ?_))))))))))))))
 apply gOr (t:=10) (pd:=23) rfl
 rotate_left
 ·intro hg0 fin
  have hg0':=hg0
  try simp at hg0'
  refine gy rfl rfl rfl hg0 (fP rfl T.fld105_0 (gy rfl rfl rfl hg0 (lP rfl rfl rfl T.one3 (gy rfl rfl rfl hg0 (fP rfl T.fld105_0 (gy rfl rfl rfl hg0 (lP rfl rfl rfl T.one3 (gy rfl rfl rfl hg0 (bi rfl rfl b_eql (gy rfl rfl rfl hg0 (mv ?_)))))))))))
  apply gAnd (t:=16) (pd:=22) rfl
  rotate_left
  ·intro hg1 fin
   have hg1':=hg1
   try simp at hg1'
   exact gy J J J hg1 (fP J T.fld105_1 (gy J J J hg1 (lP J J J T.one3 (gy J J J hg1 (fP J T.fld105_1 (gy J J J hg1 (lP J J J T.one3 (gy J J J hg1 (bi J J b_lss (gy J J J hg0 (pkT J hg1 J (drp (X:= [(21,_),(20,_),(19,_),(18,_),(17,_)]) ⟨J,J,J,J,J,tV⟩ fin))))))))))))
  ·intro hg1 fin
   exact gn J J J hg1 J J (gn J J J hg1 J J (gn J J J hg1 J J (gn J J J hg1 J J (gn J J J hg1 J J (gy J J J hg0 (pkF J hg1 J (drp (X:= [(21,_),(20,_),(19,_),(18,_),(17,_)]) ⟨J,J,J,J,J,tV⟩ fin)))))))
  exact pkF rfl hg0 rfl (drp (X:= [(22,_),(16,_),(15,_),(14,_),(13,_),(12,_),(11,_)]) ⟨rfl,rfl,rfl,rfl,rfl,rfl,rfl,tV⟩ fin)
 ·intro hg0 fin
  exact gn J J J hg0 J J (gn J J J hg0 J J (gn J J J hg0 J J (gn J J J hg0 J J (gn J J J hg0 J J (gn J J J hg0 J J (gu J J J J J (gu J J J J J (gu J J J J J (gu J J J J J (gu J J J J J (gn J J J hg0 J J (pkT J hg0 J (drp (X:= [(22,_),(21,_),(20,_),(19,_),(18,_),(17,_),(16,_),(15,_),(14,_),(13,_),(12,_),(11,_)]) ⟨J,J,J,J,J,J,J,J,J,J,J,J,tV⟩ fin)))))))))))))
 refine ag (nl (th (rt ?_)))
 have hr0:((decide (d.1<e.1))||((decide (d.1=e.1))&&(decide (d.2<e.2))))=(ltP d e):=by
  first|rfl|simp_all|omega
 exact rE () [.tmp 4] J [bl ((decide (d.1<e.1))||((decide (d.1=e.1))&&(decide (d.2<e.2))))] ⟨.tmp J,tV⟩ (cA1 (fun x0=>rV [bl x0]) hr0) trivial eX
theorem Offer_ok (m:SSys) (x:Int) (hm:∀e∈ix m.sT x.toNat,0≤e.1∧e.1<8) (h0:0≤x) (hx:x<(m.sT.length:Int)):
 Fn0 Tryz.prog 74 [sys m,int x] (int (offM m x.toNat)):=by
 refine fnI Tryz.func74 rfl rfl (fun w0 F0=> ?_)
 refine fcC (inhS 0 J) (fun hS0=> ?_)
 obtain⟨hma0,hms0,hme0⟩:=sys_lens hS0
 refine sq (rg (bx (key:=2) (cs:= [sl 1 rE_ m.aC,sl 1 gE m.sT]) J fun b2=>(ag (nl (th (sq (rg (ag (nl (th (sq (sq (rg (fP J T.fld43_1 (lP J J J T.one41 (mv (iF J J T.sl41 O gB (lF J J T.one103 (fc (slenI 12 J) fun hm12=>(lnF J T.sl103 (mv (nl (th (bk ?_))))))))))))))))))))))))
 have hI0_0:0≤(ix m.sT x.toNat).length:=by
  first|omega|simp
 have hI0_1:(0:Int)=offE ((ix m.sT x.toNat).take 0)∧0≤(0:Int)∧(0:Int)<256:=by
  exact⟨rfl,O,O⟩
 refine lp (κ:=Nat × Int) (fun p=> [(4,int 0),(5,int p.2),(12,sl 2 pE (ix m.sT x.toNat)),(13,int ((ix m.sT x.toNat).length:Int)),(14,int (p.1:Int))]) (fun p=> [(2,cell b2 [sl 1 rE_ m.aC,sl 1 gE m.sT])]) (fun p=>(p.1≤(ix m.sT x.toNat).length)∧(p.2=offE ((ix m.sT x.toNat).take p.1)∧0≤p.2∧p.2<256)) (fun p=>(ix m.sT x.toNat).length- p.1) ⟨0,(0:Int)⟩ ⟨hI0_0,hI0_1⟩ ⟨id,id,id,id,id,tV⟩ ⟨rI,tV⟩ ?_
 intro⟨k,u⟩ hG0
 obtain⟨hk0,⟨hu,hu0,hu1⟩⟩:(k≤(ix m.sT x.toNat).length)∧(u=offE ((ix m.sT x.toNat).take k)∧0≤u∧u<256):=hG0
 show Ct _ _ _ _ [(4,int 0),(5,int u),(12,sl 2 pE (ix m.sT x.toNat)),(13,int ((ix m.sT x.toNat).length:Int)),(14,int (k:Int))] [(2,cell b2 [sl 1 rE_ m.aC,sl 1 gE m.sT])] _
 refine sq (rg (bi J J b_lss (nl (th (sq ?_)))))
 refine cd J (fun hc0=> ?_) (fun hc0=> ?_)
 ·try simp at hc0
  have hek:=hm _ (ix_memS hc0)
  have hp:2^ ((ix (ix m.sT x.toNat) k).1).toNat≤2^7:=Nat.pow_le_pow_right O O
  have hp0:0≤((2^ ((ix (ix m.sT x.toNat) k).1).toNat:Nat):Int):=Int.natCast_nonneg _
  refine sk (th (sq (bk (sq (rg (iF J J T.sl103 O gB (lFA J T.agg105 (Nat.le_of_ble_eq_true J) (al (key:=7) T.z105 (eC (eC eZ)) fun b7=>(sPA (cs':= [int ((ix (ix m.sT x.toNat) k).1),int ((ix (ix m.sT x.toNat) k).2)]) J J J T.agg105 J J (nl (th (rg (mv (fP J T.fld105_0 (lP J J J T.one3 (bi J J (b_shlI O O) (bi J J (b_orI O O O O) (ag (nl (eb (th (rg (bi J J (b_add i6) (mv (nl ?_)))))))))))))))))))))))))
  have hN0:(k+1)≤(ix m.sT x.toNat).length:=by
   first|omega|simp_all
  have hN1:((u.toNat|||(2^ ((ix (ix m.sT x.toNat) k).1).toNat):Nat):Int)=offE ((ix m.sT x.toNat).take (k+1))∧0≤((u.toNat|||(2^ ((ix (ix m.sT x.toNat) k).1).toNat):Nat):Int)∧((u.toNat|||(2^ ((ix (ix m.sT x.toNat) k).1).toNat):Nat):Int)<256:=by
   refine⟨?_,O,or_lt256 (b:=((2^ ((ix (ix m.sT x.toNat) k).1).toNat:Nat):Int)) hu1 O⟩
   rw[take_s hc0]
   unfold offE
   rw[List.map_append,List.map_cons,List.map_nil,orAll_snoc,hu];rfl
  exact ln (⟨k+1,((u.toNat|||(2^ ((ix (ix m.sT x.toNat) k).1).toNat):Nat):Int)⟩:Nat × Int) ⟨hN0,hN1⟩ dO ⟨id,id,id,id,id,tV⟩ ⟨rI,tV⟩
 ·try simp at hc0
  refine ex (xt_ (xt_ (xb (th (sq (rg (mv (ag (nl (th (rt ?_)))))))))))
  have hr0:(u:Int)=(offM m x.toNat):=by
   rw[hu,show k=(ix m.sT x.toNat).length by omega,List.take_length]
  exact rE () [.tmp 4] J [int u] ⟨.tmp J,tV⟩ (cA1 (fun x0=>rV [int x0]) hr0) trivial eX
theorem Is_ok (m:SSys):
 Fn0 Tryz.prog 31 [sys m] (bl (sysOK m)):=by
 refine fnI Tryz.func31 rfl rfl (fun w0 F0=> ?_)
 refine fcC (inhS 0 J) (fun hS0=> ?_)
 obtain⟨hma0,hms0,hme0⟩:=sys_lens hS0
 refine sq (rg (bx (key:=1) (cs:= [sl 1 rE_ m.aC,sl 1 gE m.sT]) J fun b1=>(ag (nl (th (sq (sq (rg (fP J T.fld43_0 (lP J J J T.one22 (cal0 (φs:= [sl 1 rE_ m.aC]) (φ:=bl (actionsOK m.aC)) ⟨J,tV⟩ (ref01.Is_ok _) T.ent75 (no J (mv ?_)))))))))))))
 apply gOr (t:=12) (pd:=17) rfl
 rotate_left
 ·intro hg0 fin
  have hg0':=hg0
  try simp at hg0'
  exact gy J J J hg0 (fP J T.fld43_1 (gy J J J hg0 (lP J J J T.one41 (gy J J J hg0 (fc (slenI 14 J) fun hm14=>(lnF J T.sl41 (gy J J J hg0 (bi J J b_lss (pkF J hg0 J (drp (X:= [(16,_),(15,_),(14,_),(13,_)]) ⟨J,J,J,J,tV⟩ fin))))))))))
 ·intro hg0 fin
  exact gn J J J hg0 J J (gn J J J hg0 J J (gn J J J hg0 J J (gn J J J hg0 J J (pkT J hg0 J (drp (X:= [(16,_),(15,_),(14,_),(13,_)]) ⟨J,J,J,J,tV⟩ fin)))))
 refine mv ?_
 apply gOr (t:=18) (pd:=23) rfl
 rotate_left
 ·intro hg1 fin
  have hg1':=hg1
  try simp at hg1'
  exact gy J J J hg1 (fP J T.fld43_1 (gy J J J hg1 (lP J J J T.one41 (gy J J J hg1 (fc (slenI 20 J) fun hm20=>(lnF J T.sl41 (gy J J J hg1 (bi J J b_gtr (pkF J hg1 J (drp (X:= [(22,_),(21,_),(20,_),(19,_)]) ⟨J,J,J,J,tV⟩ fin))))))))))
 ·intro hg1 fin
  exact gn J J J hg1 J J (gn J J J hg1 J J (gn J J J hg1 J J (gn J J J hg1 J J (pkT J hg1 J (drp (X:= [(22,_),(21,_),(20,_),(19,_)]) ⟨J,J,J,J,tV⟩ fin)))))
 refine nl (th ?_)
 refine cd J (fun hc0=> ?_) (fun hc0=> ?_)
 ·try simp at hc0
  refine sq (rg (ag (nl (th (rt (rt_ ?_))))))
  have hr0:false=(sysOK m):=by
   unfold sysOK
   by_cases h:actionsOK m.aC=true
   ·simp[h] at hc0 ⊢
    omega
   ·simp[h]
  exact rE () [.tmp 2] J [bl false] ⟨.tmp J,tV⟩ (cA1 (fun x0=>rV [bl x0]) hr0) trivial eX
 ·try simp at hc0
  have hact:=actionsOK_len (l:=m.aC) (by simp_all)
  refine sk (th (sq (rg (ag (nl (th (sq (sq (rg (fP J T.fld43_1 (lP J J J T.one41 (fc (slenI 25 J) fun hm25=>(lnF J T.sl41 (mv (nl (th (bk ?_)))))))))))))))))
  have hI0_0:0≤m.sT.length:=by
   first|omega|simp
  have hI0_1:(0:Int)=(sumLen (m.sT.take 0):Int)∧(m.sT.take 0).all (edgesOK m.aC.length m.sT.length)=true∧(0:Int)≤140737488355328*(0:Int):=by
   exact⟨rfl,by simp,O⟩
  refine lp (κ:=Nat × Int) (fun p=> [(1,ptr 1 b1 0),(3,int p.2),(25,sl 1 gE m.sT),(26,int (m.sT.length:Int)),(27,int (p.1:Int))]) (fun p=> [(1,cell b1 [sl 1 rE_ m.aC,sl 1 gE m.sT])]) (fun p=>(p.1≤m.sT.length)∧(p.2=(sumLen (m.sT.take p.1):Int)∧(m.sT.take p.1).all (edgesOK m.aC.length m.sT.length)=true∧p.2≤140737488355328*(p.1:Int))) (fun p=>m.sT.length- p.1) ⟨0,(0:Int)⟩ ⟨hI0_0,hI0_1⟩ ⟨id,id,id,id,id,tV⟩ ⟨rI,tV⟩ ?_
  intro⟨k,n⟩ hG0
  obtain⟨hk0,⟨hn,hal,hn4⟩⟩:(k≤m.sT.length)∧(n=(sumLen (m.sT.take k):Int)∧(m.sT.take k).all (edgesOK m.aC.length m.sT.length)=true∧n≤140737488355328*(k:Int)):=hG0
  show Ct _ _ _ _ [(1,ptr 1 b1 0),(3,int n),(25,sl 1 gE m.sT),(26,int (m.sT.length:Int)),(27,int (k:Int))] [(1,cell b1 [sl 1 rE_ m.aC,sl 1 gE m.sT])] _
  have hmk:=hme0 k
  refine sq (rg (bi J J b_lss (nl (th (sq ?_)))))
  refine cd J (fun hc1=> ?_) (fun hc1=> ?_)
  ·try simp at hc1
   refine sk (th (sq (bk (sq (rg (iF J J T.sl41 O gB (lF J J T.one103 (ag (nl (th (sq (rg (mv (mv (fc (slenI 32 J) fun hm32=>(lnF J T.sl103 (bi J J (b_add i6) (ag (nl (th (sq (rg (mv (lnF J T.sl103 (mv (nl (th (bk ?_))))))))))))))))))))))))))))
   have hI1_0:0≤(ix m.sT k).length:=by
    first|omega|simp
   have hI1_1:(∀j,j<0→edgeOK m.aC.length m.sT.length (ix (ix m.sT k) j)=true)∧∀j,j+1<0→ltP (ix (ix m.sT k) j) (ix (ix m.sT k) (j+1))=true:=by
    exact⟨fun j hj=>by omega,fun j hj=>by omega⟩
   refine lp (κ:=Nat) (fun p=> [(1,ptr 1 b1 0),(3,int (n+((ix m.sT k).length:Int))),(5,sl 2 pE (ix m.sT k)),(25,sl 1 gE m.sT),(26,int (m.sT.length:Int)),(27,int (k:Int)),(35,sl 2 pE (ix m.sT k)),(36,int ((ix m.sT k).length:Int)),(37,int (p:Int))]) (fun p=> [(1,cell b1 [sl 1 rE_ m.aC,sl 1 gE m.sT])]) (fun p=>(p≤(ix m.sT k).length)∧((∀j,j<p→edgeOK m.aC.length m.sT.length (ix (ix m.sT k) j)=true)∧∀j,j+1<p→ltP (ix (ix m.sT k) j) (ix (ix m.sT k) (j+1))=true)) (fun p=>(ix m.sT k).length- p) 0 ⟨hI1_0,hI1_1⟩ ⟨id,id,id,id,id,id,id,id,id,tV⟩ ⟨rI,tV⟩ ?_
   intro k1 hG1
   obtain⟨hk1,hI1⟩:(k1≤(ix m.sT k).length)∧((∀j,j<k1→edgeOK m.aC.length m.sT.length (ix (ix m.sT k) j)=true)∧∀j,j+1<k1→ltP (ix (ix m.sT k) j) (ix (ix m.sT k) (j+1))=true):=hG1
   refine sq (rg (bi J J b_lss (nl (th (sq ?_)))))
   refine cd J (fun hc2=> ?_) (fun hc2=> ?_)
   ·try simp at hc2
    refine sk (th (sq (bk (sq (rg (mv (iF J J T.sl103 O gB (lFA J T.agg105 (Nat.le_of_ble_eq_true J) (al (key:=7) T.z105 (eC (eC eZ)) fun b7=>(ag (sPA (cs':= [int ((ix (ix m.sT k) k1).1),int ((ix (ix m.sT k) k1).2)]) J J J T.agg105 J J (nl (th (sq (dr (nh:=38) [0,1,3,7,15,31,15,79,207,511,1023,2047,4095,8191,16383,32767,65535,131071,262143,131071,655359,1703935,4194303,8388607,16777215,33554431,67108863,134217727,268435455,268435455,805306367,2147483647,4294967295,268435455,17179869183,34359738367,68719476735,137438953471] T.mixed kR ?_)))))))))))))))
    refine st_ J (fun _ _ _ gq kq=>fP (gq.1.trans J) T.fld105_0 kq) ?_
    refine st_ J (fun _ _ _ gq kq=>lP (gq.1.trans J) J J T.one3 kq) ?_
    refine st_ J (fun _ _ _ gq kq=>bi (gq.1.trans J) J b_lss kq) ?_
    refine st_ J (fun _ _ _ gq kq=>mv' (gq.1.trans J) kq) ?_
    refine sg_ (φ:=ptr 7 b7 0) J J J J (List.mem_of_elem_eq_true J) (fun hgd=> ?_) ?_
    ·have hgd':=hgd
     try simp at hgd'
     exact fun _ _ _ gq kq=>fP (gq.1.trans J) T.fld105_0 kq
    refine sg_ (φ:=int ((ix (ix m.sT k) k1).1)) J J J J (List.mem_of_elem_eq_true J) (fun hgd=> ?_) ?_
    ·have hgd':=hgd
     try simp at hgd'
     exact fun _ _ _ gq kq=>lP (gq.1.trans (gif_t hgd)) J J T.one3 kq
    refine sg_ (φ:=ptr 1 b1 0) J J J J (List.mem_of_elem_eq_true J) (fun hgd=> ?_) ?_
    ·have hgd':=hgd
     try simp at hgd'
     exact fun _ _ _ gq kq=>fP (gq.1.trans J) T.fld43_0 kq
    refine sg_ (φ:=sl 1 rE_ m.aC) J J J J (List.mem_of_elem_eq_true J) (fun hgd=> ?_) ?_
    ·have hgd':=hgd
     try simp at hgd'
     exact fun _ _ _ gq kq=>lP (gq.1.trans (gif_t hgd)) J J T.one22 kq
    refine sg_ (φ:=int (m.aC.length:Int)) J J J J (List.mem_of_elem_eq_true J) (fun hgd=> ?_) ?_
    ·have hgd':=hgd
     try simp at hgd'
     exact fun _ _ _ gq kq=>lnF (gq.1.trans (gif_t hgd)) T.sl22 kq
    refine sg_ (φ:=bl (decide ((m.aC.length:Int)≤((ix (ix m.sT k) k1).1)))) J J J J (List.mem_of_elem_eq_true J) (fun hgd=> ?_) ?_
    ·have hgd':=hgd
     try simp at hgd'
     exact fun _ _ _ gq kq=>bi (gq.1.trans (gif_t hgd)) (gq.2.1.trans (gif_t hgd)) b_geq kq
    refine st_ J (fun _ _ _ gq kq=>pk (gq.1.trans J) (pk_or (x:= .tmp 45) (gq.1.trans J) (gq.2.1.trans J) J) kq) ?_
    refine st_ J (fun _ _ _ gq kq=>mv' (gq.1.trans J) kq) ?_
    refine sg_ (φ:=ptr 7 b7 1) J J J J (List.mem_of_elem_eq_true J) (fun hgd=> ?_) ?_
    ·have hgd':=hgd
     try simp at hgd'
     exact fun _ _ _ gq kq=>fP (gq.1.trans J) T.fld105_1 kq
    refine sg_ (φ:=int ((ix (ix m.sT k) k1).2)) J J J J (List.mem_of_elem_eq_true J) (fun hgd=> ?_) ?_
    ·have hgd':=hgd
     try simp at hgd'
     exact fun _ _ _ gq kq=>lP (gq.1.trans (gif_t hgd)) J J T.one3 kq
    refine sg_ (φ:=bl (decide (((ix (ix m.sT k) k1).2)<0))) J J J J (List.mem_of_elem_eq_true J) (fun hgd=> ?_) ?_
    ·have hgd':=hgd
     try simp at hgd'
     exact fun _ _ _ gq kq=>bi (gq.1.trans (gif_t hgd)) J b_lss kq
    refine st_ J (fun _ _ _ gq kq=>pk (gq.1.trans J) (pk_or (x:= .tmp 53) (gq.1.trans J) (gq.2.1.trans J) J) kq) ?_
    refine st_ J (fun _ _ _ gq kq=>mv' (gq.1.trans J) kq) ?_
    refine sg_ (φ:=ptr 7 b7 1) J J J J (List.mem_of_elem_eq_true J) (fun hgd=> ?_) ?_
    ·have hgd':=hgd
     try simp at hgd'
     exact fun _ _ _ gq kq=>fP (gq.1.trans J) T.fld105_1 kq
    refine sg_ (φ:=int ((ix (ix m.sT k) k1).2)) J J J J (List.mem_of_elem_eq_true J) (fun hgd=> ?_) ?_
    ·have hgd':=hgd
     try simp at hgd'
     exact fun _ _ _ gq kq=>lP (gq.1.trans (gif_t hgd)) J J T.one3 kq
    refine sg_ (φ:=ptr 1 b1 1) J J J J (List.mem_of_elem_eq_true J) (fun hgd=> ?_) ?_
    ·have hgd':=hgd
     try simp at hgd'
     exact fun _ _ _ gq kq=>fP (gq.1.trans J) T.fld43_1 kq
    refine sg_ (φ:=sl 1 gE m.sT) J J J J (List.mem_of_elem_eq_true J) (fun hgd=> ?_) ?_
    ·have hgd':=hgd
     try simp at hgd'
     exact fun _ _ _ gq kq=>lP (gq.1.trans (gif_t hgd)) J J T.one41 kq
    refine sg_ (φ:=int (m.sT.length:Int)) J J J J (List.mem_of_elem_eq_true J) (fun hgd=> ?_) ?_
    ·have hgd':=hgd
     try simp at hgd'
     exact fun _ _ _ gq kq=>lnF (gq.1.trans (gif_t hgd)) T.sl41 kq
    refine sg_ (φ:=bl (decide ((m.sT.length:Int)≤((ix (ix m.sT k) k1).2)))) J J J J (List.mem_of_elem_eq_true J) (fun hgd=> ?_) ?_
    ·have hgd':=hgd
     try simp at hgd'
     exact fun _ _ _ gq kq=>bi (gq.1.trans (gif_t hgd)) (gq.2.1.trans (gif_t hgd)) b_geq kq
    refine st_ J (fun _ _ _ gq kq=>pk (gq.1.trans J) (pk_or (x:= .tmp 58) (gq.1.trans J) (gq.2.1.trans J) J) kq) ?_
    refine st_ J (fun _ _ _ gq kq=>mv' (gq.1.trans J) kq) ?_
    refine sg_ (φ:=int (k1:Int)) J J J J (List.mem_of_elem_eq_true J) (fun hgd=> ?_) ?_
    ·have hgd':=hgd
     try simp at hgd'
     exact fun _ _ _ gq kq=>mv' (gq.1.trans J) kq
    refine sg_ (φ:=bl (decide (0<(k1:Int)))) J J J J (List.mem_of_elem_eq_true J) (fun hgd=> ?_) ?_
    ·have hgd':=hgd
     try simp at hgd'
     exact fun _ _ _ gq kq=>bi (gq.1.trans (gif_t hgd)) J b_gtr kq
    refine sg_ (φ:=bl (decide (0<(k1:Int)))) J J J J (List.mem_of_elem_eq_true J) (fun hgd=> ?_) ?_
    ·have hgd':=hgd
     try simp at hgd'
     exact fun _ _ _ gq kq=>mv' (gq.1.trans (gif_t hgd)) kq
    refine sg2_ (φ:=sl 2 pE (ix m.sT k)) rfl rfl rfl rfl (List.mem_of_elem_eq_true rfl) (fun hgd hgd2=> ?_) ?_
    ·have hgd':=hgd
     try simp at hgd'
     have hgd2':=hgd2
     try simp at hgd2'
     exact fun _ _ _ gq kq=>mv' (gq.1.trans J) kq
    refine sg2_ (φ:=int (k1:Int)) rfl rfl rfl rfl (List.mem_of_elem_eq_true rfl) (fun hgd hgd2=> ?_) ?_
    ·have hgd':=hgd
     try simp at hgd'
     have hgd2':=hgd2
     try simp at hgd2'
     exact fun _ _ _ gq kq=>mv' (gq.1.trans J) kq
    refine sg2_ (φ:=int ((k1:Int)- 1)) rfl rfl rfl rfl (List.mem_of_elem_eq_true rfl) (fun hgd hgd2=> ?_) ?_
    ·have hgd':=hgd
     try simp at hgd'
     have hgd2':=hgd2
     try simp at hgd2'
     exact fun _ _ _ gq kq=>bi (gq.1.trans (gif_t2 hgd hgd2)) J (b_sub i6) kq
    refine sg2_ (φ:=fp [int ((ix (ix m.sT k) ((k1:Int)- 1).toNat).1),int ((ix (ix m.sT k) ((k1:Int)- 1).toNat).2)]) rfl rfl rfl rfl (List.mem_of_elem_eq_true rfl) (fun hgd hgd2=> ?_) ?_
    ·have hgd':=hgd
     try simp at hgd'
     have hgd2':=hgd2
     try simp at hgd2'
     exact fun _ _ _ gq kq=>iF (gq.1.trans (gif_t2 hgd hgd2)) (gq.2.1.trans (gif_t2 hgd hgd2)) T.sl103 O gB kq
    refine sg2_ (φ:=agg [int ((ix (ix m.sT k) ((k1:Int)- 1).toNat).1),int ((ix (ix m.sT k) ((k1:Int)- 1).toNat).2)]) rfl rfl rfl rfl (List.mem_of_elem_eq_true rfl) (fun hgd hgd2=> ?_) ?_
    ·have hgd':=hgd
     try simp at hgd'
     have hgd2':=hgd2
     try simp at hgd2'
     exact fun _ _ _ gq kq=>lFA (gq.1.trans (gif_t2 hgd hgd2)) T.agg105 (Nat.le_of_ble_eq_true J) kq
    refine sg2_ (φ:=agg [int ((ix (ix m.sT k) k1).1),int ((ix (ix m.sT k) k1).2)]) rfl rfl rfl rfl (List.mem_of_elem_eq_true rfl) (fun hgd hgd2=> ?_) ?_
    ·have hgd':=hgd
     try simp at hgd'
     have hgd2':=hgd2
     try simp at hgd2'
     exact fun _ _ _ gq kq=>lPA (gq.1.trans J) J T.agg105 J kq
    refine sg2_ (φ:=bl (ltP ((ix (ix m.sT k) ((k1:Int)- 1).toNat).1,(ix (ix m.sT k) ((k1:Int)- 1).toNat).2) ((ix (ix m.sT k) k1).1,(ix (ix m.sT k) k1).2))) rfl rfl rfl rfl (List.mem_of_elem_eq_true rfl) (fun hgd hgd2=> ?_) ?_
    ·have hgd':=hgd
     try simp at hgd'
     have hgd2':=hgd2
     try simp at hgd2'
     exact fun _ _ _ gq kq=>cal0 (φs:= [agg [int ((ix (ix m.sT k) ((k1:Int)- 1).toNat).1),int ((ix (ix m.sT k) ((k1:Int)- 1).toNat).2)],agg [int ((ix (ix m.sT k) k1).1),int ((ix (ix m.sT k) k1).2)]]) (φ:=bl (ltP ((ix (ix m.sT k) ((k1:Int)- 1).toNat).1,(ix (ix m.sT k) ((k1:Int)- 1).toNat).2) ((ix (ix m.sT k) k1).1,(ix (ix m.sT k) k1).2))) ⟨(gq.1.trans (gif_t2 hgd hgd2)),(gq.2.1.trans (gif_t2 hgd hgd2)),tV⟩ (divs.before_ok ((ix (ix m.sT k) ((k1:Int)- 1).toNat).1,(ix (ix m.sT k) ((k1:Int)- 1).toNat).2) ((ix (ix m.sT k) k1).1,(ix (ix m.sT k) k1).2)) T.ent79 kq
    refine sg2_ (φ:=bl (!(ltP ((ix (ix m.sT k) ((k1:Int)- 1).toNat).1,(ix (ix m.sT k) ((k1:Int)- 1).toNat).2) ((ix (ix m.sT k) k1).1,(ix (ix m.sT k) k1).2)))) rfl rfl rfl rfl (List.mem_of_elem_eq_true rfl) (fun hgd hgd2=> ?_) ?_
    ·have hgd':=hgd
     try simp at hgd'
     have hgd2':=hgd2
     try simp at hgd2'
     exact fun _ _ _ gq kq=>no (gq.1.trans (gif_t2 hgd hgd2)) kq
    refine sg_ (φ:=bl ((decide (0<(k1:Int)))&&(!(ltP ((ix (ix m.sT k) ((k1:Int)- 1).toNat).1,(ix (ix m.sT k) ((k1:Int)- 1).toNat).2) ((ix (ix m.sT k) k1).1,(ix (ix m.sT k) k1).2))))) J J J J (List.mem_of_elem_eq_true J) (fun hgd=> ?_) ?_
    ·have hgd':=hgd
     try simp at hgd'
     exact fun _ _ _ gq kq=>pk (gq.1.trans (gif_t hgd)) (pk_and (x:= .tmp 69) (gq.1.trans (gif_t hgd)) (gq.2.1.trans (gif_and hgd)) J) kq
    refine st_ J (fun _ _ _ gq kq=>pk (gq.1.trans J) (pk_or (x:= .tmp 66) (gq.1.trans J) (gq.2.1.trans J) J) kq) ?_
    refine pn (nl (th ?_))
    refine cd J (fun hc3=> ?_) (fun hc3=> ?_)
    ·skip
     simp only [Bool.or_eq_true,Bool.and_eq_true,decide_eq_true_eq] at hc3
     refine sq (rg (ag (nl (th (rt (rb (rt_ (rt_ (rb (rb (rt_ (rt_ (rb (rt_ ?_))))))))))))))
     have hr0:false=(sysOK m):=by
      unfold sysOK
      rw[all_fail (xs:=m.sT) (k:=k) O ?_];simp
      have hno:∀{p:Prop},(edgeOK m.aC.length m.sT.length (ix (ix m.sT k) k1)=true→¬p)→p→edgesOK m.aC.length m.sT.length (ix m.sT k)=false:=fun hh hp=>edges_no1 hc2 (by cases g:edgeOK m.aC.length m.sT.length (ix (ix m.sT k) k1) with|false=>rfl|true=>exact absurd hp (hh g))
      rcases hc3 with(((h|h)|h)|h)|h
      ·exact hno (fun g=>by have:=edgeOK_iff.1 g;omega) h
      ·exact hno (fun g=>by have:=edgeOK_iff.1 g;omega) h
      ·exact hno (fun g=>by have:=edgeOK_iff.1 g;omega) h
      ·exact hno (fun g=>by have:=edgeOK_iff.1 g;omega) h
      ·have h5:=h.2
       rw[show((k1:Int)- 1).toNat=k1- 1 by omega] at h5
       refine edges_no2 hc2 O ?_
       simpa using h5
     exact rE () [.tmp 2] J [bl false] ⟨.tmp J,tV⟩ (cA1 (fun x0=>rV [bl x0]) hr0) trivial eX
    ·skip
     simp only [Bool.or_eq_false_iff,Bool.and_eq_false_iff,decide_eq_false_iff_not] at hc3
     obtain⟨⟨⟨⟨h41,h42⟩,h43⟩,h44⟩,h45⟩:=hc3
     refine sk (eb (th (rg (bi J J (b_add i6) (mv (nl ?_))))))
     have hN0:(k1+1)≤(ix m.sT k).length:=by
      first|omega|simp_all
     have hN1:(∀j,j<(k1+1)→edgeOK m.aC.length m.sT.length (ix (ix m.sT k) j)=true)∧∀j,j+1<(k1+1)→ltP (ix (ix m.sT k) j) (ix (ix m.sT k) (j+1))=true:=by
      refine⟨fun j hj=> ?_,fun j hj=> ?_⟩
      ·by_cases e:j=k1
       ·subst e;exact edgeOK_iff.2 ⟨O,O,O,O⟩
       ·exact hI1.1 j O
      ·by_cases e:j+1=k1
       ·subst e
        rcases h45 with h|h
        ·exact absurd O h
        ·rw[show(((j+1:Nat):Int)- 1).toNat=j by omega] at h
         simpa using h
       ·exact hI1.2 j O
     exact ln (k1+1) ⟨hN0,hN1⟩ dO ⟨id,id,id,id,id,id,id,id,id,tV⟩ ⟨rI,tV⟩
   ·try simp at hc2
    refine ex (xt_ (xt_ (xb (eb (th (rg (bi J J (b_add i6) (mv (nl ?_)))))))))
    have hN0:(k+1)≤m.sT.length:=by
     first|omega|simp_all
    have hN1:(n+((ix m.sT k).length:Int))=(sumLen (m.sT.take (k+1)):Int)∧(m.sT.take (k+1)).all (edgesOK m.aC.length m.sT.length)=true∧(n+((ix m.sT k).length:Int))≤140737488355328*((k+1):Int):=by
     refine⟨?_,?_,O⟩
     ·rw[take_s O,sumLen_snoc];omega
     ·rw[all_take_succ O,hal,edges_of (fun j hj=>hI1.1 j O) (fun j hj=>hI1.2 j O)];rfl
    exact ln (⟨k+1,n+((ix m.sT k).length:Int)⟩:Nat × Int) ⟨hN0,hN1⟩ dO ⟨id,id,id,id,id,tV⟩ ⟨rI,tV⟩
  ·try simp at hc1
   refine ex (xt_ (xt_ (xb (th (sq (rg (mv (bi J J b_leq (ag (nl (th (rt ?_))))))))))))
   have hr0:(decide (n≤400000))=(sysOK m):=by
    have hkk:k=m.sT.length:=by omega
    rw[hkk,List.take_length] at hal hn
    unfold sysOK
    rw[hal,hc0.1.1,hn,decide_eq_true (p:=1≤m.sT.length) O,decide_eq_true (p:=m.sT.length≤5000) O]
    simp only [Bool.true_and,Bool.and_true]
    exact decide_eq_decide.2 O
   exact rE () [.tmp 2] J [bl (decide (n≤400000))] ⟨.tmp J,tV⟩ (cA1 (fun x0=>rV [bl x0]) hr0) trivial eX
end divs
end
section
namespace LevM
open ref01 ref03 ref04 ref06 Part Rungs LeftM TrimM BisM BisM5 WitM
inductive Rch (B:PP→Prop) (S:PP→PP→Prop):PP→Prop
 |zero:Rch B S (0,0)
 |step {p q:PP}:Rch B S p→¬B p→S p q→Rch B S q
def Well (B:PP→Prop) (S:PP→PP→Prop):Prop:=∀p,Rch B S p→¬B p
def Fin (B:PP→Prop) (S:PP→PP→Prop) (vis:List PP) (p:PP):Prop:=¬B p∧∀q,S p q→q∈vis
structure LI (B:PP→Prop) (S:PP→PP→Prop) (vis op:List PP):Prop where
 nd:vis.Nodup
 z:((0,0):PP)∈vis
 rch:∀p∈vis,Rch B S p
 opn:∀p∈op,p∈vis
 dn:∀p∈vis,p∈op∨Fin B S vis p
variable {B:PP→Prop} {S:PP→PP→Prop} {vis op:List PP}
theorem li_zero:LI B S [(0,0)] [(0,0)]:=
 ⟨by simp,by simp,fun p hp=>by rw[List.mem_singleton.1 hp];exact .zero,fun p hp=>hp,fun p hp=> .inl hp⟩
theorem fin_mono {v:List PP} {p:PP} (h:Fin B S vis p):Fin B S (vis++v) p:=⟨h.1,fun q hq=>List.mem_append.2 (.inl (h.2 q hq))⟩
theorem li_push (h:LI B S vis op) {q:PP} (hq:q∉vis) (hr:Rch B S q):LI B S (vis++ [q]) (op++ [q]):=by
 refine⟨?_,List.mem_append.2 (.inl h.z),fun p hp=> ?_,fun p hp=> ?_,fun p hp=> ?_⟩
 ·rw[List.nodup_append]
  refine⟨h.nd,by simp,fun a ha b hb e=> ?_⟩
  rw[List.mem_singleton.1 hb] at e
  subst e;exact hq ha
 ·rcases List.mem_append.1 hp with g|g
  ·exact h.rch p g
  ·rw[List.mem_singleton.1 g];exact hr
 ·rcases List.mem_append.1 hp with g|g
  ·exact List.mem_append.2 (.inl (h.opn p g))
  ·exact List.mem_append.2 (.inr g)
 ·rcases List.mem_append.1 hp with g|g
  ·rcases h.dn p g with g|g
   ·exact .inl (List.mem_append.2 (.inl g))
   ·exact .inr (fin_mono g)
  ·exact .inl (List.mem_append.2 (.inr g))
theorem li_pop {p:PP} (h:LI B S vis (p::op)) (hf:Fin B S vis p):LI B S vis op:=
 ⟨h.nd,h.z,h.rch,fun q hq=>h.opn q (List.mem_cons_of_mem _ hq),fun q hq=>by
   rcases h.dn q hq with g|g
   ·rcases List.mem_cons.1 g with g|g
    ·subst g;exact .inr hf
    ·exact .inl g
   ·exact .inr g⟩
theorem li_yes (h:LI B S vis []):Well B S:=fun p hp=>by
 have:p∈vis∧Fin B S vis p:=by
  induction hp with
  |zero=>exact⟨h.z,by rcases h.dn _ h.z with g|g;cases g;exact g⟩
  |step h1 h2 h3 ih=>
   have hq:=ih.2.2 _ h3
   exact⟨hq,by rcases h.dn _ hq with g|g;cases g;exact g⟩
 exact this.2.1
theorem li_no (h:LI B S vis op) {p:PP} (hp:p∈vis) (hb:B p):¬Well B S:=fun hw=>hw p (h.rch p hp) hb
theorem drop_ix {l:List PP} {k:Nat} (h:k<l.length):l.drop k=ix l k::l.drop (k+1):=by
 rw[ix_get h];exact List.drop_eq_getElem_cons h
def mat (n m:Nat) (vis:List PP):List (List Bool):=(List.range n).map fun(x:Nat)=>(List.range m).map fun(y:Nat)=>decide (((x:Int),(y:Int))∈vis)
theorem mat_zero (n m:Nat):mat n m []=List.replicate n (List.replicate m false):=by
 unfold mat
 rw[show(fun(x:Nat)=>(List.range m).map fun(y:Nat)=>decide (((x:Int),(y:Int))∈([]:List PP)))=fun _=>List.replicate m false from funext fun x=>by
  rw[show(fun(y:Nat)=>decide (((x:Int),(y:Int))∈([]:List PP)))=fun _=>false from funext fun y=>by simp]
  rw[List.map_const'];simp]
 rw[List.map_const'];simp
theorem mat_len (n m:Nat) (vis:List PP):(mat n m vis).length=n:=by simp[mat]
theorem mat_row {n m:Nat} {vis:List PP} {x:Nat} (hx:x<n):ix (mat n m vis) x=(List.range m).map fun(y:Nat)=>decide (((x:Int),(y:Int))∈vis):=ix_map_range hx
theorem mat_rowlen {n m:Nat} {vis:List PP} {x:Nat} (hx:x<n):(ix (mat n m vis) x).length=m:=by rw[mat_row hx];simp
theorem mat_ix {n m:Nat} {vis:List PP} {x y:Nat} (hx:x<n) (hy:y<m):ix (ix (mat n m vis) x) y=decide (((x:Int),(y:Int))∈vis):=by
 rw[mat_row hx];exact ix_map_range hy
theorem mat_set {n m:Nat} {vis:List PP} {x y:Nat} (hx:x<n) (hy:y<m):(mat n m vis).set x ((ix (mat n m vis) x).set y true)=mat n m (vis++ [((x:Int),(y:Int))]):=by
 rw[mat_row hx]
 refine map_upd hx ?_ (fun z _ hne=> ?_)
 ·refine(map_upd hy ?_ (fun z _ hne=> ?_)).symm
  ·simp
  ·rw[decide_eq_decide]
   constructor
   ·intro h
    rcases List.mem_append.1 h with h|h
    ·exact h
    ·have h:=List.mem_singleton.1 h
     simp only [Prod.mk.injEq] at h
     omega
   ·exact fun h=>List.mem_append.2 (.inl h)
 ·refine List.map_congr_left fun w _=> ?_
  rw[decide_eq_decide]
  constructor
  ·intro h
   rcases List.mem_append.1 h with h|h
   ·exact h
   ·have h:=List.mem_singleton.1 h
    simp only [Prod.mk.injEq] at h
    omega
  ·exact fun h=>List.mem_append.2 (.inl h)
def BadD (T t:SS) (p:PP):Prop:=∃u∈acc T p.1.toNat,u∉acc t p.2.toNat
def SucD (T t:SS) (p q:PP):Prop:=∃a:Nat,a<(nxt T p.1.toNat).length∧0≤ix (nxt T p.1.toNat) a∧q=(ix (nxt T p.1.toNat) a,ix (nxt t p.2.toNat) a)
def Used (T:SS):Prop:=∀x,x<T.sT.length→∀a,a<T.aC.length→(0≤ix (nxt T x) a↔has (orAll (acc T x)) (a:Int)=true)
def boxD (T t:SS) (p:PP):Prop:=0≤p.1∧p.1<(T.sT.length:Int)∧0≤p.2∧p.2<(t.sT.length:Int)
theorem suc_box {T t:SS} (hT:oK T) (ht:oK t) (hu:Used T) {p q:PP} (hp:boxD T t p) (hb:¬BadD T t p) (hs:SucD T t p q):boxD T t q:=by
 obtain⟨a,ha,h0,rfl⟩:=hs
 obtain⟨p0,p1,p2,p3⟩:=hp
 have hx:p.1.toNat<T.sT.length:=by omega
 have hy:p.2.toNat<t.sT.length:=by omega
 have hl:=(hT.st _ hx).len
 have ha':a<T.aC.length:=by have:(nxt T p.1.toNat).length=T.aC.length:=hl;omega
 have hg:=WalkM.acc_go hT ht hx hy (fun u hu=>Classical.byContradiction fun hn=>hb ⟨u,hu,hn⟩) ((hu _ hx a ha').1 h0)
 have hn:=((hT.st _ hx).nx a ha').2
 exact⟨h0,hn,hg.2.1,hg.2.2⟩
theorem rch_box {T t:SS} (hT:oK T) (ht:oK t) (hu:Used T) {p:PP} (h:Rch (BadD T t) (SucD T t) p):boxD T t p:=by
 induction h with
 |zero=>exact⟨by simp,by have:=hT.few0;show(0:Int)<_;omega,by simp,by have:=ht.few0;show(0:Int)<_;omega⟩
 |step h1 h2 h3 ih=>exact suc_box hT ht hu ih h2 h3
theorem well_ref {T t:SS} (hT:oK T) (ht:oK t) (hu:Used T):Well (BadD T t) (SucD T t)↔∃R,Ref T t R∧R 0 0:=by
 constructor
 ·intro hw
  refine⟨fun x y=>Rch (BadD T t) (SucD T t) ((x:Int),(y:Int)),⟨fun {x y} h=> ?_,fun {x y} h u hu'=> ?_,fun {x y} h a ha=> ?_⟩,.zero⟩
  ·obtain⟨_,h1,_,h2⟩:=rch_box hT ht hu h
   dsimp only at h1 h2
   omega
  ·refine Classical.byContradiction fun hn=>hw _ h ⟨u,hu',hn⟩
  ·have hb:=rch_box hT ht hu h
   have hx:x<T.sT.length:=by have:=hb.2.1;dsimp only at this;omega
   have hg:=WalkM.or_go hT hx ha
   have hs:SucD T t ((x:Int),(y:Int)) (ix (nxt T x) a,ix (nxt t y) a):=⟨a,by have:(nxt T x).length=T.aC.length:=(hT.st _ hx).len;show a<(nxt T x).length;omega,hg.2.1,rfl⟩
   have hr:=Rch.step h (hw _ h) hs
   have hq:=rch_box hT ht hu hr
   rw[Int.toNat_of_nonneg hg.2.1,Int.toNat_of_nonneg hq.2.2.1]
   exact hr
 ·rintro⟨R,hR,h0⟩ p hp
  have:boxD T t p∧R p.1.toNat p.2.toNat:=by
   induction hp with
   |zero=>exact⟨rch_box hT ht hu .zero,h0⟩
   |step h1 h2 h3 ih=>
    refine⟨suc_box hT ht hu ih.1 h2 h3,?_⟩
    obtain⟨a,ha,g0,rfl⟩:=h3
    have hx:_<T.sT.length:=(hR.bd ih.2).1
    have hl:(nxt T _).length=T.aC.length:=(hT.st _ hx).len
    have ha':a<T.aC.length:=by rw[←hl];exact ha
    exact hR.nxt ih.2 a ((hu _ hx a ha').1 g0)
  rintro⟨u,hu',hn⟩
  exact hn (hR.acc this.2 u hu')
end LevM
end
section
open ref01 ref03 ref04 ref06 prog prog2 prog3 prog6 prog13 Part Rungs LeftM TrimM RoundM MergeM BisM BisM4 BisM5 WalkM StepM WitM JudgM refw judg wit sysw divr divs LevM
theorem trim_ok {s:SS} (hs:oK s):oK (tR s).1:=by
 cases h:ix (hOl s) 0 with
 |true=>rw[trimmed_hol h];exact nothing_ok hs.acts
 |false=>rw[trimmed_not h];exact tS_ok hs
theorem trim_acts (s:SS):(tR s).1.aC=s.aC:=by
 cases h:ix (hOl s) 0 with
 |true=>rw[trimmed_hol h];rfl
 |false=>rw[trimmed_not h]
theorem trim_used {s:SS} (hs:oK s):Used (tR s).1:=by
 cases h:ix (hOl s) 0 with
 |true=>
  rw[trimmed_hol h]
  intro x hx a ha
  have hx:x=0:=by have hx:x<1:=hx;omega
  subst hx
  have ha:a<s.aC.length:=ha
  have e:ix (nxt (nothing s.aC) 0) a= -1:=by
   show ix (List.replicate s.aC.length (-1)) a= -1
   rw[ix_get (by simpa using ha)];simp
  rw[e]
  constructor
  ·intro h;omega
  ·intro h
   have h:has (orAll []) (a:Int)=true:=h
   rw[has_zero] at h;cases h
 |false=>
  rw[trimmed_not h]
  intro x hx a ha
  have hx:x<(ordS s).length:=by simpa using hx
  have ha:a<s.aC.length:=ha
  have e1:ix (nxt (tS s) x) a=_:=tS_nx hx ha
  have e2:acc (tS s) x=_:=tS_acc hx
  show 0≤ix (nxt (tS s) x) a↔has (orAll (acc (tS s) x)) (a:Int)=true
  rw[e1,e2]
  by_cases g:has (orAll (keep s (ix (ordS s) x).toNat)) (a:Int)=true
  ·rw[if_pos g];exact⟨fun _=>g,fun _=>(posN_bd _ _).1⟩
  ·rw[if_neg g];exact⟨fun h=>absurd h (by decide),fun h=>absurd h g⟩
theorem trim_refp {s t:SS} (hs:oK s) (ht:oK t):Well (BadD (tR s).1 t) (SucD (tR s).1 t)↔RefP s t:=by
 unfold RefP
 cases h:ix (hOl s) 0 with
 |true=>
  refine⟨fun _=> .inl rfl,fun _=> ?_⟩
  have hx:∀p,¬BadD (tR s).1 t p:=by
   rintro p ⟨u,hu,_⟩
   rw[trimmed_hol h] at hu
   have:p.1.toNat<1:=BisM6.acc_in hu
   have e:p.1.toNat=0:=by omega
   rw[e] at hu;cases hu
  exact fun p _=>hx p
 |false=>
  rw[well_ref (trim_ok hs) ht (trim_used hs),trimmed_not h]
  simp
theorem set_rep {α:Type} (a b:α) {n k:Nat} (h:k<n):(List.replicate k a++List.replicate (n- k) b).set k a=List.replicate (k+1) a++List.replicate (n- (k+1)) b:=by
 rw[List.set_append_right _ _ (by simp),List.length_replicate,Nat.sub_self,show n- k=(n- (k+1))+1 by omega,List.replicate_succ,List.set_cons_zero,List.replicate_succ',List.append_assoc]
 rfl
theorem parts_bad {T t:SS} {p:Int × Int}:partsB (ix T.sT p.1.toNat) (ix t.sT p.2.toNat)=true↔BadD T t p:=by
 unfold partsB BadD
 rw[List.any_eq_true]
 simp
namespace T
theorem ent226:Ent Tryz.prog 226:=ent_of kR
end T
namespace divd
theorem Depth_ok (s t:SS) (hs:oK s) (ht:oK t):
 AL.Fn Tryz.prog 192 [spec s,spec t] [] (ι:= { d:Int//d<0↔RefP s t }) (fun _ i=>int i.1) (fun _=> []):=by
 refine fnI Tryz.func192 rfl rfl (fun w0 F0=> ?_)
 have hT:=trim_ok hs;have hU:=trim_used hs;have hT0:=hT.few0;have hT1:=hT.few1;have ht0:=ht.few0;have ht1:=ht.few1;have hn8:=hT.n8;have hm8:=ht.n8
 have hmm:(tR s).1.sT.length*t.sT.length≤10000*10000:=Nat.mul_le_mul hT1 ht1
 refine fcC (inhS 0 J) (fun hS0=> ?_)
 obtain⟨hsa0,hss0,hse0⟩:=sLn hS0
 refine fcC (inhS 1 J) (fun hS1=> ?_)
 obtain⟨hsa1,hss1,hse1⟩:=sLn hS1
 refine sq (rg (bx (key:=2) (cs:= [sl 1 rE_ s.aC,sl 2 sE s.sT]) J fun b2=>(bx (key:=3) (cs:= [sl 1 rE_ t.aC,sl 2 sE t.sT]) J fun b3=>(ag (nl (th (sq (rg (lPA J J T.agg25 J (cal0 (φs:= [agg [sl 1 rE_ s.aC,sl 2 sE s.sT]]) (φ:=tup [agg [sl 1 rE_ ((tR s).1).aC,sl 2 sE ((tR s).1).sT],sl 1 nE ((tR s).2)]) ⟨J,tV⟩ (divr.Trim_ok s aS) T.ent55 (mv (xt J J (xt J J (sPA (cs':= [sl 1 rE_ ((tR s).1).aC,sl 2 sE ((tR s).1).sT]) J J J T.agg25 J J (nl (th (sq (rg (fP J T.fld25_1 (lP J J J T.one23 (fc (slenI 21 J) fun hm21=>(lnF J T.sl23 (mk (key:=23) (m:=((tR s).1).sT.length) (enc:=eqvE) (y:=(.slice none 0 0:Value)) J J T.mk206 (eC eZ) mL mL fun v23=>(ag (nl (th (sq (sq (rg (nbB 231 ((tR s).1.sT.length) 4 1 blE (mv (lnO J J T.sl206 (mv (nl (th (bk ?_))))))))))))))))))))))))))))))))))))
 have hI0_0:0≤(List.replicate ((tR s).1).sT.length (.slice none 0 0:Value)).length:=by
  first|omega|simp
 have hI0_1:(List.replicate ((tR s).1).sT.length (.slice none 0 0:Value)).length=(tR s).1.sT.length∧(List.replicate ((tR s).1.sT.length) [])=List.replicate 0 (List.replicate t.sT.length false)++List.replicate ((tR s).1.sT.length- 0) []:=by
  exact⟨by simp,by simp⟩
 refine lp (κ:=Nat × (List Value) × (List (List Bool))) (fun p=> [(2,ptr 2 b2 0),(3,ptr 3 b3 0),(4,int 0),(5,osl 23 v23),(25,int ((List.replicate ((tR s).1).sT.length (.slice none 0 0:Value)).length:Int)),(26,int (p.1:Int))]) (fun p=> [(2,cell b2 [sl 1 rE_ ((tR s).1).aC,sl 2 sE ((tR s).1).sT]),(3,cell b3 [sl 1 rE_ t.aC,sl 2 sE t.sT]),(23,own v23 143 1 eqvE p.2.1),(231,bigown p.2.1 4 1 blE p.2.2 none)]) (fun p=>(p.1≤(List.replicate ((tR s).1).sT.length (.slice none 0 0:Value)).length)∧(p.2.1.length=(tR s).1.sT.length∧p.2.2=List.replicate p.1 (List.replicate t.sT.length false)++List.replicate ((tR s).1.sT.length- p.1) [])) (fun p=>(List.replicate ((tR s).1).sT.length (.slice none 0 0:Value)).length- p.1) ⟨0,List.replicate ((tR s).1).sT.length (.slice none 0 0:Value),List.replicate ((tR s).1.sT.length) []⟩ ⟨hI0_0,hI0_1⟩ ⟨id,id,id,id,id,id,tV⟩ ⟨rI,rI,rI,rI,tV⟩ ?_
 intro⟨k,us,mt⟩ hG0
 obtain⟨hk0,⟨hul,hmt⟩⟩:(k≤(List.replicate ((tR s).1).sT.length (.slice none 0 0:Value)).length)∧(us.length=(tR s).1.sT.length∧mt=List.replicate k (List.replicate t.sT.length false)++List.replicate ((tR s).1.sT.length- k) []):=hG0
 show Ct _ _ _ _ [(2,ptr 2 b2 0),(3,ptr 3 b3 0),(4,int 0),(5,osl 23 v23),(25,int ((List.replicate ((tR s).1).sT.length (.slice none 0 0:Value)).length:Int)),(26,int (k:Int))] [(2,cell b2 [sl 1 rE_ ((tR s).1).aC,sl 2 sE ((tR s).1).sT]),(3,cell b3 [sl 1 rE_ t.aC,sl 2 sE t.sT]),(23,own v23 143 1 eqvE us),(231,bigown us 4 1 blE mt none)] _
 have hml:mt.length=(tR s).1.sT.length:=by rw[hmt];simp;omega
 refine sq (rg (bi J J b_lss (nl (th (sq ?_)))))
 refine cd J (fun hc0=> ?_) (fun hc0=> ?_)
 ·try simp at hc0
  refine sk (th (sq (bk (sq (rg (mv (ag (nl (th (tkBC 231 2399 k J J (by decide) (gK O) (gK O) (rg (mv (mv (fP J T.fld25_1 (lP J J J T.one23 (fc (slenI 32 J) fun hm32=>(lnF J T.sl23 (mk (key:=34) (m:=t.sT.length) (enc:=blE) (y:=false) J J T.mk143 (eC eZ) mL mL fun v34=>(iO J J J T.sl206 O O (sOO (k2:=34) J J osl_is J T.one143 gB J (y':=v34) J (nl (eb (th (rg (gvB (us:=us) 231 34 k J J (by decide) O (bi J J (b_add i6) (mv (nl ?_))))))))))))))))))))))))))))
  have hN0:(k+1)≤(List.replicate ((tR s).1).sT.length (.slice none 0 0:Value)).length:=by
   first|omega|simp_all
  have hN1:(us.set k v34).length=(tR s).1.sT.length∧(mt.set k (List.replicate t.sT.length false))=List.replicate (k+1) (List.replicate t.sT.length false)++List.replicate ((tR s).1.sT.length- (k+1)) []:=by
   refine⟨by simpa using hul,?_⟩
   rw[hmt];exact set_rep _ _ hc0
  exact ln (⟨k+1,us.set k v34,mt.set k (List.replicate t.sT.length false)⟩:Nat × (List Value) × (List (List Bool))) ⟨hN0,hN1⟩ dO ⟨id,id,id,id,id,id,tV⟩ ⟨rI,rI,rI,rI,tV⟩
 ·try simp at hc0
  have hmz:mt=mat (tR s).1.sT.length t.sT.length []:=by rw[hmt,show k=(tR s).1.sT.length by omega,Nat.sub_self,mat_zero];simp
  have hr0:(ix mt 0).length=t.sT.length:=by rw[hmz];exact mat_rowlen O
  refine ex (xt_ (xt_ (xb (th (sq (rg (mv (iO J J J T.sl206 O O (lO J J gB J T.one143 (tkB 231 2310 0 J J (by decide) (gK (k:=0) O) (gK (k:=0) O) (kn 39 (osl 2310 (ix us 0)) J eq_osl (iO J J J T.sl143 O O (sO (φ:=bl true) J J J T.one4 gB J (y':=true) J (nl (th (sq (rg (gvU 231 2310 0 J J (by decide) (gK (k:=0) O) (bd (css:= [(0,_),(1,_)]) T.st84 (eC (eC eZ)) ⟨J,J,p1 (φ:=int 0) J,⟨J,J,p1 (φ:=int 0) J,tV⟩⟩ (bsE (enc:=pE) (xs:= [(0,0)]) (css:= [[int 0,int 0]]) T.mk67 ⟨J,J,pA (cs:= [int 0,int 0]) J,tV⟩ J J J J (ag (nl (th (sq (sq (rg (ag (nl (th (bk ?_))))))))))))))))))))))))))))))
  have hI1_0:(mt.set 0 ((ix mt 0).set 0 true))=mat (tR s).1.sT.length t.sT.length ([(0,0)]:List (Int × Int))∧LI (BadD (tR s).1 t) (SucD (tR s).1 t) ([(0,0)]:List (Int × Int)) ([(0,0)]:List (Int × Int))∧0≤(0:Int)∧(0:Int)+((min ([(0,0)]:List (Int × Int)).length 1:Nat):Int)≤(([(0,0)]:List (Int × Int)).length:Int):=by
   refine⟨?_,li_zero,O,by simp⟩
   rw[hmz]
   exact mat_set (vis:= []) (x:=0) (y:=0) O O
  refine lp (κ:=(List (List Bool)) × (List (Int × Int)) × (List (Int × Int)) × Int) (fun p=> [(2,ptr 2 b2 0),(3,ptr 3 b3 0),(5,osl 23 v23),(7,sl 2 pE p.2.2.1),(8,int p.2.2.2)]) (fun p=> [(2,cell b2 [sl 1 rE_ ((tR s).1).aC,sl 2 sE ((tR s).1).sT]),(3,cell b3 [sl 1 rE_ t.aC,sl 2 sE t.sT]),(23,own v23 143 1 eqvE us),(231,bigown us 4 1 blE p.1 none)]) (fun p=>p.1=mat (tR s).1.sT.length t.sT.length p.2.1∧LI (BadD (tR s).1 t) (SucD (tR s).1 t) p.2.1 p.2.2.1∧0≤p.2.2.2∧p.2.2.2+((min p.2.2.1.length 1:Nat):Int)≤(p.2.1.length:Int)) (fun p=>(tR s).1.sT.length*t.sT.length- p.2.1.length+min p.2.2.1.length 1) ⟨mt.set 0 ((ix mt 0).set 0 true),([(0,0)]:List (Int × Int)),([(0,0)]:List (Int × Int)),(0:Int)⟩ hI1_0 ⟨id,id,id,id,id,tV⟩ ⟨rI,rI,rI,rI,tV⟩ ?_
  intro⟨mt1,vis,now,dp⟩ hG1
  obtain⟨hmt1,hLI,hd0,hdp⟩:mt1=mat (tR s).1.sT.length t.sT.length vis∧LI (BadD (tR s).1 t) (SucD (tR s).1 t) vis now∧0≤dp∧dp+((min now.length 1:Nat):Int)≤(vis.length:Int):=hG1
  show Ct _ _ _ _ [(2,ptr 2 b2 0),(3,ptr 3 b3 0),(5,osl 23 v23),(7,sl 2 pE now),(8,int dp)] [(2,cell b2 [sl 1 rE_ ((tR s).1).aC,sl 2 sE ((tR s).1).sT]),(3,cell b3 [sl 1 rE_ t.aC,sl 2 sE t.sT]),(23,own v23 143 1 eqvE us),(231,bigown us 4 1 blE mt1 none)] _
  have hv1:=nodup_pairs (tR s).1.sT.length t.sT.length vis hLI.nd (fun p hp=>rch_box hT ht hU (hLI.rch p hp))
  have hml1:mt1.length=(tR s).1.sT.length:=by rw[hmt1];exact mat_len _ _ _
  refine sq (sq (rg (mv (fc (slenI 43 J) fun hm43=>(lnF J T.sl67 (bi J J b_gtr (nl (th ?_))))))))
  refine cd J (fun hc1=> ?_) (fun hc1=> ?_)
  ·try simp at hc1
   refine sk (th (sq (bk (sq (rg (nw 9 84 2 pE (ag (rtg (key:=9) 9 J (nl (th (sq (sq (rg (mv (lnF J T.sl67 (mv (nl (th (bk ?_)))))))))))))))))))
   have hI2_0:0≤now.length:=by
    first|omega|simp
   have hI2_1:mt1=mat (tR s).1.sT.length t.sT.length vis∧LI (BadD (tR s).1 t) (SucD (tR s).1 t) vis (now.drop 0++([]:List (Int × Int)))∧vis.length=vis.length+([]:List (Int × Int)).length:=by
    exact⟨hmt1,by simpa using hLI,rfl⟩
   refine lp (κ:=Nat × (List (List Bool)) × Value × (List (Int × Int)) × (List (Int × Int))) (fun p=> [(2,ptr 2 b2 0),(3,ptr 3 b3 0),(5,osl 23 v23),(7,sl 2 pE now),(8,int dp),(9,osl 9 p.2.2.1),(48,sl 2 pE now),(49,int (now.length:Int)),(50,int (p.1:Int))]) (fun p=> [(2,cell b2 [sl 1 rE_ ((tR s).1).aC,sl 2 sE ((tR s).1).sT]),(3,cell b3 [sl 1 rE_ t.aC,sl 2 sE t.sT]),(9,own p.2.2.1 84 2 pE p.2.2.2.1),(23,own v23 143 1 eqvE us),(231,bigown us 4 1 blE p.2.1 none)]) (fun p=>(p.1≤now.length)∧(p.2.1=mat (tR s).1.sT.length t.sT.length p.2.2.2.2∧LI (BadD (tR s).1 t) (SucD (tR s).1 t) p.2.2.2.2 (now.drop p.1++p.2.2.2.1)∧p.2.2.2.2.length=vis.length+p.2.2.2.1.length)) (fun p=>now.length- p.1) ⟨0,mt1,(.slice none 0 0),([]:List (Int × Int)),vis⟩ ⟨hI2_0,hI2_1⟩ ⟨id,id,id,id,id,id,id,id,id,tV⟩ ⟨rI,rI,rI,rI,rI,tV⟩ ?_
   intro⟨k2,mt2,v9x,nx,vis2⟩ hG2
   obtain⟨hk2,⟨hmt2,hLI2,hvl2⟩⟩:(k2≤now.length)∧(mt2=mat (tR s).1.sT.length t.sT.length vis2∧LI (BadD (tR s).1 t) (SucD (tR s).1 t) vis2 (now.drop k2++nx)∧vis2.length=vis.length+nx.length):=hG2
   show Ct _ _ _ _ [(2,ptr 2 b2 0),(3,ptr 3 b3 0),(5,osl 23 v23),(7,sl 2 pE now),(8,int dp),(9,osl 9 v9x),(48,sl 2 pE now),(49,int (now.length:Int)),(50,int (k2:Int))] [(2,cell b2 [sl 1 rE_ ((tR s).1).aC,sl 2 sE ((tR s).1).sT]),(3,cell b3 [sl 1 rE_ t.aC,sl 2 sE t.sT]),(9,own v9x 84 2 pE nx),(23,own v23 143 1 eqvE us),(231,bigown us 4 1 blE mt2 none)] _
   have hv2:=nodup_pairs (tR s).1.sT.length t.sT.length vis2 hLI2.nd (fun p hp=>rch_box hT ht hU (hLI2.rch p hp))
   have hml2:mt2.length=(tR s).1.sT.length:=by rw[hmt2];exact mat_len _ _ _
   refine sq (rg (bi J J b_lss (nl (th (sq ?_)))))
   refine cd J (fun hc2=> ?_) (fun hc2=> ?_)
   ·try simp at hc2
    have hpv:ix now k2∈vis2:=hLI2.opn _ (List.mem_append.2 (.inl (by rw[drop_ix O];exact List.mem_cons_self)))
    have hpr:=hLI2.rch _ hpv
    obtain⟨hp0,hp1,hp2,hp3⟩:=rch_box hT ht hU hpr
    have hxl:=(hT.st (ix now k2).1.toNat O).len
    have hyl:=(ht.st (ix now k2).2.toNat O).len
    refine sk (th (sq (bk (sq (rg (iF J J T.sl67 O gB (lFA J T.agg84 (Nat.le_of_ble_eq_true J) (al (key:=11) T.z84 (eC (eC eZ)) fun b11=>(sPA (cs':= [int ((ix now k2).1),int ((ix now k2).2)]) J J J T.agg84 J J (nl (th (sq (sq (dr (nh:=13) [0,1,0,4,15,31,0,64,0,256,960,1984,4095] T.mixed kR ?_))))))))))))))
    refine st_ J (fun _ _ _ gq kq=>fP (gq.1.trans J) T.fld25_1 kq) ?_
    refine st_ J (fun _ _ _ gq kq=>lP (gq.1.trans J) J J T.one23 kq) ?_
    refine st_ J (fun _ _ _ gq kq=>iPA (gq.1.trans J) J T.arr84 T.one3 J kq) ?_
    refine st_ J (fun _ _ _ gq kq=>lP (gq.1.trans J) J J T.one3 kq) ?_
    refine st_ J (fun _ _ _ gq kq=>iF (gq.1.trans J) (gq.2.1.trans J) T.sl23 O gB kq) ?_
    refine st_ J (fun _ _ _ gq kq=>lFA (gq.1.trans J) T.agg81 (Nat.le_of_ble_eq_true J) kq) ?_
    refine st_ J (fun _ _ _ gq kq=>fP (gq.1.trans J) T.fld25_1 kq) ?_
    refine st_ J (fun _ _ _ gq kq=>lP (gq.1.trans J) J J T.one23 kq) ?_
    refine st_ J (fun _ _ _ gq kq=>iPA (gq.1.trans J) J T.arr84 T.one3 J kq) ?_
    refine st_ J (fun _ _ _ gq kq=>lP (gq.1.trans J) J J T.one3 kq) ?_
    refine st_ J (fun _ _ _ gq kq=>iF (gq.1.trans J) (gq.2.1.trans J) T.sl23 O gB kq) ?_
    refine st_ J (fun _ _ _ gq kq=>lFA (gq.1.trans J) T.agg81 (Nat.le_of_ble_eq_true J) kq) ?_
    refine st_ J (fun _ _ _ gq kq=>cal0 (φs:= [agg [sl 1 nE (ix ((tR s).1).sT ((ix now k2).1).toNat).aP,sl 1 nE (ix ((tR s).1).sT ((ix now k2).1).toNat).next],agg [sl 1 nE (ix t.sT ((ix now k2).2).toNat).aP,sl 1 nE (ix t.sT ((ix now k2).2).toNat).next]]) (φ:=bl (partsB (ix ((tR s).1).sT ((ix now k2).1).toNat) (ix t.sT ((ix now k2).2).toNat))) ⟨(gq.1.trans J),(gq.2.1.trans J),tV⟩ (divs.parts_ok (ix ((tR s).1).sT ((ix now k2).1).toNat) (ix t.sT ((ix now k2).2).toNat)) T.ent226 kq) ?_
    refine pn (nl (th ?_))
    refine cd J (fun hc3=> ?_) (fun hc3=> ?_)
    ·try simp at hc3
     refine sq (rg (mv (ag (nl (th (rt (rt_ (rb (rt_ (rt_ (rb (rt_ (rb (rt_ (rt_ (rb (rt_ ?_)))))))))))))))))
     exact rE ⟨dp,⟨fun h=>absurd h O,fun h=>absurd ((trim_refp hs ht).2 h) (li_no hLI2 hpv (parts_bad.1 hc3))⟩⟩ [.tmp 4] J [int dp] ⟨.tmp J,tV⟩ J trivial eX
    ·try simp at hc3
     have hnb:¬BadD (tR s).1 t (ix now k2):=fun h=>by have h2:=parts_bad.2 h;exact absurd h2 (by rw[hc3];decide)
     refine sk (th (sq (rg (fP J T.fld25_1 (lP J J J T.one23 (iPA J J T.arr84 T.one3 J (lP J J J T.one3 (iF J J T.sl23 O gB (fF J T.fld81_1 (lF J J T.one36 (fc (slenI 74 J) fun hm74=>(lnF J T.sl36 (mv (nl (th (bk ?_))))))))))))))))
     have hI3_0:0≤(ix ((tR s).1).sT ((ix now k2).1).toNat).next.length:=by
      first|omega|simp
     have hI3_1:mt2=mat (tR s).1.sT.length t.sT.length vis2∧LI (BadD (tR s).1 t) (SucD (tR s).1 t) vis2 (now.drop k2++nx)∧vis2.length=vis.length+nx.length∧∀a,a<0→0≤ix (ix (tR s).1.sT (ix now k2).1.toNat).next a→(ix (ix (tR s).1.sT (ix now k2).1.toNat).next a,ix (ix t.sT (ix now k2).2.toNat).next a)∈vis2:=by
      exact⟨hmt2,hLI2,hvl2,fun a ha=>absurd ha O⟩
     refine lp (κ:=Nat × (List (List Bool)) × Value × (List (Int × Int)) × (List (Int × Int))) (fun p=> [(2,ptr 2 b2 0),(3,ptr 3 b3 0),(5,osl 23 v23),(7,sl 2 pE now),(8,int dp),(9,osl 9 p.2.2.1),(11,ptr 11 b11 0),(48,sl 2 pE now),(49,int (now.length:Int)),(50,int (k2:Int)),(74,sl 1 nE (ix ((tR s).1).sT ((ix now k2).1).toNat).next),(75,int ((ix ((tR s).1).sT ((ix now k2).1).toNat).next.length:Int)),(76,int (p.1:Int))]) (fun p=> [(2,cell b2 [sl 1 rE_ ((tR s).1).aC,sl 2 sE ((tR s).1).sT]),(3,cell b3 [sl 1 rE_ t.aC,sl 2 sE t.sT]),(9,own p.2.2.1 84 2 pE p.2.2.2.1),(11,cell b11 [int ((ix now k2).1),int ((ix now k2).2)]),(23,own v23 143 1 eqvE us),(231,bigown us 4 1 blE p.2.1 none)]) (fun p=>(p.1≤(ix ((tR s).1).sT ((ix now k2).1).toNat).next.length)∧(p.2.1=mat (tR s).1.sT.length t.sT.length p.2.2.2.2∧LI (BadD (tR s).1 t) (SucD (tR s).1 t) p.2.2.2.2 (now.drop k2++p.2.2.2.1)∧p.2.2.2.2.length=vis.length+p.2.2.2.1.length∧∀a,a<p.1→0≤ix (ix (tR s).1.sT (ix now k2).1.toNat).next a→(ix (ix (tR s).1.sT (ix now k2).1.toNat).next a,ix (ix t.sT (ix now k2).2.toNat).next a)∈p.2.2.2.2)) (fun p=>(ix ((tR s).1).sT ((ix now k2).1).toNat).next.length- p.1) ⟨0,mt2,v9x,nx,vis2⟩ ⟨hI3_0,hI3_1⟩ ⟨id,id,id,id,id,id,id,id,id,id,id,id,id,tV⟩ ⟨rI,rI,rI,rI,rI,rI,tV⟩ ?_
     intro⟨k3,mt3,v9y,nx3,vis3⟩ hG3
     obtain⟨hk3,⟨hmt3,hLI3,hvl3,hdn⟩⟩:(k3≤(ix ((tR s).1).sT ((ix now k2).1).toNat).next.length)∧(mt3=mat (tR s).1.sT.length t.sT.length vis3∧LI (BadD (tR s).1 t) (SucD (tR s).1 t) vis3 (now.drop k2++nx3)∧vis3.length=vis.length+nx3.length∧∀a,a<k3→0≤ix (ix (tR s).1.sT (ix now k2).1.toNat).next a→(ix (ix (tR s).1.sT (ix now k2).1.toNat).next a,ix (ix t.sT (ix now k2).2.toNat).next a)∈vis3):=hG3
     show Ct _ _ _ _ [(2,ptr 2 b2 0),(3,ptr 3 b3 0),(5,osl 23 v23),(7,sl 2 pE now),(8,int dp),(9,osl 9 v9y),(11,ptr 11 b11 0),(48,sl 2 pE now),(49,int (now.length:Int)),(50,int (k2:Int)),(74,sl 1 nE (ix ((tR s).1).sT ((ix now k2).1).toNat).next),(75,int ((ix ((tR s).1).sT ((ix now k2).1).toNat).next.length:Int)),(76,int (k3:Int))] [(2,cell b2 [sl 1 rE_ ((tR s).1).aC,sl 2 sE ((tR s).1).sT]),(3,cell b3 [sl 1 rE_ t.aC,sl 2 sE t.sT]),(9,own v9y 84 2 pE nx3),(11,cell b11 [int ((ix now k2).1),int ((ix now k2).2)]),(23,own v23 143 1 eqvE us),(231,bigown us 4 1 blE mt3 none)] _
     have hv3:=nodup_pairs (tR s).1.sT.length t.sT.length vis3 hLI3.nd (fun p hp=>rch_box hT ht hU (hLI3.rch p hp))
     have hml3:mt3.length=(tR s).1.sT.length:=by rw[hmt3];exact mat_len _ _ _
     refine sq (rg (bi J J b_lss (nl (th (sq ?_)))))
     refine cd J (fun hc4=> ?_) (fun hc4=> ?_)
     ·try simp at hc4
      refine sk (th (sq (bk (sq (rg (mv (iF J J T.sl36 O gB (lF J J T.one3 (ag (ag (nl (th (sq (sq (rg (mv (bi J J b_lss (nl (th ?_)))))))))))))))))))
      refine cd J (fun hc5=> ?_) (fun hc5=> ?_)
      ·try simp at hc5
       refine ex (xt_ (xb (th (rg (bi J J (b_add i6) (mv (nl ?_)))))))
       have hN0:(k3+1)≤(ix ((tR s).1).sT ((ix now k2).1).toNat).next.length:=by
        first|omega|simp_all
       have hN1:mt3=mat (tR s).1.sT.length t.sT.length vis3∧LI (BadD (tR s).1 t) (SucD (tR s).1 t) vis3 (now.drop k2++nx3)∧vis3.length=vis.length+nx3.length∧∀a,a<(k3+1)→0≤ix (ix (tR s).1.sT (ix now k2).1.toNat).next a→(ix (ix (tR s).1.sT (ix now k2).1.toNat).next a,ix (ix t.sT (ix now k2).2.toNat).next a)∈vis3:=by
        refine⟨hmt3,hLI3,hvl3,fun a ha h0=> ?_⟩
        by_cases e:a=k3
        ·subst e;omega
        ·exact hdn a O h0
       exact ln (⟨k3+1,mt3,v9y,nx3,vis3⟩:Nat × (List (List Bool)) × Value × (List (Int × Int)) × (List (Int × Int))) ⟨hN0,hN1⟩ dO ⟨id,id,id,id,id,id,id,id,id,id,id,id,id,tV⟩ ⟨rI,rI,rI,rI,rI,rI,tV⟩
      ·try simp at hc5
       have hka:k3<(tR s).1.aC.length:=by omega
       have hga:=WalkM.acc_go hT ht (x:=(ix now k2).1.toNat) (y:=(ix now k2).2.toNat) O O (fun u hu=>Classical.byContradiction fun hn=>hnb ⟨u,hu,hn⟩) ((hU _ O k3 hka).1 (by dsimp only [nxt];omega))
       obtain⟨hga1,hga2,hga3⟩:=hga
       dsimp only [nxt] at hga2 hga3
       have hrq:Rch (BadD (tR s).1 t) (SucD (tR s).1 t) (ix (ix (tR s).1.sT (ix now k2).1.toNat).next k3,ix (ix t.sT (ix now k2).2.toNat).next k3):=Rch.step hpr hnb ⟨k3,by dsimp only [nxt];omega,by dsimp only [nxt];omega,rfl⟩
       have hqn:=((hT.st (ix now k2).1.toNat O).nx k3 hka).2
       have hrl:(ix mt3 (ix (ix (tR s).1.sT (ix now k2).1.toNat).next k3).toNat).length=t.sT.length:=by rw[hmt3];exact mat_rowlen O
       have hmq:ix (ix mt3 (ix (ix (tR s).1.sT (ix now k2).1.toNat).next k3).toNat) (ix (ix t.sT (ix now k2).2.toNat).next k3).toNat=decide ((ix (ix (tR s).1.sT (ix now k2).1.toNat).next k3,ix (ix t.sT (ix now k2).2.toNat).next k3)∈vis3):=by
        rw[hmt3,mat_ix O O,Int.toNat_of_nonneg O,Int.toNat_of_nonneg O]
       refine sk (th (sq (rg (mv (fP J T.fld25_1 (lP J J J T.one23 (iPA J J T.arr84 T.one3 J (lP J J J T.one3 (iF J J T.sl23 O gB (fF J T.fld81_1 (lF J J T.one36 (mv (iF J J T.sl36 O gB (lF J J T.one3 (bd (css:= [(0,_),(1,_)]) T.st84 (eC (eC eZ)) ⟨J,J,p1 (φ:=int (ix (ix ((tR s).1).sT ((ix now k2).1).toNat).next k3)) J,⟨J,J,p1 (φ:=int (ix (ix t.sT ((ix now k2).2).toNat).next k3)) J,tV⟩⟩ (al (key:=14) T.z84 (eC (eC eZ)) fun b14=>(sPA (cs':= [int (ix (ix ((tR s).1).sT ((ix now k2).1).toNat).next k3),int (ix (ix t.sT ((ix now k2).2).toNat).next k3)]) J J J T.agg84 J J (nl (th (sq (tkBC 231 2310 (ix (ix (tR s).1.sT (ix now k2).1.toNat).next k3).toNat J J (by decide) (gK O) (gK O) (dr (nh:=10) [0,0,2,7,15,0,32,127,255,511] T.mixed kR ?_))))))))))))))))))))))
       refine st_ J (fun _ _ _ gq kq=>mv' (gq.1.trans J) kq) ?_
       refine st_ J (fun _ _ _ gq kq=>iPA (gq.1.trans J) J T.arr84 T.one3 J kq) ?_
       refine st_ J (fun _ _ _ gq kq=>lP (gq.1.trans J) J J T.one3 kq) ?_
       refine st_ J (fun _ _ _ gq kq=>iO (gq.1.trans J) J (gq.2.1.trans J) T.sl206 O O kq) ?_
       refine st_ J (fun _ _ _ gq kq=>lO (gq.1.trans J) J gB J T.one143 kq) ?_
       refine st_ J (fun _ _ _ gq kq=>iPA (gq.1.trans J) J T.arr84 T.one3 J kq) ?_
       refine st_ J (fun _ _ _ gq kq=>lP (gq.1.trans J) J J T.one3 kq) ?_
       refine st_ J (fun _ _ _ gq kq=>iO ((gq.1.trans J).trans (osl_is (key:=2310)).symm) J (gq.2.1.trans J) T.sl143 O O kq) ?_
       refine st_ J (fun _ _ _ gq kq=>lO (gq.1.trans J) J gB J T.one4 kq) ?_
       refine st_ J (fun _ _ _ gq kq=>no (gq.1.trans J) kq) ?_
       refine pn (nl (th ?_))
       refine cd J (fun hc6=> ?_) (fun hc6=> ?_)
       ·skip
        have hnq:(ix (ix (tR s).1.sT (ix now k2).1.toNat).next k3,ix (ix t.sT (ix now k2).2.toNat).next k3)∉vis3:=by
                  intro h
                  rw[hmq] at hc6
                  simp[h] at hc6
        refine sq (dr (nh:=8) [0,0,2,7,15,0,32,127,255] T.mixed kR ?_)
        refine st_ J (fun _ _ _ gq kq=>mv' (gq.1.trans J) kq) ?_
        refine st_ J (fun _ _ _ gq kq=>iPA (gq.1.trans J) J T.arr84 T.one3 J kq) ?_
        refine st_ J (fun _ _ _ gq kq=>lP (gq.1.trans J) J J T.one3 kq) ?_
        refine st_ J (fun _ _ _ gq kq=>iO (gq.1.trans J) J (gq.2.1.trans J) T.sl206 O O kq) ?_
        refine st_ J (fun _ _ _ gq kq=>lO (gq.1.trans J) J gB J T.one143 kq) ?_
        refine st_ J (fun _ _ _ gq kq=>iPA (gq.1.trans J) J T.arr84 T.one3 J kq) ?_
        refine st_ J (fun _ _ _ gq kq=>lP (gq.1.trans J) J J T.one3 kq) ?_
        refine st_ J (fun _ _ _ gq kq=>iO ((gq.1.trans J).trans (osl_is (key:=2310)).symm) J (gq.2.1.trans J) T.sl143 O O kq) ?_
        refine pn (sO (φ:=bl true) J J J T.one4 gB J (y':=true) J (nl (th (rg (gvU 231 2310 (ix (ix (tR s).1.sT (ix now k2).1.toNat).next k3).toNat J J (by decide) (gK O) (mv (lPA J J T.agg84 J (bs (css:= [[int (ix (ix ((tR s).1).sT ((ix now k2).1).toNat).next k3),int (ix (ix t.sT ((ix now k2).2).toNat).next k3)]]) T.mk67 ⟨J,J,pA (cs:= [int (ix (ix ((tR s).1).sT ((ix now k2).1).toNat).next k3),int (ix (ix t.sT ((ix now k2).2).toNat).next k3)]) J,tV⟩ J J J (ap (key:=9) (zs:= [(ix (ix ((tR s).1).sT ((ix now k2).1).toNat).next k3,ix (ix t.sT ((ix now k2).2).toNat).next k3)]) osl_eq J J J T.mk67 (by unfold maxL at*;simp;omega) (by unfold maxL at*;simp;omega) fun v116=>(ag (nl (eb (th (rg (bi J J (b_add i6) (mv (nl ?_)))))))))))))))))
        have hN0:(k3+1)≤((ix (((tR s).1).sT) (((ix now k2).1).toNat)).next).length:=by
                  first|omega|simp_all
        have hN1:(mt3.set ((ix (ix (tR s).1.sT (ix now k2).1.toNat).next k3).toNat) ((ix mt3 ((ix (ix (tR s).1.sT (ix now k2).1.toNat).next k3).toNat)).set ((ix ((ix t.sT (((ix now k2).2).toNat)).next) k3).toNat) true))=mat (tR s).1.sT.length t.sT.length (vis3++ [(ix (ix (tR s).1.sT (ix now k2).1.toNat).next k3,ix (ix t.sT (ix now k2).2.toNat).next k3)])∧LI (BadD (tR s).1 t) (SucD (tR s).1 t) (vis3++ [(ix (ix (tR s).1.sT (ix now k2).1.toNat).next k3,ix (ix t.sT (ix now k2).2.toNat).next k3)]) (now.drop k2++(nx3++ [(ix ((ix (((tR s).1).sT) (((ix now k2).1).toNat)).next) k3,ix ((ix t.sT (((ix now k2).2).toNat)).next) k3)]))∧(vis3++ [(ix (ix (tR s).1.sT (ix now k2).1.toNat).next k3,ix (ix t.sT (ix now k2).2.toNat).next k3)]).length=vis.length+(nx3++ [(ix ((ix (((tR s).1).sT) (((ix now k2).1).toNat)).next) k3,ix ((ix t.sT (((ix now k2).2).toNat)).next) k3)]).length∧∀a,a<(k3+1)→0≤ix (ix (tR s).1.sT (ix now k2).1.toNat).next a→(ix (ix (tR s).1.sT (ix now k2).1.toNat).next a,ix (ix t.sT (ix now k2).2.toNat).next a)∈(vis3++ [(ix (ix (tR s).1.sT (ix now k2).1.toNat).next k3,ix (ix t.sT (ix now k2).2.toNat).next k3)]):=by
                  refine⟨?_,?_,by simp;omega,fun a ha h0=> ?_⟩
                  ·have hms:=mat_set (n:=(tR s).1.sT.length) (m:=t.sT.length) (vis:=vis3) (x:=(ix (ix (tR s).1.sT (ix now k2).1.toNat).next k3).toNat) (y:=(ix (ix t.sT (ix now k2).2.toNat).next k3).toNat) O O
                   rw[Int.toNat_of_nonneg O,Int.toNat_of_nonneg O,←hmt3] at hms
                   exact hms
                  ·have:=li_push hLI3 hnq hrq
                   rwa [List.append_assoc] at this
                  ·by_cases e:a=k3
                   ·subst e;exact List.mem_append.2 (.inr (List.mem_singleton.2 rfl))
                   ·exact List.mem_append.2 (.inl (hdn a O h0))
        exact ln (⟨k3+1,mt3.set (ix (ix (tR s).1.sT (ix now k2).1.toNat).next k3).toNat ((ix mt3 (ix (ix (tR s).1.sT (ix now k2).1.toNat).next k3).toNat).set (ix (ix t.sT ((ix now k2).2).toNat).next k3).toNat true),v116,nx3++ [(ix (ix ((tR s).1).sT ((ix now k2).1).toNat).next k3,ix (ix t.sT ((ix now k2).2).toNat).next k3)],vis3++ [(ix (ix (tR s).1.sT (ix now k2).1.toNat).next k3,ix (ix t.sT (ix now k2).2.toNat).next k3)]⟩:Nat × (List (List Bool)) × Value × (List (Int × Int)) × (List (Int × Int))) ⟨hN0,hN1⟩ dO ⟨id,id,id,id,id,id,id,id,id,id,id,id,id,tV⟩ ⟨rI,rI,rI,rI,rI,rI,tV⟩
       ·skip
        have hyq:(ix (ix (tR s).1.sT (ix now k2).1.toNat).next k3,ix (ix t.sT (ix now k2).2.toNat).next k3)∈vis3:=by
                  rw[hmq] at hc6
                  simpa using hc6
        refine gvSC 231 2310 (ix (ix (tR s).1.sT (ix now k2).1.toNat).next k3).toNat rfl rfl (by decide) (gK O) (gK O) (sk (eb (th (rg (bi rfl rfl (b_add i6) (mv (nl ?_)))))))
        have hN0:(k3+1)≤((ix (((tR s).1).sT) (((ix now k2).1).toNat)).next).length:=by
                  first|omega|simp_all
        have hN1:mt3=mat (tR s).1.sT.length t.sT.length vis3∧LI (BadD (tR s).1 t) (SucD (tR s).1 t) vis3 (now.drop k2++nx3)∧vis3.length=vis.length+nx3.length∧∀a,a<(k3+1)→0≤ix (ix (tR s).1.sT (ix now k2).1.toNat).next a→(ix (ix (tR s).1.sT (ix now k2).1.toNat).next a,ix (ix t.sT (ix now k2).2.toNat).next a)∈vis3:=by
                  refine⟨hmt3,hLI3,hvl3,fun a ha h0=> ?_⟩
                  by_cases e:a=k3
                  ·subst e;exact hyq
                  ·exact hdn a O h0
        exact ln (⟨k3+1,mt3,v9y,nx3,vis3⟩:Nat × (List (List Bool)) × Value × (List (Int × Int)) × (List (Int × Int))) ⟨hN0,hN1⟩ dO ⟨id,id,id,id,id,id,id,id,id,id,id,id,id,tV⟩ ⟨rI,rI,rI,rI,rI,rI,tV⟩
     ·try simp at hc4
      refine ex (xt_ (xt_ (xb (eb (th (rg (bi J J (b_add i6) (mv (nl ?_)))))))))
      have hN0:(k2+1)≤now.length:=by
       first|omega|simp_all
      have hN1:mt3=mat (tR s).1.sT.length t.sT.length vis3∧LI (BadD (tR s).1 t) (SucD (tR s).1 t) vis3 (now.drop (k2+1)++nx3)∧vis3.length=vis.length+nx3.length:=by
       refine⟨hmt3,?_,hvl3⟩
       have h3:=hLI3
       rw[drop_ix O] at h3
       refine li_pop h3 ⟨hnb,?_⟩
       rintro _ ⟨a,ha,h0,rfl⟩
       exact hdn a (by dsimp only [nxt] at ha;omega) h0
      exact ln (⟨k2+1,mt3,v9y,nx3,vis3⟩:Nat × (List (List Bool)) × Value × (List (Int × Int)) × (List (Int × Int))) ⟨hN0,hN1⟩ dO ⟨id,id,id,id,id,id,id,id,id,tV⟩ ⟨rI,rI,rI,rI,rI,tV⟩
   ·try simp at hc2
    refine ex (xt_ (xt_ (xb (th (rg (fz 9 9 J J (mv (ag (nl (eb (th (rg (mv (bi J J (b_add i6) (ag (nl ?_))))))))))))))))
    have hN0:mt2=mat (tR s).1.sT.length t.sT.length vis2∧LI (BadD (tR s).1 t) (SucD (tR s).1 t) vis2 nx∧0≤(dp+1)∧(dp+1)+((min nx.length 1:Nat):Int)≤(vis2.length:Int):=by
     refine⟨hmt2,?_,O,?_⟩
     ·rw[show now.drop k2= [] from List.drop_eq_nil_of_le O] at hLI2
      simpa using hLI2
     ·omega
    exact ln (⟨mt2,vis2,nx,dp+1⟩:(List (List Bool)) × (List (Int × Int)) × (List (Int × Int)) × Int) hN0 dO ⟨id,id,id,id,id,tV⟩ ⟨rI,rI,rI,rI,tV⟩
  ·try simp at hc1
   refine ex (xt_ (xt_ (xb (th (sq (rg (ag (nl (th (rt ?_))))))))))
   exact rE ⟨-1,⟨fun _=>(trim_refp hs ht).1 (li_yes (by rw[show now= [] from by first|exact hc1|exact List.eq_nil_of_length_eq_zero O] at hLI;exact hLI)),fun _=>by decide⟩⟩ [.tmp 4] J [int (-1)] ⟨.tmp J,tV⟩ J trivial eX
end divd
end
section
open ref01 ref03 ref04 ref06 prog6 prog15 starts Part Rungs LeftM TrimM RoundM MergeM BisM BisM5 BisM6 WalkM StepM WitM JudgM
namespace JudgM2
theorem tS_ne {s:SS} (hs:oK s) (h0:ix (hOl s) 0=false) {x:Nat} (hx:x<(tS s).sT.length):0<(acc (tS s) x).length:=by
 rw[tS_len] at hx
 rw[tS_acc hx]
 exact List.length_pos_iff.2 (keep_ne (by have:=ord_bd hs hx;omega) (ord_solid hs h0 hx))
structure VR where
 holds:Bool
 ladder:List Int
 pairs:List PP
 wit:SSys
structure RefOK (s t:SS) (v:VR):Prop where
 yes:v.holds=true→RefP s t∧v.ladder=rungs s∧v.wit=⟨[],[]⟩∧(ix (hOl s) 0=true→v.pairs= [])∧(ix (hOl s) 0=false→∃q,QInv (tS s) t q∧(∀k,k<q.length→Done (tS s) t q k)∧v.pairs=q.map fun m=>(ix (ordS s) m.s.toNat,m.t))
 no:v.holds=false→¬RefP s t∧v.ladder= []∧v.pairs= []∧ix (hOl s) 0=false∧∃q i u,QInv (tS s) t q∧i<q.length∧u∈acc (tS s) (ix q i).s.toNat∧u∉acc t (ix q i).t.toNat∧WitOK (tS s) (pathL (tS s) (wordTo q i) u) v.wit
theorem ref_yes {s t:SS} {v:VR} (h:RefOK s t v):v.holds=true↔RefP s t:=by
 constructor
 ·exact fun e=>(h.yes e).1
 ·intro hs
  cases e:v.holds with
  |true=>rfl
  |false=>exact absurd hs (h.no e).1
theorem refP_walk {s t:SS} (h0:ix (hOl s) 0=false):RefP s t↔RefX (tS s) t:=by
 unfold RefP RefX
 constructor
 ·rintro(h|h)
  ·rw[h0] at h;cases h
  ·exact h
 ·exact .inr
end JudgM2
end
section
open ref01 ref03 ref04 ref06 prog prog2 prog3 prog4 prog5 prog6 prog13 prog15 starts search Part Rungs LeftM TrimM RoundM MergeM BisM BisM5 WalkM StepM WitM JudgM JudgM2 refw judg wit
abbrev verR (v:VR):AV:=agg [bl v.holds,ints v.ladder,sl 2 pE v.pairs,strs v.wit.aC,sl 1 gE v.wit.sT]
theorem oK.small {s:SS} (h:oK s):smallSpec s:=fun k hk i hi=>by
 have:=(h.st k hk).ac i hi
 omega
noncomputable def refB (s t:SS):Bool:= @decide (RefP s t) (Classical.propDecidable _)
theorem refB_iff {s t:SS}:refB s t=true↔RefP s t:=by unfold refB;simp
theorem holds_refB {s t:SS} {v:VR} (h:RefOK s t v):v.holds=refB s t:=by
 rw[Bool.eq_iff_iff,refB_iff];exact ref_yes h
theorem fine_ok {s t:SS} (h:fineE s t=0):specOK s=true∧specOK t=true∧s.aC=t.aC:=by
 unfold fineE at h
 split at h
 ·next g=>
  split at h
  ·next g2=>exact⟨g.1,g.2,g2⟩
  ·exact absurd h (by decide)
 ·exact absurd h (by decide)
noncomputable def eqB (s t:SS):Bool:=decide (fineE s t=0)&&(refB s t&&refB t s)
namespace T
theorem z138:ZeroIs Tryz.prog 138 [.bool false,.slice none 0 0,.slice none 0 0,.slice none 0 0,.slice none 0 0]:=zeroIs_of kR
theorem ent68:Ent Tryz.prog 68:=ent_of kR
theorem ent189:Ent Tryz.prog 189:=ent_of kR
theorem st136:StructT Tryz.prog 136 [(0,1),(1,1)] [.slice none 0 0,.slice none 0 0]:=structT_of kR kR
theorem st138:StructT Tryz.prog 138 [(0,1),(1,2),(3,2)] [.bool false,.slice none 0 0,.slice none 0 0,.slice none 0 0,.slice none 0 0]:=structT_of kR kR
theorem agg138:IsAgg Tryz.prog 138 5:=isAgg_of kR
theorem ent190:Ent Tryz.prog 190:=ent_of kR
theorem ent191:Ent Tryz.prog 191:=ent_of kR
theorem ent70:Ent Tryz.prog 70:=ent_of kR
theorem ent71:Ent Tryz.prog 71:=ent_of kR
theorem agg237:IsAgg Tryz.prog 237 4:=isAgg_of kR
theorem z237:ZeroIs Tryz.prog 237 [.int .i64 0,.int .i64 0,.int .i64 0,.int .i64 0]:=zeroIs_of kR
theorem fld138_1:FieldAt Tryz.prog 138 1 1:=fieldAt_of kR
theorem fld136_1:FieldAt Tryz.prog 136 1 1:=fieldAt_of kR
theorem ent61:Ent Tryz.prog 61:=ent_of kR
theorem ent153:Ent Tryz.prog 153:=ent_of kR
theorem flv138_0:FldV Tryz.prog 138 0 0 4:=fldV_of kR
end T
namespace refj
theorem Judge_ok (s t:SS) (hsv:specOK s=true) (htv:specOK t=true):
 AL.Fn Tryz.prog 153 [spec s,spec t] [] (ι:= { v:VR//RefOK s t v }) (fun _ i=>verR i.1) (fun _=> []):=by
 refine fnI Tryz.func153 rfl rfl (fun w0 F0=> ?_)
 have hs:=okSpec_of hsv;have ht:=okSpec_of htv;have hsm:=hs.small;have hf0:=hs.few0;have hf1:=hs.few1;have hg1:=ht.few1;have hmm:s.sT.length*t.sT.length≤10000*10000:=Nat.mul_le_mul hf1 hg1;have hop:=ordS_pos s;have hol:=ord_le hs
 refine fcC (inhS 0 J) (fun hS0=> ?_)
 obtain⟨hsa0,hss0,hse0⟩:=sLn hS0
 refine fcC (inhS 1 J) (fun hS1=> ?_)
 obtain⟨hsa1,hss1,hse1⟩:=sLn hS1
 refine sq (rg (bx (key:=2) (cs:= [sl 1 rE_ s.aC,sl 2 sE s.sT]) J fun b2=>(bx (key:=3) (cs:= [sl 1 rE_ t.aC,sl 2 sE t.sT]) J fun b3=>(al (key:=4) T.z138 (eC (eC (eC (eC (eC eZ))))) fun b4=>(nl (th (sq (rg (lPA J J T.agg25 J (calW (φs:= [agg [sl 1 rE_ s.aC,sl 2 sE s.sT]]) (φ:=tup [agg [sl 1 rE_ ((tR s).1.aC),sl 2 sE ((tR s).1.sT)],sl 1 nE ((tR s).2)]) ⟨J,tV⟩ (prog9.Trimmed_ok s aS) T.ent68 (fun N hN=>fun h=>tup_le (cs:= [agg [fre N (sl 1 rE_ ((tR s).1.aC)),frb (ix (hOl s) 0) N (sl 2 sE ((tR s).1.sT))],sl 1 nE ((tR s).2)]) (ds:= [agg [sl 1 rE_ ((tR s).1.aC),sl 2 sE ((tR s).1.sT)],sl 1 nE ((tR s).2)]) ⟨fun h=>agg_le (cs:= [fre N (sl 1 rE_ ((tR s).1.aC)),frb (ix (hOl s) 0) N (sl 2 sE ((tR s).1.sT))]) (ds:= [sl 1 rE_ ((tR s).1.aC),sl 2 sE ((tR s).1.sT)]) ⟨fun h=>nw_le h,fun h=>frb_le h,tV⟩ h,fun h=>h,tV⟩ h) (mv (xt J J (xt J J (al (key:=5) T.z25 (eC (eC eZ)) fun b5=>(sPA (cs':= [sl 1 rE_ ((tR s).1.aC),sl 2 sE ((tR s).1.sT)]) J J J T.agg25 J J (ag (nl (th (sq (rg (lPA J J T.agg25 J (cal0 (φs:= [agg [sl 1 rE_ s.aC,sl 2 sE s.sT]]) (φ:=tup [sl 1 nE (if specOK s=true then rungs s else []),int (errOf s)]) ⟨J,tV⟩ (judg.Ladder_ok s aS) T.ent189 (mv (xt J J (kn 25 (ints (rungs s)) J (by rw[if_pos hsv];exact fun h=>h) (xt J J (ag (ag (nl (th (sq (sq (rg (mv (fc (slenI 27 J) fun hm27=>(lnF J T.sl36 (bi J J b_eql (nl (th ?_)))))))))))))))))))))))))))))))))))))))
 refine cd J (fun hc0=> ?_) (fun hc0=> ?_)
 ·try simp at hc0
  have hh0:ix (hOl s) 0=true:=by
   cases h:ix (hOl s) 0 with
   |true=>rfl
   |false=>
    exfalso
    rw[trimmed_not h] at hc0
    have h3:=hop
    rw[show ordS s= [] from hc0] at h3
    simp at h3
  refine sq (rg (mv (bd (css:= [(0,_)]) T.st136 (eC (eC eZ)) ⟨J,J,p1 (φ:=sl 1 nE (rungs s)) J,tV⟩ (bd (css:= [(0,_),(1,_)]) T.st138 (eC (eC (eC (eC (eC eZ))))) ⟨J,J,p1 (φ:=bl true) J,⟨J,J,pA (cs:= [sl 1 nE (rungs s),eqv (.slice none 0 0)]) J,tV⟩⟩ (sPA (cs':= [bl true,sl 1 nE (rungs s),eqv (.slice none 0 0),eqv (.slice none 0 0),eqv (.slice none 0 0)]) J J J T.agg138 J J (nl (th (rt (rt_ ?_)))))))))
  refine kncA 4 2 (sl 2 pE []) rfl rfl slnil ?_
  refine kncA 4 3 (sl 1 rE_ []) rfl rfl slnil ?_
  refine kncA 4 4 (sl 1 gE []) rfl rfl slnil ?_
  exact rE ⟨⟨true,rungs s,[],⟨[],[]⟩⟩,⟨fun _=>⟨.inl hh0,J,J,fun _=>J,fun h=>absurd h (by rw[hh0];decide)⟩,fun h=>(nomatch (show true=false from h))⟩⟩ [.cell 4 138] J [agg [bl true,sl 1 nE (rungs s),sl 2 pE [],sl 1 rE_ [],sl 1 gE []]] ⟨.agg J J T.agg138 J J,tV⟩ J trivial eX
 ·try simp at hc0
  have h00:ix (hOl s) 0=false:=by
   cases h:ix (hOl s) 0 with
   |false=>rfl
   |true=>exact absurd (by rw[trimmed_hol h]) hc0
  have hts:(tR s).1=tS s:=by rw[trimmed_not h00]
  have htf:(tR s).2=ordS s:=by rw[trimmed_not h00]
  have hto:oK (tR s).1:=by rw[hts];exact tS_ok hs
  have hm2:(tR s).1.sT.length*t.sT.length≤10000*10000:=Nat.mul_le_mul (by rw[hts,tS_len];omega) hg1
  have hNf:(tR s).2.length=(tR s).1.sT.length:=by rw[hts,htf,tS_len]
  refine sk (th (sq (rg (lPA J J T.agg25 J (lPA J J T.agg25 J (cl (refw.walk_ok ((tR s).1) t aS aS) T.ent190 trivial fun N36 i36=>(mv (xt J J (xt J J (xt J J (ag (ag (ag (nl (th (sq (sq (rg (mv (bi J J b_geq (nl (th ?_))))))))))))))))))))))
  refine cd J (fun hc1=> ?_) (fun hc1=> ?_)
  ·try simp at hc1
   obtain⟨kk,hkk⟩:∃k:Nat,i36.1.2.1=(k:Int):=⟨_,(Int.toNat_of_nonneg hc1).symm⟩
   obtain⟨hnr,hil,hiu,hin⟩:=i36.2.no hc1
   rw[hkk] at hil hiu hin
   rw[Int.toNat_natCast] at hiu hin
   have hkl:kk<i36.1.1.length:=by omega
   have hql:=WalkM.q_len i36.2.q
   have hlw:=wordTo_len (q_back i36.2.q) kk hkl
   have hruns:=(q_runs i36.2.q kk hkl).1
   have halive:=hruns.alive hto
   have hgo:=hruns.go hto
   have hbd:=i36.2.q.bd _ (ix_memS hkl)
   have hwants:Wants (tR s).1 (pathL (tR s).1 (wordTo i36.1.1 kk) i36.1.2.2):=⟨pathL_mem hto halive (by rw[hgo,Int.toNat_natCast];exact hiu),fun x hx=>by rw[hts] at hx ⊢;exact tS_ne hs h00 hx,by rw[pathL_len];omega⟩
   refine sq (knC 10 (int (kk:Int)) J (by rw[hkk];exact fun h=>h) (dr (nh:=11) [0,0,0,6,0,31,63,127,127,255,1023] T.mixed kR ?_))
   refine st_ J (fun _ _ _ gq kq=>lPA (gq.1.trans J) J T.agg25 J kq) ?_
   refine st_ J (fun _ _ _ gq kq=>mv' (gq.1.trans J) kq) ?_
   refine st_ J (fun _ _ _ gq kq=>mv' (gq.1.trans J) kq) ?_
   refine st_ J (fun _ _ _ gq kq=>cal0 (φs:= [sl 4 metE i36.1.1,int (kk:Int)]) (φ:=sl 1 nE (wordTo i36.1.1 kk)) ⟨(gq.1.trans J),(gq.2.1.trans J),tV⟩ (judg.path_ok i36.1.1 (q_back i36.2.q) kk O) T.ent191 kq) ?_
   refine st_ J (fun _ _ _ gq kq=>mv' (gq.1.trans J) kq) ?_
   refine st_ J (fun _ _ _ gq kq=>cal0 (φs:= [agg [sl 1 rE_ ((tR s).1.aC),sl 2 sE ((tR s).1.sT)],sl 1 nE (wordTo i36.1.1 kk),int i36.1.2.2]) (φ:=tup [sl 2 pE (pathL ((tR s).1) (wordTo i36.1.1 kk) i36.1.2.2),bl (decide (i36.1.2.2∈acc ((tR s).1) (goS ((tR s).1) (wordTo i36.1.1 kk)).toNat))]) ⟨(gq.1.trans J),(gq.2.1.trans J),(gq.2.2.1.trans J),tV⟩ (judg.Path_ok ((tR s).1) aS (wordTo i36.1.1 kk) aS i36.1.2.2 O) T.ent70 kq) ?_
   refine st_ J (fun _ _ _ gq kq=>mv' (gq.1.trans J) kq) ?_
   refine st_ J (fun _ _ _ gq kq=>xt (gq.1.trans J) J kq) ?_
   refine st_ J (fun _ _ _ gq kq=>xt (gq.1.trans J) J kq) ?_
   refine st_ J (fun _ _ _ gq kq=>ag' (gq.1.trans J) kq) ?_
   refine st_ J (fun _ _ _ gq kq=>ag' (gq.1.trans J) kq) ?_
   refine pn (nl (th (sq (rg (lPA J J T.agg25 J (mv (cl (wit.Witness_ok ((tR s).1) aS (pathL ((tR s).1) (wordTo i36.1.1 kk) i36.1.2.2) aS) T.ent71 trivial fun N53 i53=>(bd (css:= [(3,_)]) T.st138 (eC (eC (eC (eC (eC eZ))))) ⟨J,J,pA (cs:= [fre N53 (sl 1 rE_ i53.1.aC),fre N53 (sl 1 gE i53.1.sT)]) J,tV⟩ (sPA (cs':= [bl false,eqv (.slice none 0 0),eqv (.slice none 0 0),fre N53 (sl 1 rE_ i53.1.aC),fre N53 (sl 1 gE i53.1.sT)]) J J J T.agg138 J J (nl (th (rt (rt_ ?_)))))))))))))
   refine kncA 4 1 (sl 1 nE []) rfl rfl slnil ?_
   refine kncA 4 2 (sl 2 pE []) rfl rfl slnil ?_
   refine kncA 4 3 (sl 1 rE_ i53.1.aC) rfl rfl nw_le ?_
   refine kncA 4 4 (sl 1 gE i53.1.sT) rfl rfl nw_le ?_
   exact rE ⟨⟨false,[],[],i53.1⟩,⟨fun h=>(nomatch (show false=true from h)),fun _=>⟨fun h=>hnr (by rw[hts];exact(refP_walk h00).1 h),J,J,h00,i36.1.1,kk,i36.1.2.2,by rw[←hts];exact i36.2.q,hkl,by rw[←hts];exact hiu,hin,by rw[←hts];exact i53.2⟩⟩⟩ [.cell 4 138] J [agg [bl false,sl 1 nE [],sl 2 pE [],sl 1 rE_ i53.1.aC,sl 1 gE i53.1.sT]] ⟨.agg J J T.agg138 J J,tV⟩ J trivial eX
  ·try simp at hc1
   have hql:=WalkM.q_len i36.2.q
   refine sk (th (sq (rg (mv (bd (css:= [(0,_)]) T.st136 (eC (eC eZ)) ⟨J,J,p1 (φ:=sl 1 nE (rungs s)) J,tV⟩ (bd (css:= [(0,_),(1,_)]) T.st138 (eC (eC (eC (eC (eC eZ))))) ⟨J,J,p1 (φ:=bl true) J,⟨J,J,pA (cs:= [sl 1 nE (rungs s),eqv (.slice none 0 0)]) J,tV⟩⟩ (al (key:=14) T.z138 (eC (eC (eC (eC (eC eZ))))) fun b14=>(sPA (cs':= [bl true,sl 1 nE (rungs s),eqv (.slice none 0 0),eqv (.slice none 0 0),eqv (.slice none 0 0)]) J J J T.agg138 J J (nl (th (sq (sq (rg (mv (fc (slenI 58 J) fun hm58=>(lnF J T.sl230 (mv (nl (th (bk ?_))))))))))))))))))))
   refine nwC 140 84 2 pE (kncC 14 2 (osl 140 (.slice none 0 0)) rfl rfl eq_osl ?_)
   have hI0_0:0≤i36.1.1.length:=by
    first|omega|simp
   have hI0_1:([]:List (Int × Int))=(i36.1.1.take 0).map (fun m:WalkM.Mt=>(ix (tR s).2 m.s.toNat,m.t)):=by
    rfl
   refine lp (κ:=Nat × Value × (List (Int × Int))) (fun p=> [(4,ptr 4 b4 0),(6,sl 1 nE ((tR s).2)),(14,ptr 14 b14 0),(58,sl 4 metE i36.1.1),(59,int (i36.1.1.length:Int)),(60,int (p.1:Int))]) (fun p=> [(2,cell b2 [sl 1 rE_ s.aC,sl 2 sE s.sT]),(3,cell b3 [sl 1 rE_ t.aC,sl 2 sE t.sT]),(4,cell b4 [bl false,eqv (.slice none 0 0),eqv (.slice none 0 0),eqv (.slice none 0 0),eqv (.slice none 0 0)]),(5,cell b5 [sl 1 rE_ ((tR s).1.aC),sl 2 sE ((tR s).1.sT)]),(14,cell b14 [bl true,sl 1 nE (rungs s),osl 140 p.2.1,eqv (.slice none 0 0),eqv (.slice none 0 0)]),(140,own p.2.1 84 2 pE p.2.2)]) (fun p=>(p.1≤i36.1.1.length)∧(p.2.2=(i36.1.1.take p.1).map (fun m:WalkM.Mt=>(ix (tR s).2 m.s.toNat,m.t)))) (fun p=>i36.1.1.length- p.1) ⟨0,(.slice none 0 0),([]:List (Int × Int))⟩ ⟨hI0_0,hI0_1⟩ ⟨id,id,id,id,id,id,tV⟩ ⟨rI,rI,rI,rI,rI,rI,tV⟩ ?_
   intro⟨k,v,prs⟩ hG0
   obtain⟨hk0,hI0⟩:(k≤i36.1.1.length)∧(prs=(i36.1.1.take k).map (fun m:WalkM.Mt=>(ix (tR s).2 m.s.toNat,m.t))):=hG0
   show Ct _ _ _ _ [(4,ptr 4 b4 0),(6,sl 1 nE ((tR s).2)),(14,ptr 14 b14 0),(58,sl 4 metE i36.1.1),(59,int (i36.1.1.length:Int)),(60,int (k:Int))] [(2,cell b2 [sl 1 rE_ s.aC,sl 2 sE s.sT]),(3,cell b3 [sl 1 rE_ t.aC,sl 2 sE t.sT]),(4,cell b4 [bl false,eqv (.slice none 0 0),eqv (.slice none 0 0),eqv (.slice none 0 0),eqv (.slice none 0 0)]),(5,cell b5 [sl 1 rE_ ((tR s).1.aC),sl 2 sE ((tR s).1.sT)]),(14,cell b14 [bl true,sl 1 nE (rungs s),osl 140 v,eqv (.slice none 0 0),eqv (.slice none 0 0)]),(140,own v 84 2 pE prs)] _
   have hpl:prs.length≤k:=by rw[hI0];simp;omega
   refine sq (rg (bi J J b_lss (nl (th (sq ?_)))))
   refine cd J (fun hc2=> ?_) (fun hc2=> ?_)
   ·try simp at hc2
    have hbd:=i36.2.q.bd _ (ix_memS hc2)
    refine sk (th (sq (bk (sq (rg (iF J J T.sl230 O gB (lFA J T.agg237 (Nat.le_of_ble_eq_true J) (al (key:=16) T.z237 (eC (eC (eC (eC eZ)))) fun b16=>(sPA (cs':= [int (ix i36.1.1 k).s,int (ix i36.1.1 k).t,int (ix i36.1.1 k).before,int (ix i36.1.1 k).action]) J J J T.agg237 J J (nl (th ?_)))))))))))
    refine drH (nh:=18) [0,1,3,0,0,16,48,120,248,0,512,1536,4088,8184,16383,32767,65535,131071] [(none,[]),(none,[]),(none,[14]),(none,[]),(none,[]),(none,[]),(none,[16]),(none,[]),(none,[]),(none,[]),(none,[]),(none,[16]),(none,[]),(none,[]),(some 140,[140]),(none,[]),(none,[]),(some 14,[14,140])] T.mixed kR kR ?_
    refine stv (d:=64) (fun β0=>ptr 14 b14 1) [] J (fun β β' hb=>J) (fun β0 _ _ _ _ gq gh kq=>fP (gq.1.trans J) T.fld138_1 kq) ?_
    refine stv (d:=65) (fun β0=>ptr 14 b14 2) [] J (fun β β' hb=>J) (fun β0 _ _ _ _ gq gh kq=>fP (gq.1.trans J) T.fld136_1 kq) ?_
    refine stv (d:=66) (fun β0=>osl 140 v) [14] J (fun β β' hb=>J) (fun β0 _ _ _ _ gq gh kq=>lP (gq.1.trans J) (gh.1.trans J) J T.one67 kq) ?_
    refine stv (d:=67) (fun β0=>sl 1 nE ((tR s).2)) [] J (fun β β' hb=>J) (fun β0 _ _ _ _ gq gh kq=>mv' (gq.1.trans J) kq) ?_
    refine stv (d:=68) (fun β0=>ptr 16 b16 0) [] J (fun β β' hb=>J) (fun β0 _ _ _ _ gq gh kq=>fP (gq.1.trans J) T.fld237_0 kq) ?_
    refine stv (d:=69) (fun β0=>ptr 16 b16 0) [] J (fun β β' hb=>J) (fun β0 _ _ _ _ gq gh kq=>fP (gq.1.trans J) T.fld235_0 kq) ?_
    refine stv (d:=70) (fun β0=>int (ix i36.1.1 k).s) [16] J (fun β β' hb=>J) (fun β0 _ _ _ _ gq gh kq=>lP (gq.1.trans J) (gh.1.trans J) J T.one3 kq) ?_
    refine stv (d:=71) (fun β0=>fp [int (ix ((tR s).2) (ix i36.1.1 k).s.toNat)]) [] J (fun β β' hb=>J) (fun β0 _ _ _ _ gq gh kq=>iF (gq.1.trans J) (gq.2.1.trans J) T.sl36 O gB kq) ?_
    refine stv (d:=72) (fun β0=>int (ix ((tR s).2) (ix i36.1.1 k).s.toNat)) [] J (fun β β' hb=>J) (fun β0 _ _ _ _ gq gh kq=>lF (gq.1.trans J) J T.one3 kq) ?_
    refine stv (d:=73) (fun β0=>ptr 16 b16 0) [] J (fun β β' hb=>J) (fun β0 _ _ _ _ gq gh kq=>fP (gq.1.trans J) T.fld237_0 kq) ?_
    refine stv (d:=74) (fun β0=>ptr 16 b16 1) [] J (fun β β' hb=>J) (fun β0 _ _ _ _ gq gh kq=>fP (gq.1.trans J) T.fld235_1 kq) ?_
    refine stv (d:=75) (fun β0=>int (ix i36.1.1 k).t) [16] J (fun β β' hb=>J) (fun β0 _ _ _ _ gq gh kq=>lP (gq.1.trans J) (gh.1.trans J) J T.one3 kq) ?_
    refine stv (d:=76) (fun β0=>agg [int (ix ((tR s).2) (ix i36.1.1 k).s.toNat),int (ix i36.1.1 k).t]) [] J (fun β β' hb=>J) (fun β0 _ _ _ _ gq gh kq=>bd (css:= [(0,_),(1,_)]) T.st84 (eC (eC eZ)) ⟨J,J,p1 (φ:=int (ix ((tR s).2) (ix i36.1.1 k).s.toNat)) (by exact(gq.1.trans J)),⟨J,J,p1 (φ:=int (ix i36.1.1 k).t) (by exact(gq.2.1.trans J)),tV⟩⟩ kq) ?_
    refine stv (d:=77) (fun β0=>sl 2 id [[int (ix ((tR s).2) (ix i36.1.1 k).s.toNat),int (ix i36.1.1 k).t]]) [] J (fun β β' hb=>J) (fun β0 _ _ _ _ gq gh kq=>bs (css:= [[int (ix ((tR s).2) (ix i36.1.1 k).s.toNat),int (ix i36.1.1 k).t]]) T.mk67 ⟨J,J,pA (cs:= [int (ix ((tR s).2) (ix i36.1.1 k).s.toNat),int (ix i36.1.1 k).t]) (by exact(gq.1.trans J)),tV⟩ J J J kq) ?_
    refine stc (d:=78) (e:=84) (n:=2) (enc:=pE) (xs:=prs++ [(ix ((tR s).2) (ix i36.1.1 k).s.toNat,(ix i36.1.1 k).t)]) 140 [140] rfl (fun β0 _ _ _ _ gq gh kq=>ap (key:=140) (zs:= [(ix ((tR s).2) (ix i36.1.1 k).s.toNat,(ix i36.1.1 k).t)]) (fun h=>osl_of (gq.1.trans rfl) h) (gh.1.trans rfl) (gq.2.1.trans rfl) rfl T.mk67 (by unfold maxL at*;simp;omega) (by unfold maxL at*;simp;omega) fun v=>kq v) ?_
    refine stv (d:=79) (fun β0=>ptr 14 b14 1) [] J (fun β β' hb=>J) (fun β0 _ _ _ _ gq gh kq=>fP (gq.1.trans J) T.fld138_1 kq) ?_
    refine stv (d:=80) (fun β0=>ptr 14 b14 2) [] J (fun β β' hb=>J) (fun β0 _ _ _ _ gq gh kq=>fP (gq.1.trans J) T.fld136_1 kq) ?_
    refine stw 14 (fun β0=>cell b14 [bl true,sl 1 nE (rungs s),osl 140 (sv (β0 14)),eqv (.slice none 0 0),eqv (.slice none 0 0)]) [14,140] J (fun β β' hb=>by first|rw[hb 14 J]|(dsimp only;rw[hb 14 J])) (fun β0 _ _ _ _ gq gh kq=>storePO (gq.1.trans J) (gh.1.trans J) (gq.2.1.trans J) (gh.2.1.trans J) T.one67 J kq) ?_
    refine pnH fun β0=>(nl (eb (th (rg (bi J J (b_add i6) (mv (nl ?_)))))))
    have hN0:(k+1)≤i36.1.1.length:=by
     first|omega|simp_all
    have hN1:(prs++ [(ix ((tR s).2) (ix i36.1.1 k).s.toNat,(ix i36.1.1 k).t)])=(i36.1.1.take (k+1)).map (fun m:WalkM.Mt=>(ix (tR s).2 m.s.toNat,m.t)):=by
     rw[take_s hc2,List.map_append,←hI0];rfl
    exact ln (⟨k+1,(sv (β0 14)),prs++ [(ix ((tR s).2) (ix i36.1.1 k).s.toNat,(ix i36.1.1 k).t)]⟩:Nat × Value × (List (Int × Int))) ⟨hN0,hN1⟩ dO ⟨id,id,id,id,id,id,tV⟩ ⟨rI,rI,rI,rI,rI,rI,tV⟩
   ·try simp at hc2
    refine ex (xt_ (xt_ (xb (th (sq (rg (fzc 14 140 2 J J J J (lPA J J T.agg138 J (sPA (cs':= [bl true,sl 1 nE (rungs s),sl 2 pE prs,eqv (.slice none 0 0),eqv (.slice none 0 0)]) J J J T.agg138 J J (nl (th (rt ?_))))))))))))
    refine kncA 4 3 (sl 1 rE_ []) rfl rfl slnil ?_
    refine kncA 4 4 (sl 1 gE []) rfl rfl slnil ?_
    exact rE ⟨⟨true,rungs s,prs,⟨[],[]⟩⟩,⟨fun _=>⟨(refP_walk h00).2 (by rw[←hts];exact(i36.2.yes O).1),J,J,fun h=>absurd h (by rw[h00];decide),fun _=>⟨i36.1.1,by rw[←hts];exact i36.2.q,by rw[←hts];exact(i36.2.yes O).2,by rw[hI0,show k=i36.1.1.length by omega,List.take_length,htf]⟩⟩,fun h=>(nomatch (show true=false from h))⟩⟩ [.cell 4 138] J [agg [bl true,sl 1 nE (rungs s),sl 2 pE prs,sl 1 rE_ [],sl 1 gE []]] ⟨.agg J J T.agg138 J J,tV⟩ J trivial eX
theorem Equal_ok (s t:SS) (hs:smallSpec s) (ht:smallSpec t):
 Fn0 Tryz.prog 105 [spec s,spec t] (tup [bl (eqB s t),int (fineE s t)]):=by
 refine fnI Tryz.func105 rfl rfl (fun w0 F0=> ?_)
 refine fcC (inhS 0 J) (fun hS0=> ?_)
 obtain⟨hsa0,hss0,hse0⟩:=sLn hS0
 refine fcC (inhS 1 J) (fun hS1=> ?_)
 obtain⟨hsa1,hss1,hse1⟩:=sLn hS1
 refine sq (rg (bx (key:=2) (cs:= [sl 1 rE_ s.aC,sl 2 sE s.sT]) J fun b2=>(bx (key:=3) (cs:= [sl 1 rE_ t.aC,sl 2 sE t.sT]) J fun b3=>(ag (ag (nl (th (sq (sq (rg (lPA J J T.agg25 J (lPA J J T.agg25 J (cal0 (φs:= [agg [sl 1 rE_ s.aC,sl 2 sE s.sT],agg [sl 1 rE_ t.aC,sl 2 sE t.sT]]) (φ:=int (fineE s t)) ⟨J,J,tV⟩ (judg.Fine_ok s t aS aS) T.ent61 (ag (nl (th (sq (rg (mv (bi J J b_neq (nl (th ?_))))))))))))))))))))))
 refine cd J (fun hc0=> ?_) (fun hc0=> ?_)
 ·try simp at hc0
  refine sq (rg (mv (ag (ag (nl (th (rt (rt_ ?_))))))))
  have hr0:false=(eqB s t):=by
   unfold eqB;rw[decide_eq_false hc0];rfl
  exact rE () [.tmp 4,.tmp 5] J [bl false,int (fineE s t)] ⟨.tmp J,.tmp J,tV⟩ (cA1 (fun x0=>rV [bl x0,int (fineE s t)]) hr0) trivial eX
 ·try simp at hc0
  obtain⟨hsv,htv,hac⟩:=fine_ok hc0
  refine sk (th (sq (rg (lPA J J T.agg25 J (lPA J J T.agg25 J (cl (refj.Judge_ok s t aS aS) T.ent153 trivial fun N15 i15=>(fld1 J T.flv138_0 T.one4 J (kn 16 (bl (refB s t)) J (by rw[holds_refB i15.2];exact fun h=>h) (mv ?_)))))))))
  apply gAnd (t:=17) (pd:=22) rfl
  rotate_left
  ·intro hg0 fin
   have hg0':=hg0
   try simp at hg0'
   exact gy J J J hg0 (lPA J J T.agg25 J (gy J J J hg0 (lPA J J T.agg25 J (gy J J J hg0 (cl (refj.Judge_ok t s aS aS) T.ent153 trivial fun N20 i20=>(gy J J J hg0 (fld1 J T.flv138_0 T.one4 J (kn 21 (bl (refB t s)) J (by rw[holds_refB i20.2];exact fun h=>h) (pkT J hg0 J (drp (X:= [(21,_),(21,_),(20,_),(19,_),(18,_)]) ⟨J,J,J,J,J,tV⟩ fin))))))))))
  ·intro hg0 fin
   exact gn J J J hg0 J J (gn J J J hg0 J J (gn J J J hg0 J J (gn J J J hg0 J J (pkF J hg0 J (drp (X:= [(21,_),(20,_),(19,_),(18,_)]) ⟨J,J,J,J,tV⟩ fin)))))
  refine ag (ag (nl (th (rt ?_))))
  have hr0:((refB s t)&&(refB t s))=(eqB s t):=by
   unfold eqB;rw[decide_eq_true hc0];rfl
  have hr1:(0:Int)=(fineE s t):=by
   exact hc0.symm
  exact rE () [.tmp 4,.tmp 5] J [bl ((refB s t)&&(refB t s)),int 0] ⟨.tmp J,.tmp J,tV⟩ (cA2 (fun x0 x1=>rV [bl x0,int x1]) hr0 hr1) trivial eX
end refj
end
section
open ref01 ref03 ref04 ref06 prog prog2 prog3 prog6 prog13 Part Rungs LeftM TrimM RoundM MergeM BisM BisM4 BisM5 WalkM StepM WitM JudgM refw judg wit refj sysw divr divs divd LevM
noncomputable def eqR (s t:SS):Bool:=refB s t&&refB t s
noncomputable def fineR (g w:SS):Bool:=specOK g&&decide (g.aC=w.aC)&&isTrimS g&&eqR g w
namespace T
theorem ent192:Ent Tryz.prog 192:=ent_of kR
theorem ent154:Ent Tryz.prog 154:=ent_of kR
theorem ent106:Ent Tryz.prog 106:=ent_of kR
theorem ent107:Ent Tryz.prog 107:=ent_of kR
end T
namespace dive
theorem Refines_ok (s t:SS) (hs:oK s) (ht:oK t):
 Fn0 Tryz.prog 154 [spec s,spec t] (bl (refB s t)):=by
 refine fnI Tryz.func154 rfl rfl (fun w0 F0=> ?_)
 refine fcC (inhS 0 J) (fun hS0=> ?_)
 obtain⟨hsa0,hss0,hse0⟩:=sLn hS0
 refine fcC (inhS 1 J) (fun hS1=> ?_)
 obtain⟨hsa1,hss1,hse1⟩:=sLn hS1
 refine sq (rg (bx (key:=2) (cs:= [sl 1 rE_ s.aC,sl 2 sE s.sT]) J fun b2=>(bx (key:=3) (cs:= [sl 1 rE_ t.aC,sl 2 sE t.sT]) J fun b3=>(ag (nl (th (sq (rg (lPA J J T.agg25 J (lPA J J T.agg25 J (cl (divd.Depth_ok s t aS aS) T.ent192 trivial fun N7 i7=>(bi J J b_lss (ag (nl (th (rt ?_))))))))))))))))
 have hr0:(decide (i7.1<0))=(refB s t):=by
  rw[Bool.eq_iff_iff,refB_iff,decide_eq_true_eq];exact i7.2
 exact rE () [.tmp 4] J [bl (decide (i7.1<0))] ⟨.tmp J,tV⟩ (cA1 (fun x0=>rV [bl x0]) hr0) trivial eX
theorem Equal_ok (s t:SS) (hs:oK s) (ht:oK t):
 Fn0 Tryz.prog 107 [spec s,spec t] (bl (eqR s t)):=by
 refine fnI Tryz.func107 rfl rfl (fun w0 F0=> ?_)
 refine fcC (inhS 0 J) (fun hS0=> ?_)
 obtain⟨hsa0,hss0,hse0⟩:=sLn hS0
 refine fcC (inhS 1 J) (fun hS1=> ?_)
 obtain⟨hsa1,hss1,hse1⟩:=sLn hS1
 refine sq (rg (bx (key:=2) (cs:= [sl 1 rE_ s.aC,sl 2 sE s.sT]) J fun b2=>(bx (key:=3) (cs:= [sl 1 rE_ t.aC,sl 2 sE t.sT]) J fun b3=>(ag (nl (th (sq (rg (lPA J J T.agg25 J (lPA J J T.agg25 J (cal0 (φs:= [agg [sl 1 rE_ s.aC,sl 2 sE s.sT],agg [sl 1 rE_ t.aC,sl 2 sE t.sT]]) (φ:=bl (refB s t)) ⟨J,J,tV⟩ (dive.Refines_ok s t aS aS) T.ent154 (mv ?_))))))))))))
 apply gAnd (t:=8) (pd:=12) rfl
 rotate_left
 ·intro hg0 fin
  have hg0':=hg0
  try simp at hg0'
  exact gy J J J hg0 (lPA J J T.agg25 J (gy J J J hg0 (lPA J J T.agg25 J (gy J J J hg0 (cal0 (φs:= [agg [sl 1 rE_ t.aC,sl 2 sE t.sT],agg [sl 1 rE_ s.aC,sl 2 sE s.sT]]) (φ:=bl (refB t s)) ⟨J,J,tV⟩ (dive.Refines_ok t s aS aS) T.ent154 (pkT J hg0 J (drp (X:= [(11,_),(10,_),(9,_)]) ⟨J,J,J,tV⟩ fin)))))))
 ·intro hg0 fin
  exact gn J J J hg0 J J (gn J J J hg0 J J (gn J J J hg0 J J (pkF J hg0 J (drp (X:= [(11,_),(10,_),(9,_)]) ⟨J,J,J,tV⟩ fin))))
 refine ag (nl (th (rt ?_)))
 have hr0:((refB s t)&&(refB t s))=(eqR s t):=by
  first|rfl|simp_all|omega
 exact rE () [.tmp 4] J [bl ((refB s t)&&(refB t s))] ⟨.tmp J,tV⟩ (cA1 (fun x0=>rV [bl x0]) hr0) trivial eX
theorem Fine_ok (g w:SS) (hw:oK w):
 Fn0 Tryz.prog 54 [spec g,spec w] (bl (fineR g w)):=by
 refine fnI Tryz.func54 rfl rfl (fun w0 F0=> ?_)
 refine fcC (inhS 0 J) (fun hS0=> ?_)
 obtain⟨hsa0,hss0,hse0⟩:=sLn hS0
 refine fcC (inhS 1 J) (fun hS1=> ?_)
 obtain⟨hsa1,hss1,hse1⟩:=sLn hS1
 refine sq (rg (bx (key:=2) (cs:= [sl 1 rE_ g.aC,sl 2 sE g.sT]) J fun b2=>(bx (key:=3) (cs:= [sl 1 rE_ w.aC,sl 2 sE w.sT]) J fun b3=>(ag (nl (th (sq (rg (lPA J J T.agg25 J (cal0 (φs:= [agg [sl 1 rE_ g.aC,sl 2 sE g.sT]]) (φ:=bl (specOK g)) ⟨J,tV⟩ (ref03.Is_ok g) T.ent32 (mv ?_)))))))))))
 apply gAnd (t:=7) (pd:=13) rfl
 rotate_left
 ·intro hg0 fin
  have hg0':=hg0
  try simp at hg0'
  exact gy J J J hg0 (fP J T.fld25_0 (gy J J J hg0 (lP J J J T.one22 (gy J J J hg0 (fP J T.fld25_0 (gy J J J hg0 (lP J J J T.one22 (gy J J J hg0 (cal0 (φs:= [sl 1 rE_ g.aC,sl 1 rE_ w.aC]) (φ:=bl (decide (g.aC=w.aC))) ⟨J,J,tV⟩ (ref01.SameStrings_ok _ _) T.ent33 (pkT J hg0 J (drp (X:= [(12,_),(11,_),(10,_),(9,_),(8,_)]) ⟨J,J,J,J,J,tV⟩ fin)))))))))))
 ·intro hg0 fin
  exact gn J J J hg0 J J (gn J J J hg0 J J (gn J J J hg0 J J (gn J J J hg0 J J (gn J J J hg0 J J (pkF J hg0 J (drp (X:= [(12,_),(11,_),(10,_),(9,_),(8,_)]) ⟨J,J,J,J,J,tV⟩ fin))))))
 refine mv ?_
 apply gAnd (t:=14) (pd:=17) rfl
 rotate_left
 ·intro hg1 fin
  have hg1':=hg1
  try simp at hg1'
  have hok:oK g:=okSpec_of (by simp at hg1;exact hg1.1)
  exact gy J J J hg1 (lPA J J T.agg25 J (gy J J J hg1 (cal0 (φs:= [agg [sl 1 rE_ g.aC,sl 2 sE g.sT]]) (φ:=bl (isTrimS g)) ⟨J,tV⟩ (divr.IsTrim_ok g aS) T.ent106 (pkT J hg1 J (drp (X:= [(16,_),(15,_)]) ⟨J,J,tV⟩ fin)))))
 ·intro hg1 fin
  exact gn J J J hg1 J J (gn J J J hg1 J J (pkF J hg1 J (drp (X:= [(16,_),(15,_)]) ⟨J,J,tV⟩ fin)))
 refine mv ?_
 apply gAnd (t:=18) (pd:=22) rfl
 rotate_left
 ·intro hg2 fin
  have hg2':=hg2
  try simp at hg2'
  have hok:oK g:=okSpec_of (by simp at hg2;exact hg2.1.1)
  exact gy J J J hg2 (lPA J J T.agg25 J (gy J J J hg2 (lPA J J T.agg25 J (gy J J J hg2 (cal0 (φs:= [agg [sl 1 rE_ g.aC,sl 2 sE g.sT],agg [sl 1 rE_ w.aC,sl 2 sE w.sT]]) (φ:=bl (eqR g w)) ⟨J,J,tV⟩ (dive.Equal_ok g w aS aS) T.ent107 (pkT J hg2 J (drp (X:= [(21,_),(20,_),(19,_)]) ⟨J,J,J,tV⟩ fin)))))))
 ·intro hg2 fin
  exact gn J J J hg2 J J (gn J J J hg2 J J (gn J J J hg2 J J (pkF J hg2 J (drp (X:= [(21,_),(20,_),(19,_)]) ⟨J,J,J,tV⟩ fin))))
 refine ag (nl (th (rt ?_)))
 have hr0:((((specOK g)&&(decide (g.aC=w.aC)))&&(isTrimS g))&&(eqR g w))=(fineR g w):=by
  first|rfl|simp_all|omega
 exact rE () [.tmp 4] J [bl ((((specOK g)&&(decide (g.aC=w.aC)))&&(isTrimS g))&&(eqR g w))] ⟨.tmp J,tV⟩ (cA1 (fun x0=>rV [bl x0]) hr0) trivial eX
end dive
end
section
namespace LevM2
open ref01 ref03 ref04 ref06 Part Rungs LeftM TrimM BisM BisM5 BisM6 WitM JudgM LevM
def BadM (m:SSys) (t:SS) (p:PP):Prop:=offM m p.1.toNat∉acc t p.2.toNat
def SucM (m:SSys) (t:SS) (p q:PP):Prop:=∃e∈edg m p.1.toNat,q=(e.2,ix (nxt t p.2.toNat) e.1.toNat)
def boxM (m:SSys) (t:SS) (p:PP):Prop:=0≤p.1∧p.1<(m.sT.length:Int)∧0≤p.2∧p.2<(t.sT.length:Int)
theorem sucm_box {m:SSys} {t:SS} (hm:okSys m) (ht:oK t) {p q:PP} (hp:boxM m t p) (hb:¬BadM m t p) (hs:SucM m t p q):boxM m t q:=by
 obtain⟨e,he,rfl⟩:=hs
 obtain⟨p0,p1,p2,p3⟩:=hp
 have ha:offM m p.1.toNat∈acc t p.2.toNat:=Classical.byContradiction hb
 have g1:=hm.ed p.1.toNat O e he
 have g2:=edge_go hm ht (x:=p.1.toNat) (y:=p.2.toNat) O O ha he
 exact⟨g1.2.2.1,g1.2.2.2,g2.2.1,g2.2.2⟩
theorem rchm_box {m:SSys} {t:SS} (hm:okSys m) (ht:oK t) {p:PP} (h:Rch (BadM m t) (SucM m t) p):boxM m t p:=by
 induction h with
 |zero=>exact⟨by simp,by have:=hm.few0;show(0:Int)<_;omega,by simp,by have:=ht.few0;show(0:Int)<_;omega⟩
 |step h1 h2 h3 ih=>exact sucm_box hm ht ih h2 h3
theorem well_sat {m:SSys} {t:SS} (hm:okSys m) (ht:oK t):Well (BadM m t) (SucM m t)↔SatM m t:=by
 constructor
 ·intro hw
  have hacc:∀{x y:Nat},Rch (BadM m t) (SucM m t) ((x:Int),(y:Int))→offM m x∈acc t y:=fun {x y} h=>Classical.byContradiction (hw _ h)
  have hbox:∀{x y:Nat},Rch (BadM m t) (SucM m t) ((x:Int),(y:Int))→x<m.sT.length∧y<t.sT.length:=fun {x y} h=>by
   obtain⟨_,h1,_,h2⟩:=rchm_box hm ht h
   dsimp only at h1 h2
   omega
  refine⟨fun x y=>Rch (BadM m t) (SucM m t) ((x:Int),(y:Int)),⟨fun {x y} h=>(hbox h).2,fun {x y} h=>hacc h,fun {x y} h e he=> ?_,fun {x y} h e he=> ?_⟩,.zero⟩
  ·obtain⟨e',he',rfl⟩:=List.mem_map.1 he
   have:=(edge_go hm ht (hbox h).1 (hbox h).2 (hacc h) he').1
   show e'.1.toNat<_
   rw[(ht.st y (hbox h).2).len];exact this
  ·obtain⟨e',he',rfl⟩:=List.mem_map.1 he
   have hr:Rch (BadM m t) (SucM m t) (e'.2,ix (nxt t y) e'.1.toNat):=Rch.step h (hw _ h) ⟨e',he',rfl⟩
   have hb:=rchm_box hm ht hr
   obtain⟨b0,_,b2,_⟩:=hb
   dsimp only at b0 b2
   refine⟨b2,?_⟩
   show Rch _ _ (((e'.2.toNat:Nat):Int),_)
   rw[Int.toNat_of_nonneg b0,Int.toNat_of_nonneg b2]
   exact hr
 ·rintro⟨R,hR,h0⟩ p hp
  have:boxM m t p∧R p.1.toNat p.2.toNat:=by
   induction hp with
   |zero=>exact⟨rchm_box hm ht .zero,h0⟩
   |step h1 h2 h3 ih=>
    refine⟨sucm_box hm ht ih.1 h2 h3,?_⟩
    obtain⟨e,he,rfl⟩:=h3
    exact(hR.nxt ih.2 _ (List.mem_map.2 ⟨e,he,rfl⟩)).2
  exact fun hb=>hb (hR.acc this.2)
end LevM2
end
end Go.Proofs.YtcjemmihcplgdaaGreatDoor
