/- The walks of the functions and the plain laws. Own texts of this claim, packed: LawOpen, LawOpen2. -/
import Derived.Test.YtolpjmllmlahfaaDoorX06
import Derived.Test.YtolpjmllmlahfaaDoorX07
import Derived.Test.YtolpjmllmlahfaaDoorRows
import Derived.ProofKit
import Derived.LaidMore
import Derived.Lib.LaidTab
import Derived.Lib.SmallJoins
import Derived.OpenShut
import Derived.Stop.Joined
set_option linter.all false
namespace Go.Proofs.YtolpjmllmlahfaaDoor
open AL Go ref01 ref03 ref04 ref06 prog prog2 Itoa
open Go.ChangeShapes Go.WideShapes Go.ChangeAt Go.WideElems Go.RowKit
set_option maxRecDepth 100000
set_option linter.all false
namespace LawOpen
theorem laidOut:laidOutB Tryd.prog=true:=by kernel_rfl
theorem own:ownKnob Tryd.prog.godebug=none:=by kernel_rfl
theorem weights_agg {H:Type} {P:Program} {t:TypeId} {fs:Array Field} {ps:List (DataW H)} (h:P.underlying t=some (.struct fs)):(DataW.agg ps:DataW H).weights P t=DataW.weightsEach P (fs.toList.map (·.type)) ps:=by
 simp[DataW.weights,h]
section
variable {H:Type} {enc:TypeId × Value→H} {W:World}
attribute [local semireducible] agg in
theorem open_stateA {m:Nat} {cs:List Value} {y:DataW H × List MemPlace} (h:DataW.trod enc Tryd.prog W 0 (fun _=>true) true m 69 cs=some y) (hz:∀k∈y.1.weights Tryd.prog 69,k≤reachBytes) (hl:cs.length=2):
 ∃x:SState,All2 W (allF W) (stateE x) cs∧∀t∈x.accept,t<2^63:=by
 obtain⟨y0,y1,n,hx,_,h0,h1⟩:=trod_struct2 Tryd.underlying69 h
 subst hx
 have hz:∀k∈y0.1.weights Tryd.prog 28++(y1.1.weights Tryd.prog 28++ []),k≤reachBytes:=by
  have e:(DataW.agg [y0.1,y1.1]:DataW H).weights Tryd.prog 69=y0.1.weights Tryd.prog 28++(y1.1.weights Tryd.prog 28++ []):=by
   rw[weights_agg Tryd.underlying69]
   simp[DataW.weightsEach]
  rw[←e];exact hz
 have c28:Tryd.prog.cellsOf 28=1:=by kernel_rfl
 have c3:Tryd.prog.cellsOf 3=1:=by kernel_rfl
 have b3:1≤Tryd.prog.bytesOf 3:=by have:Tryd.prog.bytesOf 3=8:=by kernel_rfl
                                   omega
 match cs,hl with
 | [v0,v1],_=>
   have h0:DataW.trod enc Tryd.prog W 0 (fun _=>true) true n 28 (([v0,v1].drop 0).take (Tryd.prog.cellsOf 28))=some y0:=h0
   have h1:DataW.trod enc Tryd.prog W 0 (fun _=>true) true n 28 (([v0,v1].drop 1).take (Tryd.prog.cellsOf 28))=some y1:=h1
   rw[c28] at h0 h1
   obtain⟨ys,g1,g2⟩:=open_intsA Tryd.underlying28 Tryd.underlying3 c3 b3 h0 (fun k hk=>hz k (List.mem_append.2 (.inl hk)))
   obtain⟨zs,g3,_⟩:=open_intsA Tryd.underlying28 Tryd.underlying3 c3 b3 h1 (fun k hk=>hz k (List.mem_append.2 (.inr (List.mem_append.2 (.inl hk)))))
   exact⟨⟨ys,zs⟩,⟨g1,g3,trivial⟩,fun t ht=>by have:=g2 t ht;omega⟩
attribute [local semireducible] agg in
theorem open_specA {r:Reach} {b0:Nat} {v:Value} {d:DataW H} {p:List MemPlace} (hv:Value.okWide Tryd.prog W r b0 25 v) (h:DataW.Trod enc Tryd.prog W 0 (fun _=>true) true 25 v d p) (hz:∀k∈d.weights Tryd.prog 25,k≤reachBytes):
 ∃s:SSpec,(spec s).p W (allF W) v∧smallSpec s:=by
 obtain⟨v0,v1,y0,y1,n,rfl,rfl,rfl,h0,h1⟩:=Go.Joins.open_agg2 Tryd.underlying25 (by kernel_rfl) (by kernel_rfl) hv h
 have hz:∀k∈y0.1.weights Tryd.prog 22++(y1.1.weights Tryd.prog 23++ []),k≤reachBytes:=by
  have e:(DataW.agg [y0.1,y1.1]:DataW H).weights Tryd.prog 25=y0.1.weights Tryd.prog 22++(y1.1.weights Tryd.prog 23++ []):=by
   rw[weights_agg Tryd.underlying25]
   simp[DataW.weightsEach]
  rw[←e];exact hz
 have c9:Tryd.prog.cellsOf 9=1:=by kernel_rfl
 have b9:1≤Tryd.prog.bytesOf 9:=by have:Tryd.prog.bytesOf 9=16:=by kernel_rfl
                                   omega
 have c69:Tryd.prog.cellsOf 69=2:=by kernel_rfl
 have b69:1≤Tryd.prog.bytesOf 69:=by have:Tryd.prog.bytesOf 69=48:=by kernel_rfl
                                     omega
 obtain⟨al,g1⟩:=open_strsA Tryd.underlying22 Tryd.underlying9 c9 b9 h0 (fun k hk=>hz k (List.mem_append.2 (.inl hk)))
 obtain⟨xs,g2,g3⟩:=open_slA (n:=2) (E:=stateE) Tryd.underlying23 c69 (by decide) b69 h1 (fun k hk=>hz k (List.mem_append.2 (.inr (List.mem_append.2 (.inl hk))))) (fun x=> ∀t∈x.accept,t<2^63) (fun m cs y hy hw hl=>open_stateA hy hw hl)
 refine⟨⟨al,xs⟩,⟨[v0,v1],rfl,g1,g2,trivial⟩,fun k hk i hi=> ?_⟩
 have hk:k<xs.length:=hk
 have hi:i<(ix xs k).accept.length:=hi
 exact g3 (ix xs k) (Rungs.ix_memS hk) _ (Rungs.ix_mem hi)
end
abbrev laid3:List (String × DataW Unit):= [("math/bits.deBruijn32tab",Rows.laid_math_bits_deBruijn32tab),("math/bits.deBruijn64tab",Rows.laid_math_bits_deBruijn64tab),("internal/strconv.uint64pow10",Rows.laid_internal_strconv_uint64pow10)]
theorem tab_of_laid {W:World} (h:laidMetH Tryd.prog laid3 W) (v:Value):tab.p W (allF W) v:=by
 rw[MakeChecks.laidMetH_plain _ _ _ (by kernel_rfl)] at h
 obtain⟨ps,⟨g0,t0,cs0,f0,p0,q0,hg0,ht0,hv0,hd0,⟨g1,t1,cs1,f1,p1,q1,hg1,ht1,hv1,hd1,⟨g2,t2,cs2,f2,p2,q2,hg2,ht2,hv2,hd2,_,_⟩,_⟩,_⟩,_,_⟩:=h
 have e0:g2=0:=Option.some.inj (hg2.symm.trans (show Tryd.prog.globalNamed "internal/strconv.uint64pow10" =some 0 by kernel_rfl))
 subst e0
 have e1:t2=208:=Option.some.inj (ht2.symm.trans (show(Tryd.prog.globals[0]?).map (·.type)=some 208 by kernel_rfl))
 subst e1
 have hc:=Lib.cells_of_tab (zs:=Lib.pow10Tab) (k:= .u64) Tryd.underlying208 Tryd.underlying168 (by kernel_rfl) (by kernel_rfl) hd2
 refine⟨0,by kernel_rfl,?_,?_⟩
 ·have h2:=hv2
  unfold World.var? at h2
  rw[show Tryd.prog.globalNamed "internal/strconv.uint64pow10" =some 0 by kernel_rfl] at h2
  simp only [Option.bind_some] at h2
  show 0<W.heap.size
  cases hh:W.heap[0]? with
  |none=>rw[hh] at h2;cases h2
  |some o=>exact(Array.getElem?_eq_some_iff.1 hh).1
 ·unfold Lib.TabIs tabName
  rw[hv2,←hc]
end LawOpen
end Go.Proofs.YtolpjmllmlahfaaDoor
namespace Go.Proofs.YtolpjmllmlahfaaDoor
open AL Go ref01 ref03 ref04 ref06 prog prog2 Itoa LawOpen
open Go.ChangeShapes Go.WideShapes Go.ChangeAt Go.WideElems Go.RowKit
set_option maxRecDepth 100000
set_option linter.all false
namespace LawOpen2
theorem door_met (os:Os) (args:Array Value):laidMetH Tryd.prog laid3 ((World.doorLaid Tryd.prog 400 os).forCall (fun _ _=>0) ⟨#[],args,[]⟩).memory:=
 laidMetH_of_parts3 (fuel:=8) (laidMet_of_run' 8 (by kernel_rfl) (by kernel_rfl)) (by kernel_rfl) (by kernel_rfl)
end LawOpen2
end Go.Proofs.YtolpjmllmlahfaaDoor
