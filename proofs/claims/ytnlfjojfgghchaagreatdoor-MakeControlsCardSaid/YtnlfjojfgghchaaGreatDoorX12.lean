/- The walks of the functions and the plain laws. Own texts of this claim, packed: MksortE, Mkwit. -/
import Derived.Test.YtnlfjojfgghchaaGreatDoorX04
import Derived.Test.YtnlfjojfgghchaaGreatDoorX11
import Derived.Test.YtnlfjojfgghchaaGreatDoorX08
import Derived.Test.YtnlfjojfgghchaaGreatDoorX10
import Derived.Test.YtnlfjojfgghchaaGreatDoorX07
set_option linter.all false
namespace Go.Proofs.YtnlfjojfgghchaaGreatDoor
open AL Go
set_option maxRecDepth 100000
section
open Go.Sort
namespace sortE
def Hd:Go.Shelf.Ren:=⟨fun|6=>116|15=>139|14=>147|28=>173|29=>174|20=>180|21=>181|22=>182|23=>183|24=>184|25=>185|26=>186|27=>187|46=>200|47=>196|48=>197|49=>201|50=>202|57=>210|n=>n,fun|22=>87|24=>94|25=>147|3=>3|39=>183|0=>0|53=>216|55=>219|4=>4|46=>224|45=>223|50=>138|5=>5|9=>9|66=>242|70=>246|76=>255|77=>256|n=>n,fun n=>n⟩
theorem Sm:SlLaysF0.n6 Tryz.prog Hd where
 mixed:=by kernel_rfl
 f6:=⟨"slices.SortFunc[[]makeweight/api.Edge,makeweight/api.Edge]",by decide,Tryz.func116.trans (congrArg some kR)⟩
 f14:=⟨"slices.pdqsortCmpFunc[makeweight/api.Edge]",by decide,Tryz.func147.trans (congrArg some kR)⟩
 f15:=Tryz.func139.trans (congrArg some kR)
 f20:=⟨"slices.insertionSortCmpFunc[makeweight/api.Edge]",by decide,Tryz.func180.trans (congrArg some kR)⟩
 f21:=⟨"slices.heapSortCmpFunc[makeweight/api.Edge]",by decide,Tryz.func181.trans (congrArg some kR)⟩
 f22:=⟨"slices.breakPatternsCmpFunc[makeweight/api.Edge]",by decide,Tryz.func182.trans (congrArg some kR)⟩
 f23:=⟨"slices.choosePivotCmpFunc[makeweight/api.Edge]",by decide,Tryz.func183.trans (congrArg some kR)⟩
 f24:=⟨"slices.reverseRangeCmpFunc[makeweight/api.Edge]",by decide,Tryz.func184.trans (congrArg some kR)⟩
 f25:=⟨"slices.partialInsertionSortCmpFunc[makeweight/api.Edge]",by decide,Tryz.func185.trans (congrArg some kR)⟩
 f26:=⟨"slices.partitionEqualCmpFunc[makeweight/api.Edge]",by decide,Tryz.func186.trans (congrArg some kR)⟩
 f27:=⟨"slices.partitionCmpFunc[makeweight/api.Edge]",by decide,Tryz.func187.trans (congrArg some kR)⟩
 f28:=Tryz.func173.trans (congrArg some kR)
 f29:=Tryz.func174.trans (congrArg some kR)
 f46:=⟨"slices.siftDownCmpFunc[makeweight/api.Edge]",by decide,Tryz.func200.trans (congrArg some kR)⟩
 f47:=Tryz.func196.trans (congrArg some kR)
 f48:=Tryz.func197.trans (congrArg some kR)
 f49:=⟨"slices.medianAdjacentCmpFunc[makeweight/api.Edge]",by decide,Tryz.func201.trans (congrArg some kR)⟩
 f50:=⟨"slices.medianCmpFunc[makeweight/api.Edge]",by decide,Tryz.func202.trans (congrArg some kR)⟩
 f57:=⟨"slices.order2CmpFunc[makeweight/api.Edge]",by decide,Tryz.func210.trans (congrArg some kR)⟩
 t0:=Tryz.underlying0
 a0:=Tryz.isAgg0
 z0:=Tryz.sizeOf0
 v0:=Tryz.zeroValue0
 t3:=Tryz.underlying3
 a3:=Tryz.isAgg3
 z3:=Tryz.sizeOf3
 v3:=Tryz.zeroValue3
 t4:=Tryz.underlying4
 a4:=Tryz.isAgg4
 z4:=Tryz.sizeOf4
 v4:=Tryz.zeroValue4
 t5:=Tryz.underlying5
 a5:=Tryz.isAgg5
 z5:=Tryz.sizeOf5
 v5:=Tryz.zeroValue5
 t9:=Tryz.underlying9
 a9:=Tryz.isAgg9
 z9:=Tryz.sizeOf9
 v9:=Tryz.zeroValue9
 t22:=Tryz.underlying87
 a22:=Tryz.isAgg87
 z22:=Tryz.sizeOf87
 v22:=Tryz.zeroValue87
 t25:=Tryz.underlying147
 a25:=Tryz.isAgg147
 z25:=Tryz.sizeOf147
 v25:=Tryz.zeroValue147
 t39:=Tryz.underlying183
 a39:=Tryz.isAgg183
 z39:=Tryz.sizeOf183
 v39:=Tryz.zeroValue183
 t45:=Tryz.underlying223
 a45:=Tryz.isAgg223
 z45:=Tryz.sizeOf223
 v45:=Tryz.zeroValue223
 t46:=Tryz.underlying224
 a46:=Tryz.isAgg224
 z46:=Tryz.sizeOf224
 v46:=Tryz.zeroValue224
 t50:=Tryz.underlying138
 a50:=Tryz.isAgg138
 z50:=Tryz.sizeOf138
 v50:=Tryz.zeroValue138
 t53:=Tryz.underlying216
 a53:=Tryz.isAgg216
 z53:=Tryz.sizeOf216
 v53:=Tryz.zeroValue216
 t55:=Tryz.underlying219
 a55:=Tryz.isAgg219
 z55:=Tryz.sizeOf219
 v55:=Tryz.zeroValue219
 t66:=Tryz.underlying242
 a66:=Tryz.isAgg242
 z66:=Tryz.sizeOf242
 v66:=Tryz.zeroValue242
 t70:=Tryz.underlying246
 a70:=Tryz.isAgg246
 z70:=Tryz.sizeOf246
 v70:=Tryz.zeroValue246
 t76:=Tryz.underlying255
 a76:=Tryz.isAgg255
 z76:=Tryz.sizeOf255
 v76:=Tryz.zeroValue255
 t77:=Tryz.underlying256
 a77:=Tryz.isAgg256
 z77:=Tryz.sizeOf256
 v77:=Tryz.zeroValue256
def He:Go.Shelf.Ren:=⟨fun|6=>100|15=>139|14=>138|28=>173|29=>174|20=>165|21=>166|22=>167|23=>168|24=>169|25=>170|26=>171|27=>172|46=>195|47=>196|48=>197|49=>198|50=>199|57=>209|n=>n,fun|22=>65|24=>80|25=>136|3=>3|39=>183|0=>0|53=>216|55=>219|4=>4|46=>224|45=>223|50=>138|5=>5|9=>9|66=>242|70=>246|76=>255|77=>256|n=>n,fun n=>n⟩
theorem Ig:SlLaysF0.n6 Tryz.prog He where
 mixed:=by kernel_rfl
 f6:=⟨"slices.SortFunc[[][2]int,[2]int]",by decide,Tryz.func100.trans (congrArg some kR)⟩
 f14:=⟨"slices.pdqsortCmpFunc[[2]int]",by decide,Tryz.func138.trans (congrArg some kR)⟩
 f15:=Tryz.func139.trans (congrArg some kR)
 f20:=⟨"slices.insertionSortCmpFunc[[2]int]",by decide,Tryz.func165.trans (congrArg some kR)⟩
 f21:=⟨"slices.heapSortCmpFunc[[2]int]",by decide,Tryz.func166.trans (congrArg some kR)⟩
 f22:=⟨"slices.breakPatternsCmpFunc[[2]int]",by decide,Tryz.func167.trans (congrArg some kR)⟩
 f23:=⟨"slices.choosePivotCmpFunc[[2]int]",by decide,Tryz.func168.trans (congrArg some kR)⟩
 f24:=⟨"slices.reverseRangeCmpFunc[[2]int]",by decide,Tryz.func169.trans (congrArg some kR)⟩
 f25:=⟨"slices.partialInsertionSortCmpFunc[[2]int]",by decide,Tryz.func170.trans (congrArg some kR)⟩
 f26:=⟨"slices.partitionEqualCmpFunc[[2]int]",by decide,Tryz.func171.trans (congrArg some kR)⟩
 f27:=⟨"slices.partitionCmpFunc[[2]int]",by decide,Tryz.func172.trans (congrArg some kR)⟩
 f28:=Tryz.func173.trans (congrArg some kR)
 f29:=Tryz.func174.trans (congrArg some kR)
 f46:=⟨"slices.siftDownCmpFunc[[2]int]",by decide,Tryz.func195.trans (congrArg some kR)⟩
 f47:=Tryz.func196.trans (congrArg some kR)
 f48:=Tryz.func197.trans (congrArg some kR)
 f49:=⟨"slices.medianAdjacentCmpFunc[[2]int]",by decide,Tryz.func198.trans (congrArg some kR)⟩
 f50:=⟨"slices.medianCmpFunc[[2]int]",by decide,Tryz.func199.trans (congrArg some kR)⟩
 f57:=⟨"slices.order2CmpFunc[[2]int]",by decide,Tryz.func209.trans (congrArg some kR)⟩
 t0:=Tryz.underlying0
 a0:=Tryz.isAgg0
 z0:=Tryz.sizeOf0
 v0:=Tryz.zeroValue0
 t3:=Tryz.underlying3
 a3:=Tryz.isAgg3
 z3:=Tryz.sizeOf3
 v3:=Tryz.zeroValue3
 t4:=Tryz.underlying4
 a4:=Tryz.isAgg4
 z4:=Tryz.sizeOf4
 v4:=Tryz.zeroValue4
 t5:=Tryz.underlying5
 a5:=Tryz.isAgg5
 z5:=Tryz.sizeOf5
 v5:=Tryz.zeroValue5
 t9:=Tryz.underlying9
 a9:=Tryz.isAgg9
 z9:=Tryz.sizeOf9
 v9:=Tryz.zeroValue9
 t22:=Tryz.underlying65
 a22:=Tryz.isAgg65
 z22:=Tryz.sizeOf65
 v22:=Tryz.zeroValue65
 t25:=Tryz.underlying136
 a25:=Tryz.isAgg136
 z25:=Tryz.sizeOf136
 v25:=Tryz.zeroValue136
 t39:=Tryz.underlying183
 a39:=Tryz.isAgg183
 z39:=Tryz.sizeOf183
 v39:=Tryz.zeroValue183
 t45:=Tryz.underlying223
 a45:=Tryz.isAgg223
 z45:=Tryz.sizeOf223
 v45:=Tryz.zeroValue223
 t46:=Tryz.underlying224
 a46:=Tryz.isAgg224
 z46:=Tryz.sizeOf224
 v46:=Tryz.zeroValue224
 t50:=Tryz.underlying138
 a50:=Tryz.isAgg138
 z50:=Tryz.sizeOf138
 v50:=Tryz.zeroValue138
 t53:=Tryz.underlying216
 a53:=Tryz.isAgg216
 z53:=Tryz.sizeOf216
 v53:=Tryz.zeroValue216
 t55:=Tryz.underlying219
 a55:=Tryz.isAgg219
 z55:=Tryz.sizeOf219
 v55:=Tryz.zeroValue219
 t66:=Tryz.underlying242
 a66:=Tryz.isAgg242
 z66:=Tryz.sizeOf242
 v66:=Tryz.zeroValue242
 t70:=Tryz.underlying246
 a70:=Tryz.isAgg246
 z70:=Tryz.sizeOf246
 v70:=Tryz.zeroValue246
 t76:=Tryz.underlying255
 a76:=Tryz.isAgg255
 z76:=Tryz.sizeOf255
 v76:=Tryz.zeroValue255
 t77:=Tryz.underlying256
 a77:=Tryz.isAgg256
 z77:=Tryz.sizeOf256
 v77:=Tryz.zeroValue256
def cfE (p q:BP):Int:=if p.1.1=q.1.1 then p.1.2- q.1.2 else p.1.1- q.1.1
theorem Sn (p q:BP):decide (cfE p q<0)=lexB p.1 q.1:=by
 obtain⟨⟨p1,p2⟩,hp⟩:=p
 obtain⟨⟨q1,q2⟩,hq⟩:=q
 unfold cfE lexB
 dsimp only
 split
 ·next h=>subst h;simp;omega
 ·next h=>simp[h];omega
theorem Sq (p q:BP) (W:World):Calls Tryz.prog 114 #[.agg #[.int .i64 p.1.1,.int .i64 p.1.2],.agg #[.int .i64 q.1.1,.int .i64 q.1.2]] W fun en W'=>en= .returned (.int .i64 (cfE p q))∧∃n os,W'=grow (W.drewN n) os:=by
 obtain⟨⟨p1,p2⟩,hp⟩:=p
 obtain⟨⟨q1,q2⟩,hq⟩:=q
 unfold bdP at hp hq
 dsimp only at hp hq ⊢
 go_enter Tryz.func114,Tryz.ntmps114
 go_wp2
 ·rename_i h
  go_ret
  refine⟨?_,0,#[Obj.cells #[Value.int IntKind.i64 p1,Value.int IntKind.i64 p2] 94,Obj.cells #[Value.int IntKind.i64 q1,Value.int IntKind.i64 q2] 94],rfl⟩
  unfold cfE;rw[if_neg (by simpa using h)];rfl
 ·rename_i h
  go_ret
  refine⟨?_,0,#[Obj.cells #[Value.int IntKind.i64 p1,Value.int IntKind.i64 p2] 94,Obj.cells #[Value.int IntKind.i64 q1,Value.int IntKind.i64 q2] 94],rfl⟩
  unfold cfE;rw[if_pos (by simpa using h)];rfl
theorem uF (v:Value) (xs:List (Int × Int)) (hb:∀p∈xs,bdP p):AL.Fn Tryz.prog 116 [osl 5 v,eqv (.func (.func 114) #[] #[])] [(5,own v 94 2 pE xs)] (ι:=Unit) (fun _ _=>tup []) (fun _=> [(5,own v 94 2 pE (cG xs))]):=
 CH Sm rfl (iU kR) (aN kR) cfE Sn Sq v xs hb
def cfI (x y:Int):Int:=if x<y then-1 else if y<x then 1 else 0
def cfL (p1 p2 q1 q2:Int):Int:=if cfI p1 q1=0 then cfI p2 q2 else cfI p1 q1
def cfP (p q:BP):Int:=cfL p.1.1 p.1.2 q.1.1 q.1.2
theorem Ih (p q:BP):decide (cfP p q<0)=lexB p.1 q.1:=by
 obtain⟨⟨p1,p2⟩,hp⟩:=p
 obtain⟨⟨q1,q2⟩,hq⟩:=q
 unfold cfP cfL cfI lexB
 dsimp only
 by_cases h1:p1<q1
 ·simp[h1]
 ·by_cases h2:q1<p1
  ·simp[h1,h2];omega
  ·have h3:p1=q1:=by omega
   subst h3
   by_cases g1:p2<q2
   ·simp[g1]
   ·by_cases g2:q2<p2<;>simp[g1,g2]
theorem Ii (x y:Int) (W:World):Calls Tryz.prog 140 #[.int .i64 x,.int .i64 y] W fun en W'=>en= .returned (.int .i64 (cfI x y))∧W'=W:=by
 go_enter Tryz.func140,Tryz.ntmps140
 go_wp2
 all_goals go_ret
 all_goals refine⟨?_,rfl⟩
 all_goals simp_all [cfI]
 all_goals try omega
theorem Ij (p1 p2 q1 q2:Int) (W:World) (b c:Nat) (h1:W.cell? ⟨b,0,none⟩=some (.int .i64 p1)) (h2:W.cell? ⟨b,1,none⟩=some (.int .i64 p2)) (h3:W.cell? ⟨c,0,none⟩=some (.int .i64 q1)) (h4:W.cell? ⟨c,1,none⟩=some (.int .i64 q2)):
 Calls Tryz.prog 102 #[.slice (some ⟨b,0,none⟩) 2 2,.slice (some ⟨c,0,none⟩) 2 2] W fun en W'=>en= .returned (.int .i64 (cfL p1 p2 q1 q2))∧W'=W:=by
 unfold cfL
 generalize hr:(if cfI p1 q1=0 then cfI p2 q2 else cfI p1 q1)=r
 generalize hu:cfI p1 q1=u at hr
 generalize hv:cfI p2 q2=v at hr
 go_enter Tryz.func102,Tryz.ntmps102
 go_wp2
 refine wp_loop_rounds 3 ?_
 rw[rounds_succ]
 go_wp2_with (first|(go_at_call 140;refine(Ii _ _ _).mono ?_;rintro e w' ⟨rfl,rfl⟩;rw[hu]))
 ·rename_i h
  go_ret;refine⟨?_,rfl⟩;rw[←hr,if_neg (by simpa using h)];rfl
 ·rename_i h
  rw[rounds_succ]
  go_wp2_with (first|(go_at_call 140;refine(Ii _ _ _).mono ?_;rintro e w' ⟨rfl,rfl⟩;rw[hv]))
  ·go_ret;refine⟨?_,rfl⟩;rw[←hr,if_pos (by simpa using h)];rfl
  ·rename_i h2
   rw[rounds_succ]
   go_wp2
   go_ret;refine⟨?_,rfl⟩;rw[←hr,if_pos (by simpa using h)]
   have:v=0:=by simpa using h2
   rw[this];rfl
theorem Sr (p q:BP) (W:World):Calls Tryz.prog 118 #[.agg #[.int .i64 p.1.1,.int .i64 p.1.2],.agg #[.int .i64 q.1.1,.int .i64 q.1.2]] W fun en W'=>en= .returned (.int .i64 (cfP p q))∧∃n os,W'=grow (W.drewN n) os:=by
 obtain⟨⟨p1,p2⟩,hp⟩:=p
 obtain⟨⟨q1,q2⟩,hq⟩:=q
 show Calls Tryz.prog 118 #[.agg #[.int .i64 p1,.int .i64 p2],.agg #[.int .i64 q1,.int .i64 q2]] W fun en W'=>en= .returned (.int .i64 (cfL p1 p2 q1 q2))∧∃n os,W'=grow (W.drewN n) os
 have mixed:Tryz.prog.follows .mixedOrders=true:=by kernel_rfl
 go_enter Tryz.func118,Tryz.ntmps118
 go_wp2
 generalize hW:(W.alloc (Obj.cells #[Value.int IntKind.i64 p1,Value.int IntKind.i64 p2] 80)).alloc (Obj.cells #[Value.int IntKind.i64 q1,Value.int IntKind.i64 q2] 80)=W2
 have g1:∀n os,(grow (W2.drewN n) os).cell? ⟨W.heap.size,0,none⟩=some (.int .i64 p1):=cell_grown (by rw[←hW];simp;omega) (by rw[←hW];simp)
 have g2:∀n os,(grow (W2.drewN n) os).cell? ⟨W.heap.size,1,none⟩=some (.int .i64 p2):=cell_grown (by rw[←hW];simp;omega) (by rw[←hW];simp)
 have g3:∀n os,(grow (W2.drewN n) os).cell? ⟨W.heap.size+1,0,none⟩=some (.int .i64 q1):=cell_grown (by rw[←hW];simp) (by rw[←hW];simp)
 have g4:∀n os,(grow (W2.drewN n) os).cell? ⟨W.heap.size+1,1,none⟩=some (.int .i64 q2):=cell_grown (by rw[←hW];simp) (by rw[←hW];simp)
 go_quiet_grown (first|(go_at_call 102;refine Calls.grown_of ((Ij p1 p2 q1 q2 _ _ _ (g1 _ _) (g2 _ _) (g3 _ _) (g4 _ _)).mono fun _ _ h=>⟨h.1,0,#[],by rw[h.2,grow_empty];rfl⟩)))
 go_wp2
 go_ret
 refine⟨rfl,nq,#[Obj.cells #[Value.int IntKind.i64 p1,Value.int IntKind.i64 p2] 80,Obj.cells #[Value.int IntKind.i64 q1,Value.int IntKind.i64 q2] 80]++osq,?_⟩
 rw[←hW]
 show grow (grow (W.drewN nq) #[_,_]) osq=_
 rw[grow_grow]
theorem Hg (v:Value) (xs:List (Int × Int)) (hb:∀p∈xs,bdP p):AL.Fn Tryz.prog 100 [osl 5 v,eqv (.func (.func 118) #[] #[])] [(5,own v 80 2 pE xs)] (ι:=Unit) (fun _ _=>tup []) (fun _=> [(5,own v 80 2 pE (cG xs))]):=
 CH Ig rfl (iU kR) (aN kR) cfP Ih Sr v xs hb
theorem Su (p q:BP) (W:World):Calls Tryz.prog 101 #[.agg #[.int .i64 p.1.1,.int .i64 p.1.2],.agg #[.int .i64 q.1.1,.int .i64 q.1.2]] W fun en W'=>en= .returned (.int .i64 (cfP p q))∧∃n os,W'=grow (W.drewN n) os:=by
 obtain⟨⟨p1,p2⟩,hp⟩:=p
 obtain⟨⟨q1,q2⟩,hq⟩:=q
 show Calls Tryz.prog 101 #[.agg #[.int .i64 p1,.int .i64 p2],.agg #[.int .i64 q1,.int .i64 q2]] W fun en W'=>en= .returned (.int .i64 (cfL p1 p2 q1 q2))∧∃n os,W'=grow (W.drewN n) os
 have mixed:Tryz.prog.follows .mixedOrders=true:=by kernel_rfl
 go_enter Tryz.func101,Tryz.ntmps101
 go_wp2
 generalize hW:(W.alloc (Obj.cells #[Value.int IntKind.i64 p1,Value.int IntKind.i64 p2] 80)).alloc (Obj.cells #[Value.int IntKind.i64 q1,Value.int IntKind.i64 q2] 80)=W2
 have g1:∀n os,(grow (W2.drewN n) os).cell? ⟨W.heap.size,0,none⟩=some (.int .i64 p1):=cell_grown (by rw[←hW];simp;omega) (by rw[←hW];simp)
 have g2:∀n os,(grow (W2.drewN n) os).cell? ⟨W.heap.size,1,none⟩=some (.int .i64 p2):=cell_grown (by rw[←hW];simp;omega) (by rw[←hW];simp)
 have g3:∀n os,(grow (W2.drewN n) os).cell? ⟨W.heap.size+1,0,none⟩=some (.int .i64 q1):=cell_grown (by rw[←hW];simp) (by rw[←hW];simp)
 have g4:∀n os,(grow (W2.drewN n) os).cell? ⟨W.heap.size+1,1,none⟩=some (.int .i64 q2):=cell_grown (by rw[←hW];simp) (by rw[←hW];simp)
 go_quiet_grown (first|(go_at_call 102;refine Calls.grown_of ((Ij p1 p2 q1 q2 _ _ _ (g1 _ _) (g2 _ _) (g3 _ _) (g4 _ _)).mono fun _ _ h=>⟨h.1,0,#[],by rw[h.2,grow_empty];rfl⟩)))
 go_wp2
 go_ret
 refine⟨rfl,nq,#[Obj.cells #[Value.int IntKind.i64 p1,Value.int IntKind.i64 p2] 80,Obj.cells #[Value.int IntKind.i64 q1,Value.int IntKind.i64 q2] 80]++osq,?_⟩
 rw[←hW]
 show grow (grow (W.drewN nq) #[_,_]) osq=_
 rw[grow_grow]
theorem Hh (v:Value) (xs:List (Int × Int)) (hb:∀p∈xs,bdP p):AL.Fn Tryz.prog 100 [osl 5 v,eqv (.func (.func 101) #[] #[])] [(5,own v 80 2 pE xs)] (ι:=Unit) (fun _ _=>tup []) (fun _=> [(5,own v 80 2 pE (cG xs))]):=
 CH Ig rfl (iU kR) (aN kR) cfP Ih Su v xs hb
end sortE
end
section
open ref01 ref03 ref04 ref06 prog prog2 prog3 prog4 prog5 prog6 prog13 prog15 starts search Part Rungs LeftM TrimM RoundM BisM BisM5 WalkM StepM WitM refw judg
def gE:List (Int × Int)→List AV:=fun l=> [sl 2 pE l]
def kX (N:Nat):List (Int × Int)→List AV:=fun l=> [fre N (sl 2 pE l)]
instance (l:List (Int × Int)):OneAll (gE l):=inferInstanceAs (OneAll [sl 2 pE l])
instance (N:Nat) (l:List (Int × Int)):OneAll (kX N l):=inferInstanceAs (OneAll [fre N (sl 2 pE l)])
abbrev sys (m:aA):AV:=agg [strs m.aC,sl 1 gE m.sT]
abbrev Vs (N:Nat) (m:aA):AV:=agg [fre N (strs m.aC),fre N (sl 1 gE m.sT)]
instance:FlatE pE:=Xh (f:=fun p:Int × Int=> .int .i64 p.1) (g:=fun p=> .int .i64 p.2)
def kZ (x:Int):AV:=int x
namespace T
theorem z213:eR Tryz.prog 213 [.int .i64 0,.int .i64 0]:=cR kR
end T
namespace wit
end wit
end
end Go.Proofs.YtnlfjojfgghchaaGreatDoor
