/- The walks of the functions and the plain laws. Own texts of this claim, packed: MksortE, Mkwit. -/
import Derived.Test.YtnlfjojfgghchaaGreatDoorX03
import Derived.Test.YtnlfjojfgghchaaGreatDoorX11
import Derived.Test.YtnlfjojfgghchaaGreatDoorX08
import Derived.Test.YtnlfjojfgghchaaGreatDoorX10
import Derived.Test.YtnlfjojfgghchaaGreatDoorX07
import Derived.Test.YtnlfjojfgghchaaGreatDoorX04
set_option linter.all false
namespace Go.Proofs.YtnlfjojfgghchaaGreatDoor
open AL Go
set_option maxRecDepth 100000
section
open Go.Sort
namespace sortE
def Ik:Go.Shelf.Ren:=⟨fun|6=>116|15=>139|14=>147|28=>173|29=>174|20=>180|21=>181|22=>182|23=>183|24=>184|25=>185|26=>186|27=>187|46=>200|47=>196|48=>197|49=>201|50=>202|57=>210|n=>n,fun|22=>87|24=>94|25=>147|3=>3|39=>183|0=>0|53=>216|55=>219|4=>4|46=>224|45=>223|50=>138|5=>5|9=>9|66=>242|70=>246|76=>255|77=>256|n=>n,fun n=>n⟩
theorem Jh:SlLaysF0.n6 Tryz.prog Ik where
 mixed:=by kernel_rfl
 f6:=⟨"slices.SortFunc[[]makeweight/api.Edge,makeweight/api.Edge]",by decide,Tryz.func116.trans (congrArg some kR)⟩
 f14:=⟨"slices.pdqsortCmpFunc[makeweight/api.Edge]",by decide,Tryz.func147.trans (congrArg some kR)⟩
 f15:=Tryz.func139.trans (congrArg some kR)
 f20:=⟨"slices.insertionSortCmpFunc[makeweight/api.Edge]",by decide,Tryz.func180.trans (congrArg some kR)⟩
 f21:=⟨"slices.heapSortCmpFunc[makeweight/api.Edge]",by decide,Tryz.func181.trans (congrArg some kR)⟩
 f22:=⟨"slices.breakPatternsCmpFunc[makeweight/api.Edge]",by decide,Tryz.func182.trans (congrArg some kR)⟩
 f23:=⟨"slices.choosePivotCmpFunc[makeweight/api.Edge]",by decide,Tryz.func183.trans (congrArg some kR)⟩
 f24:=⟨"slices.reverseRangeCmpFunc[makeweight/api.Edge]",by decide,Tryz.func184.trans (congrArg some kR)⟩
 f25:=⟨"slices.partialInsertionSortCmpFunc[makeweight/api.Edge]",by decide,Tryz.func185.trans (congrArg some kR)⟩
 f26:=⟨"slices.partitionEqualCmpFunc[makeweight/api.Edge]",by decide,Tryz.func186.trans (congrArg some kR)⟩
 f27:=⟨"slices.partitionCmpFunc[makeweight/api.Edge]",by decide,Tryz.func187.trans (congrArg some kR)⟩
 f28:=Tryz.func173.trans (congrArg some kR)
 f29:=Tryz.func174.trans (congrArg some kR)
 f46:=⟨"slices.siftDownCmpFunc[makeweight/api.Edge]",by decide,Tryz.func200.trans (congrArg some kR)⟩
 f47:=Tryz.func196.trans (congrArg some kR)
 f48:=Tryz.func197.trans (congrArg some kR)
 f49:=⟨"slices.medianAdjacentCmpFunc[makeweight/api.Edge]",by decide,Tryz.func201.trans (congrArg some kR)⟩
 f50:=⟨"slices.medianCmpFunc[makeweight/api.Edge]",by decide,Tryz.func202.trans (congrArg some kR)⟩
 f57:=⟨"slices.order2CmpFunc[makeweight/api.Edge]",by decide,Tryz.func210.trans (congrArg some kR)⟩
 t0:=Tryz.underlying0
 a0:=Tryz.isAgg0
 z0:=Tryz.sizeOf0
 v0:=Tryz.zeroValue0
 t3:=Tryz.underlying3
 a3:=Tryz.isAgg3
 z3:=Tryz.sizeOf3
 v3:=Tryz.zeroValue3
 t4:=Tryz.underlying4
 a4:=Tryz.isAgg4
 z4:=Tryz.sizeOf4
 v4:=Tryz.zeroValue4
 t5:=Tryz.underlying5
 a5:=Tryz.isAgg5
 z5:=Tryz.sizeOf5
 v5:=Tryz.zeroValue5
 t9:=Tryz.underlying9
 a9:=Tryz.isAgg9
 z9:=Tryz.sizeOf9
 v9:=Tryz.zeroValue9
 t22:=Tryz.underlying87
 a22:=Tryz.isAgg87
 z22:=Tryz.sizeOf87
 v22:=Tryz.zeroValue87
 t25:=Tryz.underlying147
 a25:=Tryz.isAgg147
 z25:=Tryz.sizeOf147
 v25:=Tryz.zeroValue147
 t39:=Tryz.underlying183
 a39:=Tryz.isAgg183
 z39:=Tryz.sizeOf183
 v39:=Tryz.zeroValue183
 t45:=Tryz.underlying223
 a45:=Tryz.isAgg223
 z45:=Tryz.sizeOf223
 v45:=Tryz.zeroValue223
 t46:=Tryz.underlying224
 a46:=Tryz.isAgg224
 z46:=Tryz.sizeOf224
 v46:=Tryz.zeroValue224
 t50:=Tryz.underlying138
 a50:=Tryz.isAgg138
 z50:=Tryz.sizeOf138
 v50:=Tryz.zeroValue138
 t53:=Tryz.underlying216
 a53:=Tryz.isAgg216
 z53:=Tryz.sizeOf216
 v53:=Tryz.zeroValue216
 t55:=Tryz.underlying219
 a55:=Tryz.isAgg219
 z55:=Tryz.sizeOf219
 v55:=Tryz.zeroValue219
 t66:=Tryz.underlying242
 a66:=Tryz.isAgg242
 z66:=Tryz.sizeOf242
 v66:=Tryz.zeroValue242
 t70:=Tryz.underlying246
 a70:=Tryz.isAgg246
 z70:=Tryz.sizeOf246
 v70:=Tryz.zeroValue246
 t76:=Tryz.underlying255
 a76:=Tryz.isAgg255
 z76:=Tryz.sizeOf255
 v76:=Tryz.zeroValue255
 t77:=Tryz.underlying256
 a77:=Tryz.isAgg256
 z77:=Tryz.sizeOf256
 v77:=Tryz.zeroValue256
def Il:Go.Shelf.Ren:=⟨fun|6=>100|15=>139|14=>138|28=>173|29=>174|20=>165|21=>166|22=>167|23=>168|24=>169|25=>170|26=>171|27=>172|46=>195|47=>196|48=>197|49=>198|50=>199|57=>209|n=>n,fun|22=>65|24=>80|25=>136|3=>3|39=>183|0=>0|53=>216|55=>219|4=>4|46=>224|45=>223|50=>138|5=>5|9=>9|66=>242|70=>246|76=>255|77=>256|n=>n,fun n=>n⟩
theorem Ji:SlLaysF0.n6 Tryz.prog Il where
 mixed:=by kernel_rfl
 f6:=⟨"slices.SortFunc[[][2]int,[2]int]",by decide,Tryz.func100.trans (congrArg some kR)⟩
 f14:=⟨"slices.pdqsortCmpFunc[[2]int]",by decide,Tryz.func138.trans (congrArg some kR)⟩
 f15:=Tryz.func139.trans (congrArg some kR)
 f20:=⟨"slices.insertionSortCmpFunc[[2]int]",by decide,Tryz.func165.trans (congrArg some kR)⟩
 f21:=⟨"slices.heapSortCmpFunc[[2]int]",by decide,Tryz.func166.trans (congrArg some kR)⟩
 f22:=⟨"slices.breakPatternsCmpFunc[[2]int]",by decide,Tryz.func167.trans (congrArg some kR)⟩
 f23:=⟨"slices.choosePivotCmpFunc[[2]int]",by decide,Tryz.func168.trans (congrArg some kR)⟩
 f24:=⟨"slices.reverseRangeCmpFunc[[2]int]",by decide,Tryz.func169.trans (congrArg some kR)⟩
 f25:=⟨"slices.partialInsertionSortCmpFunc[[2]int]",by decide,Tryz.func170.trans (congrArg some kR)⟩
 f26:=⟨"slices.partitionEqualCmpFunc[[2]int]",by decide,Tryz.func171.trans (congrArg some kR)⟩
 f27:=⟨"slices.partitionCmpFunc[[2]int]",by decide,Tryz.func172.trans (congrArg some kR)⟩
 f28:=Tryz.func173.trans (congrArg some kR)
 f29:=Tryz.func174.trans (congrArg some kR)
 f46:=⟨"slices.siftDownCmpFunc[[2]int]",by decide,Tryz.func195.trans (congrArg some kR)⟩
 f47:=Tryz.func196.trans (congrArg some kR)
 f48:=Tryz.func197.trans (congrArg some kR)
 f49:=⟨"slices.medianAdjacentCmpFunc[[2]int]",by decide,Tryz.func198.trans (congrArg some kR)⟩
 f50:=⟨"slices.medianCmpFunc[[2]int]",by decide,Tryz.func199.trans (congrArg some kR)⟩
 f57:=⟨"slices.order2CmpFunc[[2]int]",by decide,Tryz.func209.trans (congrArg some kR)⟩
 t0:=Tryz.underlying0
 a0:=Tryz.isAgg0
 z0:=Tryz.sizeOf0
 v0:=Tryz.zeroValue0
 t3:=Tryz.underlying3
 a3:=Tryz.isAgg3
 z3:=Tryz.sizeOf3
 v3:=Tryz.zeroValue3
 t4:=Tryz.underlying4
 a4:=Tryz.isAgg4
 z4:=Tryz.sizeOf4
 v4:=Tryz.zeroValue4
 t5:=Tryz.underlying5
 a5:=Tryz.isAgg5
 z5:=Tryz.sizeOf5
 v5:=Tryz.zeroValue5
 t9:=Tryz.underlying9
 a9:=Tryz.isAgg9
 z9:=Tryz.sizeOf9
 v9:=Tryz.zeroValue9
 t22:=Tryz.underlying65
 a22:=Tryz.isAgg65
 z22:=Tryz.sizeOf65
 v22:=Tryz.zeroValue65
 t25:=Tryz.underlying136
 a25:=Tryz.isAgg136
 z25:=Tryz.sizeOf136
 v25:=Tryz.zeroValue136
 t39:=Tryz.underlying183
 a39:=Tryz.isAgg183
 z39:=Tryz.sizeOf183
 v39:=Tryz.zeroValue183
 t45:=Tryz.underlying223
 a45:=Tryz.isAgg223
 z45:=Tryz.sizeOf223
 v45:=Tryz.zeroValue223
 t46:=Tryz.underlying224
 a46:=Tryz.isAgg224
 z46:=Tryz.sizeOf224
 v46:=Tryz.zeroValue224
 t50:=Tryz.underlying138
 a50:=Tryz.isAgg138
 z50:=Tryz.sizeOf138
 v50:=Tryz.zeroValue138
 t53:=Tryz.underlying216
 a53:=Tryz.isAgg216
 z53:=Tryz.sizeOf216
 v53:=Tryz.zeroValue216
 t55:=Tryz.underlying219
 a55:=Tryz.isAgg219
 z55:=Tryz.sizeOf219
 v55:=Tryz.zeroValue219
 t66:=Tryz.underlying242
 a66:=Tryz.isAgg242
 z66:=Tryz.sizeOf242
 v66:=Tryz.zeroValue242
 t70:=Tryz.underlying246
 a70:=Tryz.isAgg246
 z70:=Tryz.sizeOf246
 v70:=Tryz.zeroValue246
 t76:=Tryz.underlying255
 a76:=Tryz.isAgg255
 z76:=Tryz.sizeOf255
 v76:=Tryz.zeroValue255
 t77:=Tryz.underlying256
 a77:=Tryz.isAgg256
 z77:=Tryz.sizeOf256
 v77:=Tryz.zeroValue256
def cfE (p q:BP):Int:=if p.1.1=q.1.1 then p.1.2- q.1.2 else p.1.1- q.1.1
theorem Jj (p q:BP):decide (cfE p q<0)=lexB p.1 q.1:=by
 obtain⟨⟨p1,p2⟩,hp⟩:=p
 obtain⟨⟨q1,q2⟩,hq⟩:=q
 unfold cfE lexB
 dsimp only
 split
 ·next h=>subst h;simp;omega
 ·next h=>simp[h];omega
theorem SX (p q:BP) (W:World):Calls Tryz.prog 159 #[.agg #[.int .i64 p.1.1,.int .i64 p.1.2],.agg #[.int .i64 q.1.1,.int .i64 q.1.2]] W fun en W'=>en= .returned (.int .i64 (cfE p q))∧∃n os,W'=grow (W.drewN n) os:=by
 obtain⟨⟨p1,p2⟩,hp⟩:=p
 obtain⟨⟨q1,q2⟩,hq⟩:=q
 unfold bdP at hp hq
 dsimp only at hp hq ⊢
 go_enter Tryz.func159,Tryz.ntmps159
 go_wp2
 ·rename_i h
  go_ret
  refine⟨?_,0,#[Obj.cells #[Value.int IntKind.i64 p1,Value.int IntKind.i64 p2] 94,Obj.cells #[Value.int IntKind.i64 q1,Value.int IntKind.i64 q2] 94],rfl⟩
  unfold cfE;rw[if_neg (by simpa using h)];rfl
 ·rename_i h
  go_ret
  refine⟨?_,0,#[Obj.cells #[Value.int IntKind.i64 p1,Value.int IntKind.i64 p2] 94,Obj.cells #[Value.int IntKind.i64 q1,Value.int IntKind.i64 q2] 94],rfl⟩
  unfold cfE;rw[if_pos (by simpa using h)];rfl
theorem Im (v:Value) (xs:List (Int × Int)) (hb:∀p∈xs,bdP p):AL.Fn Tryz.prog 116 [osl 5 v,eqv (.func (.func 159) #[] #[])] [(5,own v 94 2 pE xs)] (ι:=Unit) (fun _ _=>tup []) (fun _=> [(5,own v 94 2 pE (bT xs))]):=
 zN Jh rfl (fU kR) (aR kR) cfE Jj SX v xs hb
theorem SY (p q:BP) (W:World):Calls Tryz.prog 114 #[.agg #[.int .i64 p.1.1,.int .i64 p.1.2],.agg #[.int .i64 q.1.1,.int .i64 q.1.2]] W fun en W'=>en= .returned (.int .i64 (cfE p q))∧∃n os,W'=grow (W.drewN n) os:=by
 obtain⟨⟨p1,p2⟩,hp⟩:=p
 obtain⟨⟨q1,q2⟩,hq⟩:=q
 unfold bdP at hp hq
 dsimp only at hp hq ⊢
 go_enter Tryz.func114,Tryz.ntmps114
 go_wp2
 ·rename_i h
  go_ret
  refine⟨?_,0,#[Obj.cells #[Value.int IntKind.i64 p1,Value.int IntKind.i64 p2] 94,Obj.cells #[Value.int IntKind.i64 q1,Value.int IntKind.i64 q2] 94],rfl⟩
  unfold cfE;rw[if_neg (by simpa using h)];rfl
 ·rename_i h
  go_ret
  refine⟨?_,0,#[Obj.cells #[Value.int IntKind.i64 p1,Value.int IntKind.i64 p2] 94,Obj.cells #[Value.int IntKind.i64 q1,Value.int IntKind.i64 q2] 94],rfl⟩
  unfold cfE;rw[if_pos (by simpa using h)];rfl
theorem uF (v:Value) (xs:List (Int × Int)) (hb:∀p∈xs,bdP p):AL.Fn Tryz.prog 116 [osl 5 v,eqv (.func (.func 114) #[] #[])] [(5,own v 94 2 pE xs)] (ι:=Unit) (fun _ _=>tup []) (fun _=> [(5,own v 94 2 pE (bT xs))]):=
 zN Jh rfl (fU kR) (aR kR) cfE Jj SY v xs hb
def cfI (x y:Int):Int:=if x<y then-1 else if y<x then 1 else 0
def cfL (p1 p2 q1 q2:Int):Int:=if cfI p1 q1=0 then cfI p2 q2 else cfI p1 q1
def cfP (p q:BP):Int:=cfL p.1.1 p.1.2 q.1.1 q.1.2
theorem Jk (p q:BP):decide (cfP p q<0)=lexB p.1 q.1:=by
 obtain⟨⟨p1,p2⟩,hp⟩:=p
 obtain⟨⟨q1,q2⟩,hq⟩:=q
 unfold cfP cfL cfI lexB
 dsimp only
 by_cases h1:p1<q1
 ·simp[h1]
 ·by_cases h2:q1<p1
  ·simp[h1,h2];omega
  ·have h3:p1=q1:=by omega
   subst h3
   by_cases g1:p2<q2
   ·simp[g1]
   ·by_cases g2:q2<p2<;>simp[g1,g2]
theorem Jl (x y:Int) (W:World):Calls Tryz.prog 140 #[.int .i64 x,.int .i64 y] W fun en W'=>en= .returned (.int .i64 (cfI x y))∧W'=W:=by
 go_enter Tryz.func140,Tryz.ntmps140
 go_wp2
 all_goals go_ret
 all_goals refine⟨?_,rfl⟩
 all_goals simp_all [cfI]
 all_goals try omega
theorem Jm (p1 p2 q1 q2:Int) (W:World) (b c:Nat) (h1:W.cell? ⟨b,0,none⟩=some (.int .i64 p1)) (h2:W.cell? ⟨b,1,none⟩=some (.int .i64 p2)) (h3:W.cell? ⟨c,0,none⟩=some (.int .i64 q1)) (h4:W.cell? ⟨c,1,none⟩=some (.int .i64 q2)):
 Calls Tryz.prog 102 #[.slice (some ⟨b,0,none⟩) 2 2,.slice (some ⟨c,0,none⟩) 2 2] W fun en W'=>en= .returned (.int .i64 (cfL p1 p2 q1 q2))∧W'=W:=by
 unfold cfL
 generalize hr:(if cfI p1 q1=0 then cfI p2 q2 else cfI p1 q1)=r
 generalize hu:cfI p1 q1=u at hr
 generalize hv:cfI p2 q2=v at hr
 go_enter Tryz.func102,Tryz.ntmps102
 go_wp2
 refine wp_loop_rounds 3 ?_
 rw[rounds_succ]
 go_wp2_with (first|(go_at_call 140;refine(Jl _ _ _).mono ?_;rintro e w' ⟨rfl,rfl⟩;rw[hu]))
 ·rename_i h
  go_ret;refine⟨?_,rfl⟩;rw[←hr,if_neg (by simpa using h)];rfl
 ·rename_i h
  rw[rounds_succ]
  go_wp2_with (first|(go_at_call 140;refine(Jl _ _ _).mono ?_;rintro e w' ⟨rfl,rfl⟩;rw[hv]))
  ·go_ret;refine⟨?_,rfl⟩;rw[←hr,if_pos (by simpa using h)];rfl
  ·rename_i h2
   rw[rounds_succ]
   go_wp2
   go_ret;refine⟨?_,rfl⟩;rw[←hr,if_pos (by simpa using h)]
   have:v=0:=by simpa using h2
   rw[this];rfl
theorem SZ (p q:BP) (W:World):Calls Tryz.prog 118 #[.agg #[.int .i64 p.1.1,.int .i64 p.1.2],.agg #[.int .i64 q.1.1,.int .i64 q.1.2]] W fun en W'=>en= .returned (.int .i64 (cfP p q))∧∃n os,W'=grow (W.drewN n) os:=by
 obtain⟨⟨p1,p2⟩,hp⟩:=p
 obtain⟨⟨q1,q2⟩,hq⟩:=q
 show Calls Tryz.prog 118 #[.agg #[.int .i64 p1,.int .i64 p2],.agg #[.int .i64 q1,.int .i64 q2]] W fun en W'=>en= .returned (.int .i64 (cfL p1 p2 q1 q2))∧∃n os,W'=grow (W.drewN n) os
 have mixed:Tryz.prog.follows .mixedOrders=true:=by kernel_rfl
 go_enter Tryz.func118,Tryz.ntmps118
 go_wp2
 generalize hW:(W.alloc (Obj.cells #[Value.int IntKind.i64 p1,Value.int IntKind.i64 p2] 80)).alloc (Obj.cells #[Value.int IntKind.i64 q1,Value.int IntKind.i64 q2] 80)=W2
 have g1:∀n os,(grow (W2.drewN n) os).cell? ⟨W.heap.size,0,none⟩=some (.int .i64 p1):=cell_grown (by rw[←hW];simp;omega) (by rw[←hW];simp)
 have g2:∀n os,(grow (W2.drewN n) os).cell? ⟨W.heap.size,1,none⟩=some (.int .i64 p2):=cell_grown (by rw[←hW];simp;omega) (by rw[←hW];simp)
 have g3:∀n os,(grow (W2.drewN n) os).cell? ⟨W.heap.size+1,0,none⟩=some (.int .i64 q1):=cell_grown (by rw[←hW];simp) (by rw[←hW];simp)
 have g4:∀n os,(grow (W2.drewN n) os).cell? ⟨W.heap.size+1,1,none⟩=some (.int .i64 q2):=cell_grown (by rw[←hW];simp) (by rw[←hW];simp)
 go_quiet_grown (first|(go_at_call 102;refine Calls.grown_of ((Jm p1 p2 q1 q2 _ _ _ (g1 _ _) (g2 _ _) (g3 _ _) (g4 _ _)).mono fun _ _ h=>⟨h.1,0,#[],by rw[h.2,grow_empty];rfl⟩)))
 go_wp2
 go_ret
 refine⟨rfl,nq,#[Obj.cells #[Value.int IntKind.i64 p1,Value.int IntKind.i64 p2] 80,Obj.cells #[Value.int IntKind.i64 q1,Value.int IntKind.i64 q2] 80]++osq,?_⟩
 rw[←hW]
 show grow (grow (W.drewN nq) #[_,_]) osq=_
 rw[grow_grow]
theorem Io (v:Value) (xs:List (Int × Int)) (hb:∀p∈xs,bdP p):AL.Fn Tryz.prog 100 [osl 5 v,eqv (.func (.func 118) #[] #[])] [(5,own v 80 2 pE xs)] (ι:=Unit) (fun _ _=>tup []) (fun _=> [(5,own v 80 2 pE (bT xs))]):=
 zN Ji rfl (fU kR) (aR kR) cfP Jk SZ v xs hb
theorem Ta (p q:BP) (W:World):Calls Tryz.prog 101 #[.agg #[.int .i64 p.1.1,.int .i64 p.1.2],.agg #[.int .i64 q.1.1,.int .i64 q.1.2]] W fun en W'=>en= .returned (.int .i64 (cfP p q))∧∃n os,W'=grow (W.drewN n) os:=by
 obtain⟨⟨p1,p2⟩,hp⟩:=p
 obtain⟨⟨q1,q2⟩,hq⟩:=q
 show Calls Tryz.prog 101 #[.agg #[.int .i64 p1,.int .i64 p2],.agg #[.int .i64 q1,.int .i64 q2]] W fun en W'=>en= .returned (.int .i64 (cfL p1 p2 q1 q2))∧∃n os,W'=grow (W.drewN n) os
 have mixed:Tryz.prog.follows .mixedOrders=true:=by kernel_rfl
 go_enter Tryz.func101,Tryz.ntmps101
 go_wp2
 generalize hW:(W.alloc (Obj.cells #[Value.int IntKind.i64 p1,Value.int IntKind.i64 p2] 80)).alloc (Obj.cells #[Value.int IntKind.i64 q1,Value.int IntKind.i64 q2] 80)=W2
 have g1:∀n os,(grow (W2.drewN n) os).cell? ⟨W.heap.size,0,none⟩=some (.int .i64 p1):=cell_grown (by rw[←hW];simp;omega) (by rw[←hW];simp)
 have g2:∀n os,(grow (W2.drewN n) os).cell? ⟨W.heap.size,1,none⟩=some (.int .i64 p2):=cell_grown (by rw[←hW];simp;omega) (by rw[←hW];simp)
 have g3:∀n os,(grow (W2.drewN n) os).cell? ⟨W.heap.size+1,0,none⟩=some (.int .i64 q1):=cell_grown (by rw[←hW];simp) (by rw[←hW];simp)
 have g4:∀n os,(grow (W2.drewN n) os).cell? ⟨W.heap.size+1,1,none⟩=some (.int .i64 q2):=cell_grown (by rw[←hW];simp) (by rw[←hW];simp)
 go_quiet_grown (first|(go_at_call 102;refine Calls.grown_of ((Jm p1 p2 q1 q2 _ _ _ (g1 _ _) (g2 _ _) (g3 _ _) (g4 _ _)).mono fun _ _ h=>⟨h.1,0,#[],by rw[h.2,grow_empty];rfl⟩)))
 go_wp2
 go_ret
 refine⟨rfl,nq,#[Obj.cells #[Value.int IntKind.i64 p1,Value.int IntKind.i64 p2] 80,Obj.cells #[Value.int IntKind.i64 q1,Value.int IntKind.i64 q2] 80]++osq,?_⟩
 rw[←hW]
 show grow (grow (W.drewN nq) #[_,_]) osq=_
 rw[grow_grow]
theorem Ip (v:Value) (xs:List (Int × Int)) (hb:∀p∈xs,bdP p):AL.Fn Tryz.prog 100 [osl 5 v,eqv (.func (.func 101) #[] #[])] [(5,own v 80 2 pE xs)] (ι:=Unit) (fun _ _=>tup []) (fun _=> [(5,own v 80 2 pE (bT xs))]):=
 zN Ji rfl (fU kR) (aR kR) cfP Jk Ta v xs hb
end sortE
end
section
open ref01 ref03 ref04 ref06 prog prog2 prog3 prog4 prog5 prog6 prog13 prog15 starts search Part Rungs LeftM TrimM RoundM BisM BisM5 WalkM StepM WitM refw judg
def gE:List (Int × Int)→List AV:=fun l=> [sl 2 pE l]
def fN (N:Nat):List (Int × Int)→List AV:=fun l=> [fre N (sl 2 pE l)]
instance (l:List (Int × Int)):OneAll (gE l):=inferInstanceAs (OneAll [sl 2 pE l])
instance (N:Nat) (l:List (Int × Int)):OneAll (fN N l):=inferInstanceAs (OneAll [fre N (sl 2 pE l)])
abbrev sys (m:aA):AV:=agg [strs m.aC,sl 1 gE m.sT]
abbrev Pw (N:Nat) (m:aA):AV:=agg [fre N (strs m.aC),fre N (sl 1 gE m.sT)]
instance:FlatE pE:=Xm (f:=fun p:Int × Int=> .int .i64 p.1) (g:=fun p=> .int .i64 p.2)
def iC (x:Int):AV:=int x
def lS (T:SS) (k:Nat):List (List Int):=(lQ T).take k++List.replicate (T.sT.length- k) []
theorem Px {T:SS} {k:Nat} (h:k≤T.sT.length):(lS T k).length=T.sT.length:=by simp[lS,lQ];omega
theorem MH (T:SS):List.replicate T.sT.length []=lS T 0:=by simp[lS]
theorem Py {T:SS} {k:Nat} (h:k=T.sT.length):lS T k=lQ T:=by
 subst h;unfold lS
 rw[Nat.sub_self,List.replicate_zero,List.append_nil,List.take_of_length_le (by simp[lQ])]
theorem MI {T:SS} {k:Nat} (h:k<T.sT.length):(lS T k).set k [ix (ix T.sT k).aP 0]=lS T (k+1):=by
 have hl:(lQ T).length=T.sT.length:=by simp[lQ]
 have e:ix (lQ T) k= [ix (ix T.sT k).aP 0]:=by unfold lQ;rw[TurnM.zE h]
 unfold lS
 rw[bN O,e,List.set_append_right _ _ (by simp;omega),List.append_assoc]
 congr 1
 have:T.sT.length- k=(T.sT.length- (k+1))+1:=by omega
 rw[this,List.replicate_succ,show k- ((lQ T).take k).length=0 by simp;omega];rfl
namespace T
theorem Gq:jN Tryz.prog 215 213 3 cD eQ:=Mp Tryz.underlying215 Tryz.underlying213 kR (by decide+kernel) kR kR ⟨rfl,rfl,by kernel_rfl,by kernel_rfl⟩ ⟨rfl,rfl,by kernel_rfl,by kernel_rfl⟩ kR kR
theorem yF:∀w F,∃u,(zeroValue 3).run Tryz.prog w= .ok u w∧(iC 0).p w F u:=Al (v:= .int .i64 0) kR _ (fun _ _=>Dc)
theorem z25:dM Tryz.prog 25 [.slice none 0 0,.slice none 0 0]:=cE kR
theorem Xs:dW Tryz.prog 214 66 1 24 [.slice none 0 0]:=gP kR kR
theorem Yd:dM Tryz.prog 214 [.slice none 0 0]:=cE kR
theorem vC:dI Tryz.prog 214:=eH kR
theorem Co:IsSlice Tryz.prog 214 66 1:=eL kR
theorem tT:IsSlice Tryz.prog 177 213 2:=eL kR
theorem sG:gS Tryz.prog 213 2:=fU kR
theorem z213:dM Tryz.prog 213 [.int .i64 0,.int .i64 0]:=cE kR
theorem wM:cS Tryz.prog 213 0 0:=bZ kR
theorem AG:cS Tryz.prog 213 1 1:=bZ kR
theorem VI:Ent Tryz.prog 158:=aR kR
theorem Ye:dM Tryz.prog 215 [.map none]:=cE kR
theorem Gr:dI Tryz.prog 215:=eH kR
theorem Yf:dM Tryz.prog 177 [.slice none 0 0]:=cE kR
theorem sH:dI Tryz.prog 177:=eH kR
theorem mW:fY Tryz.prog 25 [(0,1),(1,1)] [.slice none 0 0,.slice none 0 0]:=fG kR kR
theorem aU:gS Tryz.prog 25 2:=fU kR
theorem z87:dM Tryz.prog 87 [.slice none 0 0]:=cE kR
theorem fK:dI Tryz.prog 87:=eH kR
theorem wN:fY Tryz.prog 94 [(0,1),(1,1)] [.int .i64 0,.int .i64 0]:=fG kR kR
theorem kW:dW Tryz.prog 87 94 2 16 [.int .i64 0,.int .i64 0]:=gP kR kR
theorem Cp:Ent Tryz.prog 116:=aR kR
theorem bY:cS Tryz.prog 25 1 1:=bZ kR
theorem dA:dI Tryz.prog 23:=eH kR
theorem pF:dW Tryz.prog 23 87 1 24 [.slice none 0 0]:=gP kR kR
end T
namespace wit
theorem KE (s:SS) (hT:oK s) (want:List (Int × Int)) (hw:wK s want):
 AL.Fn Tryz.prog 132 [spec s,sl 2 pE want] [] (ι:= { m:aA//zM s want m }) (fun N i=>Pw N i.1) (fun _=> []):=by
 refine fnI Tryz.func132 rfl rfl (fun w0 F0=> ?_)
 have hf0:=hT.few0;have hf1:=hT.few1;have hn8:=hT.n8;have hwl:=hw.few
 refine fcC (bW 0 J) (fun hS0=> ?_)
 obtain⟨hsa0,hss0,hse0⟩:=sLn hS0
 refine fcC (bL 1 J) (fun hm1=> ?_)
 refine sq (rg (bx (key:=2) (cs:= [sl 1 rE_ s.aC,sl 2 sE s.sT]) J fun b2=>(al (key:=4) T.z25 (eC (eC eZ)) fun b4=>(nl (th (sq (rg (fP J T.bO (lP J J J T.cM (fc (bL 23 J) fun hm23=>(lnF J T.dB (mk (key:=25) (m:=s.sT.length) (enc:=dG) (y:=(.slice none 0 0:Value)) J J T.Xs (eC eZ) mL mL fun v25=>(al (key:=5) T.Yd (eC eZ) fun b5=>(cK J J J J T.vC J (nl (th (sq (sq (rg (nbB 251 s.sT.length 3 1 nE (fP J T.bO (lP J J J T.cM (lnF J T.dB (mv (nl (th (bk ?_)))))))))))))))))))))))))))
 have hI0_0:0≤s.sT.length:=by
  first|omega|simp
 have hI0_1:(List.replicate s.sT.length (.slice none 0 0:Value)).length=s.sT.length∧(List.replicate s.sT.length [])=lS s 0:=by
  exact⟨by simp,MH s⟩
 refine lp (κ:=Nat × (List Value) × (List (List Int))) (fun p=> [(1,sl 2 pE want),(2,ptr 2 b2 0),(4,ptr 4 b4 0),(5,ptr 5 b5 0),(27,sl 2 sE s.sT),(28,int (s.sT.length:Int)),(29,int (p.1:Int))]) (fun p=> [(2,cell b2 [sl 1 rE_ s.aC,sl 2 sE s.sT]),(4,cell b4 [eqv (.slice none 0 0),eqv (.slice none 0 0)]),(5,cell b5 [osl 25 v25]),(25,own v25 66 1 dG p.2.1),(251,aX p.2.1 3 1 nE p.2.2 none)]) (fun p=>(p.1≤s.sT.length)∧(p.2.1.length=s.sT.length∧p.2.2=lS s p.1)) (fun p=>s.sT.length- p.1) ⟨0,List.replicate s.sT.length (.slice none 0 0:Value),List.replicate s.sT.length []⟩ ⟨hI0_0,hI0_1⟩ ⟨id,id,id,id,id,id,id,tV⟩ ⟨rI,rI,rI,rI,rI,tV⟩ ?_
 intro⟨k,us,xss⟩ hG0
 obtain⟨hk0,⟨hul,hxs⟩⟩:(k≤s.sT.length)∧(us.length=s.sT.length∧xss=lS s k):=hG0
 show Ct _ _ _ _ [(1,sl 2 pE want),(2,ptr 2 b2 0),(4,ptr 4 b4 0),(5,ptr 5 b5 0),(27,sl 2 sE s.sT),(28,int (s.sT.length:Int)),(29,int (k:Int))] [(2,cell b2 [sl 1 rE_ s.aC,sl 2 sE s.sT]),(4,cell b4 [eqv (.slice none 0 0),eqv (.slice none 0 0)]),(5,cell b5 [osl 25 v25]),(25,own v25 66 1 dG us),(251,aX us 3 1 nE xss none)] _
 have hxl:xss.length=s.sT.length:=by rw[hxs];exact Px O
 refine sq (rg (bi J J aZ (nl (th (sq ?_)))))
 refine cd J (fun hc0=> ?_) (fun hc0=> ?_)
 ·try simp at hc0
  have hne:0<(ix s.sT k).aP.length:=hw.ne k O
  refine sk (th (sq (bk (sq (rg (mv (iF J J T.dB O gB (lFA J T.eO (Nat.le_of_ble_eq_true J) (al (key:=7) T.z79 (eC (eC eZ)) fun b7=>(ag (sPA (cs':= [sl 1 nE (ix s.sT k).aP,sl 1 nE (ix s.sT k).next]) J J J T.eO J J (nl (th (OB 251 99 k J J (by decide) (gK O) (gK O) ?_))))))))))))))
  refine drH (nh:=9) [0,0,0,4,12,28,60,127,255] [(none,[5]),(none,[]),(none,[]),(none,[7]),(none,[]),(none,[]),(some 40,[]),(none,[25]),(some 25,[25])] T.mixed kR kR ?_
  refine stv (d:=34) (fun β0=>osl 25 v25) [5] J bH (fun β0 _ _ _ _ gq gh kq=>lP (gq.1.trans J) (gh.1.trans J) J T.vC kq) ?_
  refine stv (d:=35) (fun β0=>int (k:Int)) [] J bH (fun β0 _ _ _ _ gq gh kq=>mv' (gq.1.trans J) kq) ?_
  refine stv (d:=36) (fun β0=>ptr 7 b7 0) [] J bH (fun β0 _ _ _ _ gq gh kq=>fP (gq.1.trans J) T.cY kq) ?_
  refine stv (d:=37) (fun β0=>sl 1 nE (ix s.sT k).aP) [7] J bH (fun β0 _ _ _ _ gq gh kq=>lP (gq.1.trans J) (gh.1.trans J) J T.bF kq) ?_
  refine stv (d:=38) (fun β0=>fp [int (ix (ix s.sT k).aP 0)]) [] J bH (fun β0 _ _ _ _ gq gh kq=>iF (gq.1.trans J) J T.aT O (gI O O) kq) ?_
  refine stv (d:=39) (fun β0=>int (ix (ix s.sT k).aP 0)) [] J bH (fun β0 _ _ _ _ gq gh kq=>lF (gq.1.trans J) J T.aH kq) ?_
  refine stc (d:=40) (e:=3) (n:=1) (enc:=nE) (xs:= [(ix (ix s.sT k).aP 0)]) 40 [] rfl (fun β0 _ _ _ _ gq gh kq=>bsO 40 (enc:=nE) (xs:= [(ix (ix s.sT k).aP 0)]) (css:= [[int (ix (ix s.sT k).aP 0)]]) T.cQ ⟨rfl,rfl,p1 (φ:=int (ix (ix s.sT k).aP 0)) (by exact(gq.1.trans rfl)),tV⟩ rfl rfl rfl rfl fun v=>kq v) ?_
  refine stv (d:=41) (fun β0=>dL 25 v25 1 k 0) [25] J bH (fun β0 _ _ _ _ gq gh kq=>iO (gq.1.trans J) (gh.1.trans J) (gq.2.1.trans J) T.Co O O kq) ?_
  refine stw 25 (fun β0=>own v25 66 1 dG (us.set k (sv (β0 6)))) [25] J (fun β β' hb=>by first|rw[hb 6 J]|(dsimp only;rw[hb 6 J])) (fun β0 _ _ _ _ gq gh kq=>sO (φ:=eqv (sv (β0 6))) (gq.1.trans J) (gh.1.trans J) ((gq.2.1.trans J).trans dV) T.bF gB J (y':=(sv (β0 6))) J kq) ?_
  refine pnH fun β0=>(nl (eb (th (rg (gvB (us:=us) 251 40 k J J (by decide) O (bi J J (aM i6) (mv (nl ?_))))))))
  have hN0:(k+1)≤s.sT.length:=by
   first|omega|simp_all
  have hN1:(us.set k (sv (β0 6))).length=s.sT.length∧(xss.set k [(ix (ix s.sT k).aP 0)])=lS s (k+1):=by
   exact⟨by simpa using hul,by rw[hxs];exact MI hc0⟩
  exact ln (⟨k+1,us.set k (sv (β0 6)),xss.set k [(ix (ix s.sT k).aP 0)]⟩:Nat × (List Value) × (List (List Int))) ⟨hN0,hN1⟩ dO ⟨id,id,id,id,id,id,id,tV⟩ ⟨rI,rI,rI,rI,rI,tV⟩
 ·try simp at hc0
  refine ex (xt_ (xt_ (xb (th (sq (sq (rg (mv (lnF J T.tT (mv (nl (th (bk ?_)))))))))))))
  have hI1_0:0≤want.length:=by
   first|omega|simp
  have hI1_1:us.length=s.sT.length∧gX s (want.take 0) xss:=by
   exact⟨hul,by rw[hxs,Py O];exact MC s⟩
  refine lp (κ:=Nat × (List Value) × (List (List Int))) (fun p=> [(1,sl 2 pE want),(2,ptr 2 b2 0),(4,ptr 4 b4 0),(5,ptr 5 b5 0),(43,sl 2 pE want),(44,int (want.length:Int)),(45,int (p.1:Int))]) (fun p=> [(2,cell b2 [sl 1 rE_ s.aC,sl 2 sE s.sT]),(4,cell b4 [eqv (.slice none 0 0),eqv (.slice none 0 0)]),(5,cell b5 [osl 25 v25]),(25,own v25 66 1 dG p.2.1),(251,aX p.2.1 3 1 nE p.2.2 none)]) (fun p=>(p.1≤want.length)∧(p.2.1.length=s.sT.length∧gX s (want.take p.1) p.2.2)) (fun p=>want.length- p.1) ⟨0,us,xss⟩ ⟨hI1_0,hI1_1⟩ ⟨id,id,id,id,id,id,id,tV⟩ ⟨rI,rI,rI,rI,rI,tV⟩ ?_
  intro⟨k1,us2,xss2⟩ hG1
  obtain⟨hk1,⟨hul2,hS⟩⟩:(k1≤want.length)∧(us2.length=s.sT.length∧gX s (want.take k1) xss2):=hG1
  show Ct _ _ _ _ [(1,sl 2 pE want),(2,ptr 2 b2 0),(4,ptr 4 b4 0),(5,ptr 5 b5 0),(43,sl 2 pE want),(44,int (want.length:Int)),(45,int (k1:Int))] [(2,cell b2 [sl 1 rE_ s.aC,sl 2 sE s.sT]),(4,cell b4 [eqv (.slice none 0 0),eqv (.slice none 0 0)]),(5,cell b5 [osl 25 v25]),(25,own v25 66 1 dG us2),(251,aX us2 3 1 nE xss2 none)] _
  have hxl2:=hS.len
  refine sq (rg (bi J J aZ (nl (th (sq ?_)))))
  refine cd J (fun hc1=> ?_) (fun hc1=> ?_)
  ·try simp at hc1
   obtain⟨hw0,hw1,hw2⟩:=hw.ok _ (aO hc1)
   refine sk (th (sq (bk (sq (rg (iF J J T.tT O gB (lFA J T.sG (Nat.le_of_ble_eq_true J) (al (key:=9) T.z213 (eC (eC eZ)) fun b9=>(sPA (cs':= [int ((ix want k1).1),int ((ix want k1).2)]) J J J T.sG J J (nl (th (sq (OB 251 99 ((ix want k1).1).toNat J J (by decide) (gK O) (gK O) (dr (nh:=9) [0,0,2,7,15,0,32,127,255] T.mixed kR ?_))))))))))))))
   refine st_ J (fun _ _ _ gq kq=>lP (gq.1.trans J) J J T.vC kq) ?_
   refine st_ J (fun _ _ _ gq kq=>fP (gq.1.trans J) T.wM kq) ?_
   refine st_ J (fun _ _ _ gq kq=>lP (gq.1.trans J) J J T.aH kq) ?_
   refine st_ J (fun _ _ _ gq kq=>iO (gq.1.trans J) J (gq.2.1.trans J) T.Co O O kq) ?_
   refine st_ J (fun _ _ _ gq kq=>lO (gq.1.trans J) J gB J T.bF kq) ?_
   refine st_ J (fun _ _ _ gq kq=>fP (gq.1.trans J) T.AG kq) ?_
   refine st_ J (fun _ _ _ gq kq=>lP (gq.1.trans J) J J T.aH kq) ?_
   refine st_ J (fun _ _ _ gq kq=>XZ (φs:= [sl 1 nE (ix xss2 ((ix want k1).1).toNat),int ((ix want k1).2)]) ⟨.own 99 ((gq.1.trans J).trans dV.symm) J,.here (gq.2.1.trans J),tV⟩ (judg.Ij _ _) T.VI kq) ?_
   refine st_ J (fun _ _ _ gq kq=>no (gq.1.trans J) kq) ?_
   refine pn (nl (th ?_))
   refine cd J (fun hc2=> ?_) (fun hc2=> ?_)
   ·try simp at hc2
    have hsl:=AE hT hw hS (fun p hp=>List.mem_of_mem_take hp) (x:=((ix want k1).1).toNat) O
    refine drH (nh:=14) [0,0,2,0,0,16,56,120,0,256,768,2040,4095,8191] [(none,[5]),(none,[]),(none,[9]),(none,[5]),(none,[]),(none,[9]),(none,[25]),(none,[25]),(none,[]),(none,[9]),(none,[]),(some 99,[99]),(none,[25]),(some 25,[25])] T.mixed kR kR ?_
    refine stv (d:=58) (fun β1=>osl 25 v25) [5] J bH (fun β1 _ _ _ _ gq gh kq=>lP (gq.1.trans J) (gh.1.trans J) J T.vC kq) ?_
    refine stv (d:=59) (fun β1=>ptr 9 b9 0) [] J bH (fun β1 _ _ _ _ gq gh kq=>fP (gq.1.trans J) T.wM kq) ?_
    refine stv (d:=60) (fun β1=>int ((ix want k1).1)) [9] J bH (fun β1 _ _ _ _ gq gh kq=>lP (gq.1.trans J) (gh.1.trans J) J T.aH kq) ?_
    refine stv (d:=61) (fun β1=>osl 25 v25) [5] J bH (fun β1 _ _ _ _ gq gh kq=>lP (gq.1.trans J) (gh.1.trans J) J T.vC kq) ?_
    refine stv (d:=62) (fun β1=>ptr 9 b9 0) [] J bH (fun β1 _ _ _ _ gq gh kq=>fP (gq.1.trans J) T.wM kq) ?_
    refine stv (d:=63) (fun β1=>int ((ix want k1).1)) [9] J bH (fun β1 _ _ _ _ gq gh kq=>lP (gq.1.trans J) (gh.1.trans J) J T.aH kq) ?_
    refine stv (d:=64) (fun β1=>dL 25 v25 1 ((ix want k1).1).toNat 0) [25] J bH (fun β1 _ _ _ _ gq gh kq=>iO (gq.1.trans J) (gh.1.trans J) (gq.2.1.trans J) T.Co O O kq) ?_
    refine stv (d:=65) (fun β1=>eqv (ix us2 ((ix want k1).1).toNat)) [25] J bH (fun β1 _ _ _ _ gq gh kq=>lO (gq.1.trans J) (gh.1.trans J) gB J T.bF kq) ?_
    refine stv (d:=66) (fun β1=>ptr 9 b9 1) [] J bH (fun β1 _ _ _ _ gq gh kq=>fP (gq.1.trans J) T.AG kq) ?_
    refine stv (d:=67) (fun β1=>int ((ix want k1).2)) [9] J bH (fun β1 _ _ _ _ gq gh kq=>lP (gq.1.trans J) (gh.1.trans J) J T.aH kq) ?_
    refine stv (d:=68) (fun β1=>sl 1 nE [((ix want k1).2)]) [] J bH (fun β1 _ _ _ _ gq gh kq=>bsE (enc:=nE) (xs:= [((ix want k1).2)]) (css:= [[int ((ix want k1).2)]]) T.cQ ⟨J,J,p1 (φ:=int ((ix want k1).2)) (by exact(gq.1.trans J)),tV⟩ J J J J kq) ?_
    refine stc (d:=69) (e:=3) (n:=1) (enc:=nE) (xs:=(ix xss2 ((ix want k1).1).toNat)++ [((ix want k1).2)]) 99 [99] rfl (fun β1 _ _ _ _ gq gh kq=>ap (key:=99) (zs:= [((ix want k1).2)]) (fun h=>Cj (gq.1.trans rfl) h) (gh.1.trans rfl) (gq.2.1.trans rfl) rfl T.cQ (by unfold aN at*;simp;omega) (by unfold aN at*;simp;omega) fun v=>kq v) ?_
    refine stv (d:=70) (fun β1=>dL 25 v25 1 ((ix want k1).1).toNat 0) [25] J bH (fun β1 _ _ _ _ gq gh kq=>iO (gq.1.trans J) (gh.1.trans J) (gq.2.1.trans J) T.Co O O kq) ?_
    refine stw 25 (fun β1=>own v25 66 1 dG (us2.set ((ix want k1).1).toNat (sv (β1 11)))) [25] J (fun β β' hb=>by first|rw[hb 11 J]|(dsimp only;rw[hb 11 J])) (fun β1 _ _ _ _ gq gh kq=>sO (φ:=eqv (sv (β1 11))) (gq.1.trans J) (gh.1.trans J) ((gq.2.1.trans J).trans dV) T.bF gB J (y':=(sv (β1 11))) J kq) ?_
    refine pnH fun β1=>(nl (eb (th (rg (gvB (us:=us2) 251 99 ((ix want k1).1).toNat J J (by decide) O (bi J J (aM i6) (mv (nl ?_))))))))
    have hN0:(k1+1)≤want.length:=by
     first|omega|simp_all
    have hN1:(us2.set ((ix want k1).1).toNat (sv (β1 11))).length=s.sT.length∧gX s (want.take (k1+1)) (xss2.set ((ix want k1).1).toNat ((ix xss2 ((ix want k1).1).toNat)++ [((ix want k1).2)])):=by
     refine⟨by simpa using hul2,?_⟩
     rw[bN hc1]
     have:=Gl hS hw0 hw1
     unfold zK at this
     rw[if_neg hc2] at this
     exact this
    exact ln (⟨k1+1,us2.set ((ix want k1).1).toNat (sv (β1 11)),xss2.set ((ix want k1).1).toNat ((ix xss2 ((ix want k1).1).toNat)++ [((ix want k1).2)])⟩:Nat × (List Value) × (List (List Int))) ⟨hN0,hN1⟩ dO ⟨id,id,id,id,id,id,id,tV⟩ ⟨rI,rI,rI,rI,rI,tV⟩
   ·try simp at hc2
    refine XY 251 99 ((ix want k1).1).toNat rfl rfl (by decide) (gK O) (gK O) (sk (eb (th (rg (bi rfl rfl (aM i6) (mv (nl ?_)))))))
    have hN0:(k1+1)≤want.length:=by
     first|omega|simp_all
    have hN1:us2.length=s.sT.length∧gX s (want.take (k1+1)) xss2:=by
     refine⟨hul2,?_⟩
     rw[bN hc1]
     have:=Gl hS hw0 hw1
     unfold zK at this
     rw[if_pos hc2] at this
     exact this
    exact ln (⟨k1+1,us2,xss2⟩:Nat × (List Value) × (List (List Int))) ⟨hN0,hN1⟩ dO ⟨id,id,id,id,id,id,id,tV⟩ ⟨rI,rI,rI,rI,rI,tV⟩
  ·try simp at hc1
   have hSE:gX s want xss2:=by rw[show k1=want.length by omega,List.take_length] at hS;exact hS
   have hne0:0<(ix s.sT 0).aP.length:=hw.ne 0 O
   refine ex (xt_ (xt_ (xb (th (sq (rg (fP J T.bO (lP J J J T.cM (iF J J T.dB O (gK (k:=0) O) (fF J T.cY (lF J J T.bF (iF J J T.aT O (gK (k:=0) O) (lF J J T.aH (bd (css:= [(0,_),(1,_)]) T.zH (eC (eC eZ)) ⟨J,J,p1 (φ:=int 0) J,⟨J,J,p1 (φ:=int (ix (ix s.sT 0).aP 0)) J,tV⟩⟩ (al (key:=10) T.z213 (eC (eC eZ)) fun b10=>(sPA (cs':= [int 0,int (ix (ix s.sT 0).aP 0)]) J J J T.sG J J (nl (th (sq (sq (rg (mv (lnF J T.tT (bi J J jA (nl (th ?_))))))))))))))))))))))))))
   refine jn (κ:=Int × Int) (fun p=> [(2,ptr 2 b2 0),(4,ptr 4 b4 0),(5,ptr 5 b5 0),(10,ptr 10 b10 0)]) (fun p=> [(2,cell b2 [sl 1 rE_ s.aC,sl 2 sE s.sT]),(4,cell b4 [eqv (.slice none 0 0),eqv (.slice none 0 0)]),(5,cell b5 [osl 25 v25]),(10,cell b10 [int p.1,int p.2]),(25,own v25 66 1 dG us2),(251,aX us2 3 1 nE xss2 none)]) (fun p=>(p.1,p.2)=kB s want) ?_ ?_
   ·
    refine cd J (fun hc3=> ?_) (fun hc3=> ?_)
    ·try simp at hc3
     refine rg (mv (iF J J T.tT O (gK (k:=0) O) (lFA J T.sG (Nat.le_of_ble_eq_true J) (sPA (cs':= [int ((ix want 0).1),int ((ix want 0).2)]) J J J T.sG J J (nl ?_)))))
     have hN0:(((ix want 0).1),((ix want 0).2))=kB s want:=by
      unfold kB;rw[if_pos O]
     exact jx ⟨(ix want 0).1,(ix want 0).2⟩ hN0 ⟨id,id,id,id,tV⟩ ⟨rI,rI,rI,rI,rI,rI,tV⟩
    ·try simp at hc3
     refine sk ?_
     have hN0:((0:Int),(ix (ix s.sT 0).aP 0))=kB s want:=by
      unfold kB;rw[if_neg (by simp[hc3])]
     exact jx ⟨(0:Int),ix (ix s.sT 0).aP 0⟩ hN0 ⟨id,id,id,id,tV⟩ ⟨rI,rI,rI,rI,rI,rI,tV⟩
   ·intro⟨f1,f2⟩ hG
    have hJ3:(f1,f2)=kB s want:=hG
    have hfo:=Pu hT hw hSE
    rw[←hJ3] at hfo
    obtain⟨hfo0,hfo1,hfo2⟩:=hfo
    dsimp only at hfo0 hfo1 hfo2
    have hfb:=qC (hT.st f1.toNat O) (sD hw hSE (fun _ h=>h) O hfo2)
    skip
    show At _ _ _ [(2,ptr 2 b2 0),(4,ptr 4 b4 0),(5,ptr 5 b5 0),(10,ptr 10 b10 0)] [(2,cell b2 [sl 1 rE_ s.aC,sl 2 sE s.sT]),(4,cell b4 [eqv (.slice none 0 0),eqv (.slice none 0 0)]),(5,cell b5 [osl 25 v25]),(10,cell b10 [int f1,int f2]),(25,own v25 66 1 dG us2),(251,aX us2 3 1 nE xss2 none)]
    refine th (sq (rg (mkm (key:=86) (kE:=cD) (dom:=eQ) (vE:=iC) fun b86=>(lPA rfl rfl T.sG rfl (AL.insert (q:=(f1,f2)) (u:=0) rfl rfl eK rfl T.Gq ⟨⟨O,O⟩,⟨O,O⟩⟩ (mv (al (key:=11) T.Ye (eC eZ) fun b11=>(sP (φ:=mpv 86 b86) rfl rfl rfl T.Gr rfl (nl (th (sq (rg (lPA rfl rfl T.sG rfl (bsO 90 (enc:=pE) (xs:= [(f1,f2)]) (css:= [[int f1,int f2]]) T.wJ ⟨rfl,rfl,pA (cs:= [int f1,int f2]) rfl,tV⟩ rfl rfl rfl rfl fun v90=>(al (key:=12) T.Yf (eC eZ) fun b12=>(cK rfl rfl rfl rfl T.sH rfl (nl (th (sq (rg (fP rfl T.eD (lP rfl rfl rfl T.dE (eI (φs:= [sl 1 rE_ s.aC]) (φ:=fre w0.heap.size (sl 1 rE_ s.aC)) ⟨rfl,tV⟩ (prog.fI _ O) T.rA (fun N hN=>fun h=>iW hN h) (bd (css:= [(0,_)]) T.mW (eC (eC eZ)) ⟨rfl,rfl,p1 (φ:=fre w0.heap.size (sl 1 rE_ s.aC)) rfl,tV⟩ (al (key:=13) T.z25 (eC (eC eZ)) fun b13=>(sPA (cs':= [fre w0.heap.size (sl 1 rE_ s.aC),eqv (.slice none 0 0)]) rfl rfl rfl T.aU rfl rfl (nl (th (sq (sq (rg (al (key:=14) T.z3 (eC eZ) fun b14=>(sP (φ:=int 0) rfl rfl rfl T.aH rfl (nl (th (bk ?_))))))))))))))))))))))))))))))))))))
    refine nwC 130 87 1 (fN w0.heap.size) (nS 13 1 (osl 130 (.slice none 0 0)) rfl rfl dR ?_)
    have hI2_0:WI s xss2 (f1,f2) 0 ([(f1,f2)]:List (Int × Int)) (bQ ([]:List ((Int × Int) × Int)) (f1,f2) 0) ([]:List (List (Int × Int))):=by
     exact SP ⟨hfo0,hfo1,hfo2⟩
    refine lp (κ:=Nat × Nat × Value × (List (Int × Int)) × (List ((Int × Int) × Int)) × Value × (List (List (Int × Int)))) (fun p=> [(2,ptr 2 b2 0),(4,ptr 4 b4 0),(5,ptr 5 b5 0),(11,ptr 11 b11 0),(12,ptr 12 b12 0),(13,ptr 13 b13 0),(14,ptr 14 p.2.1 0)]) (fun p=> [(2,cell b2 [sl 1 rE_ s.aC,sl 2 sE s.sT]),(4,cell b4 [eqv (.slice none 0 0),eqv (.slice none 0 0)]),(5,cell b5 [osl 25 v25]),(10,cell b10 [int f1,int f2]),(11,cell b11 [mpv 86 b86]),(12,cell b12 [osl 90 p.2.2.1]),(13,cell b13 [fre w0.heap.size (sl 1 rE_ s.aC),osl 130 p.2.2.2.2.2.1]),(14,cell p.2.1 [int (p.1:Int)]),(25,own v25 66 1 dG us2),(86,mp b86 cD eQ iC p.2.2.2.2.1),(90,own p.2.2.1 213 2 pE p.2.2.2.1),(130,own p.2.2.2.2.2.1 87 1 (fN w0.heap.size) p.2.2.2.2.2.2),(251,aX us2 3 1 nE xss2 none)]) (fun p=>WI s xss2 (f1,f2) p.1 p.2.2.2.1 p.2.2.2.2.1 p.2.2.2.2.2.2) (fun p=>s.sT.length+want.length- p.1) ⟨0,b14,v90,([(f1,f2)]:List (Int × Int)),bQ ([]:List ((Int × Int) × Int)) (f1,f2) 0,(.slice none 0 0),([]:List (List (Int × Int)))⟩ hI2_0 ⟨id,id,id,id,id,id,id,tV⟩ ⟨rI,rI,rI,rI,rI,rI,rI,rI,rI,rI,rI,rI,rI,tV⟩ ?_
    intro⟨i,c14,v,q,mm,u130,aD⟩ hG2
    have hWI:WI s xss2 (f1,f2) i q mm aD:=hG2
    show Ct _ _ _ _ [(2,ptr 2 b2 0),(4,ptr 4 b4 0),(5,ptr 5 b5 0),(11,ptr 11 b11 0),(12,ptr 12 b12 0),(13,ptr 13 b13 0),(14,ptr 14 c14 0)] [(2,cell b2 [sl 1 rE_ s.aC,sl 2 sE s.sT]),(4,cell b4 [eqv (.slice none 0 0),eqv (.slice none 0 0)]),(5,cell b5 [osl 25 v25]),(10,cell b10 [int f1,int f2]),(11,cell b11 [mpv 86 b86]),(12,cell b12 [osl 90 v]),(13,cell b13 [fre w0.heap.size (sl 1 rE_ s.aC),osl 130 u130]),(14,cell c14 [int (i:Int)]),(25,own v25 66 1 dG us2),(86,mp b86 cD eQ iC mm),(90,own v 213 2 pE q),(130,own u130 87 1 (fN w0.heap.size) aD),(251,aX us2 3 1 nE xss2 none)] _
    have hql:=Cm hWI.wq hSE
    have hoi:=hWI.il
    have hol:aD.length=i:=by rw[hWI.out];simp
    refine sq (sq (rg (lP J J J T.aH (lP J J J T.sH (lnO J J T.tT (bi J J aZ (nl (th ?_))))))))
    refine cd J (fun hc4=> ?_) (fun hc4=> ?_)
    ·try simp at hc4
     obtain⟨hq0,hq1,hq2⟩:=hWI.wq.bd _ (aO hc4)
     have hqb:=qC (hT.st ((ix q i).1).toNat O) (sD hw hSE (fun _ h=>h) O hq2)
     refine sk (th (sq (bk (sq (rg (al (key:=15) T.z87 (eC eZ) fun b15=>(nl (th (sq (sq (rg (nw 150 94 2 pE (knc 15 0 (osl 150 (.slice none 0 0)) J J dR (lP J J J T.sH (lP J J J T.aH (iO J J J T.tT O O (fO J T.AG (lO J J gB J T.aH (bI (φs:= [int ((ix q i).2)]) (φ:=clo 137 [fp [int ((ix q i).2)]]) ⟨J,tV⟩ (prog3.vY ((ix q i).2)) T.wA (nl (th (bk ?_))))))))))))))))))))))
     have hR0:WN s xss2 (f1,f2) i (ix q i) q mm aD 0 ([]:List (Int × Int)):=by
      exact SR hWI O
     refine rf (κ:=Value × (List (Int × Int)) × (List ((Int × Int) × Int)) × Value × (List (Int × Int))) 900 (fun p=> [(2,cell b2 [sl 1 rE_ s.aC,sl 2 sE s.sT]),(4,cell b4 [eqv (.slice none 0 0),eqv (.slice none 0 0)]),(5,cell b5 [osl 25 v25]),(10,cell b10 [int f1,int f2]),(11,cell b11 [mpv 86 b86]),(12,cell b12 [osl 90 p.1]),(13,cell b13 [fre w0.heap.size (sl 1 rE_ s.aC),osl 130 u130]),(14,cell c14 [int (i:Int)]),(15,cell b15 [osl 150 p.2.2.2.1]),(25,own v25 66 1 dG us2),(86,mp b86 cD eQ iC p.2.2.1),(90,own p.1 213 2 pE p.2.1),(130,own u130 87 1 (fN w0.heap.size) aD),(150,own p.2.2.2.1 94 2 pE p.2.2.2.2),(251,aX us2 3 1 nE xss2 none)]) (fun iR p=>WN s xss2 (f1,f2) i (ix q i) p.2.1 p.2.2.1 aD iR p.2.2.2.2) (fun c p=>False) J (Au (ix q i).2 O O) T.rW J (fun _=>J) (fun _=>J) ⟨v,q,mm,(.slice none 0 0),([]:List (Int × Int))⟩ hR0 ⟨rI,rI,rI,rI,rI,rI,rI,rI,rI,rI,rI,rI,rI,rI,rI,tV⟩ ?_ ?_ (fun k h=>h.elim) (fun id k h=>h.elim) (fun c k h=>h.elim)
     ·intro m0 ⟨v2,q2,mm2,v150,es⟩ x0 hG0 hx0 l R w1 M1 F1 hRd
      have hR0:WN s xss2 (f1,f2) i (ix q i) q2 mm2 aD m0 es:=hG0
      show Ct _ _ _ _ _ ((900,obj l (.loop R)):: [(2,cell b2 [sl 1 rE_ s.aC,sl 2 sE s.sT]),(4,cell b4 [eqv (.slice none 0 0),eqv (.slice none 0 0)]),(5,cell b5 [osl 25 v25]),(10,cell b10 [int f1,int f2]),(11,cell b11 [mpv 86 b86]),(12,cell b12 [osl 90 v2]),(13,cell b13 [fre w0.heap.size (sl 1 rE_ s.aC),osl 130 u130]),(14,cell c14 [int (i:Int)]),(15,cell b15 [osl 150 v150]),(25,own v25 66 1 dG us2),(86,mp b86 cD eQ iC mm2),(90,own v2 213 2 pE q2),(130,own u130 87 1 (fN w0.heap.size) aD),(150,own v150 94 2 pE es),(251,aX us2 3 1 nE xss2 none)]) _
      obtain⟨a,rfl,ha63,hha⟩:=lL hx0
      have hql2:=Cm hR0.wi.wq hSE
      have hi2:=hR0.hi
      have hpe1:(ix q2 i).1=(ix q i).1:=by rw[hR0.pe]
      have hix:=hT.st ((ix q i).1).toNat O
      have hxl:=hix.len
      have hxl2:(ix s.sT ((ix q2 i).1).toNat).next.length=s.aC.length:=by rw[hpe1];exact hxl
      have hgo:=oD hT (x:=((ix q i).1).toNat) O ((cO _ _).2 ⟨_,sD hw hSE (fun _ h=>h) O hq2,hha⟩)
      have hto:tgt s (ix q i) (a:Int)=ix (ix s.sT ((ix q2 i).1).toNat).next a:=by unfold tgt;rw[hpe1];rfl
      have htg:tgt s (ix q i) (a:Int)=ix (nxt s ((ix q i).1).toNat) a:=rfl
      have hg0:0≤tgt s (ix q i) (a:Int):=by omega
      have hg1:tgt s (ix q i) (a:Int)<(s.sT.length:Int):=by omega
      have hxs2:=hSE.len
      have hS2:=AE hT hw hSE (fun _ h=>h) (x:=(tgt s (ix q i) (a:Int)).toNat) O
      refine rg (ag (nl (aq hRd J (bk (sq (dr (nh:=14) [0,1,0,0,12,28,60,127,255,511,0,2047,4095,8191] T.mixed kR ?_))))))
      refine st_ J (fun _ _ _ gq kq=>fP (gq.1.trans J) T.bO kq) ?_
      refine st_ J (fun _ _ _ gq kq=>lP (gq.1.trans J) J J T.cM kq) ?_
      refine st_ J (fun _ _ _ gq kq=>lP (gq.1.trans J) J J T.sH kq) ?_
      refine st_ J (fun _ _ _ gq kq=>lP (gq.1.trans J) J J T.aH kq) ?_
      refine st_ J (fun _ _ _ gq kq=>iO (gq.1.trans J) J (gq.2.1.trans J) T.tT O O kq) ?_
      refine st_ J (fun _ _ _ gq kq=>fO (gq.1.trans J) T.wM kq) ?_
      refine st_ J (fun _ _ _ gq kq=>lO (gq.1.trans J) J gB J T.aH kq) ?_
      refine st_ J (fun _ _ _ gq kq=>iF (gq.1.trans J) (gq.2.1.trans J) T.dB O gB kq) ?_
      refine st_ J (fun _ _ _ gq kq=>fF (gq.1.trans J) T.eM kq) ?_
      refine st_ J (fun _ _ _ gq kq=>lF (gq.1.trans J) J T.bF kq) ?_
      refine st_ J (fun _ _ _ gq kq=>mv' (gq.1.trans J) kq) ?_
      refine st_ J (fun _ _ _ gq kq=>iF (gq.1.trans J) (gq.2.1.trans J) T.aT O gB kq) ?_
      refine st_ J (fun _ _ _ gq kq=>lF (gq.1.trans J) J T.aH kq) ?_
      refine st_ J (fun _ _ _ gq kq=>ag' (gq.1.trans J) kq) ?_
      refine pn (nl (th (sq (rg (kn 17 (int (tgt s (ix q i) (a:Int))) J (by rw[hto];exact fun h=>h) (lP J J J T.vC (mv (iO J J J T.Co O O (lO J J gB J T.bF (tkB 251 98 (tgt s (ix q i) (a:Int)).toNat J J (by decide) (gK O) (gK O) (kn 124 (osl 98 (ix us2 (tgt s (ix q i) (a:Int)).toNat)) J dR (lnO J J T.aT (mv (nl (th (bk ?_))))))))))))))))
      have hI3_0:0≤(ix xss2 (tgt s (ix q i) (a:Int)).toNat).length:=by
       first|omega|simp
      have hI3_1:WK s xss2 (f1,f2) i (ix q i) q2 mm2 aD m0 (a:Int) 0 es:=by
       exact SU hR0 (a:Int)
      refine lp (κ:=Nat × Value × (List (Int × Int)) × (List ((Int × Int) × Int)) × Value × (List (Int × Int))) (fun p=> [(4,ptr 4 b4 0),(11,ptr 11 b11 0),(12,ptr 12 b12 0),(15,ptr 15 b15 0),(16,int (a:Int)),(17,int (tgt s (ix q i) (a:Int))),(124,osl 98 (ix us2 (tgt s (ix q i) (a:Int)).toNat)),(125,int ((ix xss2 (tgt s (ix q i) (a:Int)).toNat).length:Int)),(126,int (p.1:Int))]) (fun p=> [(2,cell b2 [sl 1 rE_ s.aC,sl 2 sE s.sT]),(4,cell b4 [eqv (.slice none 0 0),eqv (.slice none 0 0)]),(5,cell b5 [osl 25 v25]),(10,cell b10 [int f1,int f2]),(11,cell b11 [mpv 86 b86]),(12,cell b12 [osl 90 p.2.1]),(13,cell b13 [fre w0.heap.size (sl 1 rE_ s.aC),osl 130 u130]),(14,cell c14 [int (i:Int)]),(15,cell b15 [osl 150 p.2.2.2.2.1]),(25,own v25 66 1 dG us2),(86,mp b86 cD eQ iC p.2.2.2.1),(90,own p.2.1 213 2 pE p.2.2.1),(98,own (ix us2 (tgt s (ix q i) (a:Int)).toNat) 3 1 nE (ix xss2 (tgt s (ix q i) (a:Int)).toNat)),(130,own u130 87 1 (fN w0.heap.size) aD),(150,own p.2.2.2.2.1 94 2 pE p.2.2.2.2.2),(251,aX us2 3 1 nE xss2 (some (tgt s (ix q i) (a:Int)).toNat)),(900,obj l (.loop { R with state:= .busy }))]) (fun p=>(p.1≤(ix xss2 (tgt s (ix q i) (a:Int)).toNat).length)∧(WK s xss2 (f1,f2) i (ix q i) p.2.2.1 p.2.2.2.1 aD m0 (a:Int) p.1 p.2.2.2.2.2)) (fun p=>(ix xss2 (tgt s (ix q i) (a:Int)).toNat).length- p.1) ⟨0,v2,q2,mm2,v150,es⟩ ⟨hI3_0,hI3_1⟩ ⟨id,id,id,id,id,id,id,id,id,tV⟩ ⟨rI,rI,rI,rI,rI,rI,rI,rI,rI,rI,rI,rI,rI,rI,rI,rI,rI,tV⟩ ?_
      intro⟨k3,v3,q3,mm3,v153,es3⟩ hG3
      obtain⟨hk3,hWK⟩:(k3≤(ix xss2 (tgt s (ix q i) (a:Int)).toNat).length)∧(WK s xss2 (f1,f2) i (ix q i) q3 mm3 aD m0 (a:Int) k3 es3):=hG3
      show Ct _ _ _ _ [(4,ptr 4 b4 0),(11,ptr 11 b11 0),(12,ptr 12 b12 0),(15,ptr 15 b15 0),(16,int (a:Int)),(17,int (tgt s (ix q i) (a:Int))),(124,osl 98 (ix us2 (tgt s (ix q i) (a:Int)).toNat)),(125,int ((ix xss2 (tgt s (ix q i) (a:Int)).toNat).length:Int)),(126,int (k3:Int))] [(2,cell b2 [sl 1 rE_ s.aC,sl 2 sE s.sT]),(4,cell b4 [eqv (.slice none 0 0),eqv (.slice none 0 0)]),(5,cell b5 [osl 25 v25]),(10,cell b10 [int f1,int f2]),(11,cell b11 [mpv 86 b86]),(12,cell b12 [osl 90 v3]),(13,cell b13 [fre w0.heap.size (sl 1 rE_ s.aC),osl 130 u130]),(14,cell c14 [int (i:Int)]),(15,cell b15 [osl 150 v153]),(25,own v25 66 1 dG us2),(86,mp b86 cD eQ iC mm3),(90,own v3 213 2 pE q3),(98,own (ix us2 (tgt s (ix q i) (a:Int)).toNat) 3 1 nE (ix xss2 (tgt s (ix q i) (a:Int)).toNat)),(130,own u130 87 1 (fN w0.heap.size) aD),(150,own v153 94 2 pE es3),(251,aX us2 3 1 nE xss2 (some (tgt s (ix q i) (a:Int)).toNat)),(900,obj l (.loop { R with state:= .busy }))] _
      refine sq (rg (bi J J aZ (nl (th (sq ?_)))))
      refine cd J (fun hc5=> ?_) (fun hc5=> ?_)
      ·try simp at hc5
       have hub:=qC (hT.st (tgt s (ix q i) (a:Int)).toNat O) (sD hw hSE (fun _ h=>h) O (gO hc5))
       have hq3l:=Cm hWK.wi.wq hSE
       have hesl:=VH hT hw hSE hWK
       refine sk (th (sq (bk (sq (rg (iO J J J T.aT O O (lO J J gB J T.aH (ag (nl (th (sq (rg (lP J J J T.Gr (mv (mv (bd (css:= [(0,_),(1,_)]) T.zH (eC (eC eZ)) ⟨J,J,p1 (φ:=int (tgt s (ix q i) (a:Int))) J,⟨J,J,p1 (φ:=int (ix (ix xss2 (tgt s (ix q i) (a:Int)).toNat) k3)) J,tV⟩⟩ (uQ (z:=(0:Int)) (q:=(tgt s (ix q i) (a:Int),ix (ix xss2 (tgt s (ix q i) (a:Int)).toNat) k3)) J J eK T.Gq ⟨⟨O,O⟩,⟨O,O⟩⟩ T.yF (mv (xt J J (xt J J (ag (ag (nl (th (sq (sq (rg (mv (no J (nl (th ?_)))))))))))))))))))))))))))))))
       refine cd J (fun hc6=> ?_) (fun hc6=> ?_)
       ·try simp at hc6
        refine sq (rg (lP J J J T.sH (lnO J J T.tT (ag (nl (th (sq (rg (lP J J J T.Gr (mv (mv (bd (css:= [(0,_),(1,_)]) T.zH (eC (eC eZ)) ⟨J,J,p1 (φ:=int (tgt s (ix q i) (a:Int))) J,⟨J,J,p1 (φ:=int (ix (ix xss2 (tgt s (ix q i) (a:Int)).toNat) k3)) J,tV⟩⟩ (mv (mapUpdate (q:=(tgt s (ix q i) (a:Int),ix (ix xss2 (tgt s (ix q i) (a:Int)).toNat) k3)) (u:=(q3.length:Int)) J J eK J T.Gq ⟨⟨O,O⟩,⟨O,O⟩⟩ (nl (th (rg (lP J J J T.sH (mv (mv (bd (css:= [(0,_),(1,_)]) T.zH (eC (eC eZ)) ⟨J,J,p1 (φ:=int (tgt s (ix q i) (a:Int))) J,⟨J,J,p1 (φ:=int (ix (ix xss2 (tgt s (ix q i) (a:Int)).toNat) k3)) J,tV⟩⟩ (bsE (enc:=pE) (xs:= [(tgt s (ix q i) (a:Int),ix (ix xss2 (tgt s (ix q i) (a:Int)).toNat) k3)]) (css:= [[int (tgt s (ix q i) (a:Int)),int (ix (ix xss2 (tgt s (ix q i) (a:Int)).toNat) k3)]]) T.wJ ⟨J,J,pA (cs:= [int (tgt s (ix q i) (a:Int)),int (ix (ix xss2 (tgt s (ix q i) (a:Int)).toNat) k3)]) J,tV⟩ J J J J (ap (key:=90) (zs:= [(tgt s (ix q i) (a:Int),ix (ix xss2 (tgt s (ix q i) (a:Int)).toNat) k3)]) cB J J J T.wJ (by unfold aN at*;simp;omega) (by unfold aN at*;simp;omega) fun v152=>(cK J J J J T.sH J (nl (th (rg (lP J J J T.fK (mv (mv (bd (css:= [(0,_),(1,_)]) T.wN (eC (eC eZ)) ⟨J,J,p1 (φ:=int (a:Int)) J,⟨J,J,p1 (φ:=int (q3.length:Int)) J,tV⟩⟩ (bsE (enc:=pE) (xs:= [((a:Int),(q3.length:Int))]) (css:= [[int (a:Int),int (q3.length:Int)]]) T.kW ⟨J,J,pA (cs:= [int (a:Int),int (q3.length:Int)]) J,tV⟩ J J J J (ap (key:=150) (zs:= [((a:Int),(q3.length:Int))]) cB J J J T.kW (by unfold aN at*;simp;omega) (by unfold aN at*;simp;omega) fun v158=>(cK J J J J T.fK J (nl (eb (th (rg (bi J J (aM i6) (mv (nl ?_)))))))))))))))))))))))))))))))))))))))))
        have hN0:(k3+1)≤(ix xss2 ((tgt s (ix q i) (a:Int)).toNat)).length:=by
           first|omega|simp_all
        have hN1:WK s xss2 (f1,f2) i (ix q i) (q3++ [(tgt s (ix q i) (a:Int),ix (ix xss2 ((tgt s (ix q i) (a:Int)).toNat)) k3)]) (bQ mm3 (tgt s (ix q i) (a:Int),ix (ix xss2 ((tgt s (ix q i) (a:Int)).toNat)) k3) (q3.length:Int)) aD m0 (a:Int) (k3+1) (es3++ [((a:Int),(q3.length:Int))]):=by
           exact VD hWK hc5 hg0 hg1 (by simpa using hc6)
        exact ln (⟨k3+1,v152,q3++ [(tgt s (ix q i) (a:Int),ix (ix xss2 (tgt s (ix q i) (a:Int)).toNat) k3)],bQ mm3 (tgt s (ix q i) (a:Int),ix (ix xss2 (tgt s (ix q i) (a:Int)).toNat) k3) (q3.length:Int),v158,es3++ [((a:Int),(q3.length:Int))]⟩:Nat × Value × (List (Int × Int)) × (List ((Int × Int) × Int)) × Value × (List (Int × Int))) ⟨hN0,hN1⟩ dO ⟨id,id,id,id,id,id,id,id,id,tV⟩ ⟨rI,rI,rI,rI,rI,rI,rI,rI,rI,rI,rI,rI,rI,rI,rI,rI,rI,tV⟩
       ·try simp at hc6
        refine sk (th (rg (lP J J J T.fK (mv (mv (bd (css:= [(0,_),(1,_)]) T.wN (eC (eC eZ)) ⟨J,J,p1 (φ:=int (a:Int)) J,⟨J,J,p1 (φ:=int ((bJ mm3 (tgt s (ix q i) (a:Int),ix (ix xss2 (tgt s (ix q i) (a:Int)).toNat) k3)).getD (0:Int))) J,tV⟩⟩ (bsE (enc:=pE) (xs:= [((a:Int),(bJ mm3 (tgt s (ix q i) (a:Int),ix (ix xss2 (tgt s (ix q i) (a:Int)).toNat) k3)).getD (0:Int))]) (css:= [[int (a:Int),int ((bJ mm3 (tgt s (ix q i) (a:Int),ix (ix xss2 (tgt s (ix q i) (a:Int)).toNat) k3)).getD (0:Int))]]) T.kW ⟨J,J,pA (cs:= [int (a:Int),int ((bJ mm3 (tgt s (ix q i) (a:Int),ix (ix xss2 (tgt s (ix q i) (a:Int)).toNat) k3)).getD (0:Int))]) J,tV⟩ J J J J (ap (key:=150) (zs:= [((a:Int),(bJ mm3 (tgt s (ix q i) (a:Int),ix (ix xss2 (tgt s (ix q i) (a:Int)).toNat) k3)).getD (0:Int))]) cB J J J T.kW (by unfold aN at*;simp;omega) (by unfold aN at*;simp;omega) fun v158=>(cK J J J J T.fK J (nl (eb (th (rg (bi J J (aM i6) (mv (nl ?_))))))))))))))))
        have hN0:(k3+1)≤(ix xss2 ((tgt s (ix q i) (a:Int)).toNat)).length:=by
           first|omega|simp_all
        have hN1:WK s xss2 (f1,f2) i (ix q i) q3 mm3 aD m0 (a:Int) (k3+1) (es3++ [((a:Int),(bJ mm3 (tgt s (ix q i) (a:Int),ix (ix xss2 ((tgt s (ix q i) (a:Int)).toNat)) k3)).getD (0:Int))]):=by
           exact VE hWK hc5 (by simpa using hc6)
        exact ln (⟨k3+1,v3,q3,mm3,v158,es3++ [((a:Int),(bJ mm3 (tgt s (ix q i) (a:Int),ix (ix xss2 (tgt s (ix q i) (a:Int)).toNat) k3)).getD (0:Int))]⟩:Nat × Value × (List (Int × Int)) × (List ((Int × Int) × Int)) × Value × (List (Int × Int))) ⟨hN0,hN1⟩ dO ⟨id,id,id,id,id,id,id,id,id,tV⟩ ⟨rI,rI,rI,rI,rI,rI,rI,rI,rI,rI,rI,rI,rI,rI,rI,rI,rI,tV⟩
      ·try simp at hc5
       refine ex (xt_ (xt_ (xb (eb (Yc 251 98 (tgt s (ix q i) (a:Int)).toNat J J (by decide) (gK O) (gK O) ?_)))))
       have hN0:WN s xss2 (f1,f2) i (ix q i) q3 mm3 aD (m0+1) es3:=by
           exact VF hWK O hx0
       exact rqN ⟨v3,q3,mm3,v153,es3⟩ hN0 ⟨rI,rI,rI,rI,rI,rI,rI,rI,rI,rI,rI,rI,rI,rI,rI,rI,tV⟩
     ·intro⟨v2,q2,mm2,v150,es⟩ hG0
      have hR0:WN s xss2 (f1,f2) i (ix q i) q2 mm2 aD (aL 63 (ix q i).2).length es:=hG0
      show At _ _ _ _ [(2,cell b2 [sl 1 rE_ s.aC,sl 2 sE s.sT]),(4,cell b4 [eqv (.slice none 0 0),eqv (.slice none 0 0)]),(5,cell b5 [osl 25 v25]),(10,cell b10 [int f1,int f2]),(11,cell b11 [mpv 86 b86]),(12,cell b12 [osl 90 v2]),(13,cell b13 [fre w0.heap.size (sl 1 rE_ s.aC),osl 130 u130]),(14,cell c14 [int (i:Int)]),(15,cell b15 [osl 150 v150]),(25,own v25 66 1 dG us2),(86,mp b86 cD eQ iC mm2),(90,own v2 213 2 pE q2),(130,own u130 87 1 (fN w0.heap.size) aD),(150,own v150 94 2 pE es),(251,aX us2 3 1 nE xss2 none)]
      refine eb (th (sq (rg (lP rfl rfl rfl T.fK ?_))))
      have hql3:=Cm hR0.wi.wq hSE
      have hes:=Xr hR0 O
      refine cal (Hi:= [(150,own v150 94 2 pE es)]) (φs:= [osl 5 v150,eqv (.func (.func 159) #[] #[])]) ⟨dV.trans dV.symm,rfl,tV⟩ (nM 5 150 (sortE.Im v150 es aS)) T.Cp ⟨rI,tV⟩ fun _ _=>(nl (th (rg (fP rfl T.bY (lP rfl rfl rfl T.dA (lP rfl rfl rfl T.fK (fzN pE 150 164 noM flat rfl rfl (bsE (enc:=fN w0.heap.size) (xs:= [(bT es)]) (css:= [[fre w0.heap.size (sl 2 pE (bT es))]]) T.pF ⟨rfl,rfl,p1 (φ:=fre w0.heap.size (sl 2 pE (bT es))) rfl,tV⟩ rfl rfl rfl rfl (ap (key:=130) (zs:= [(bT es)]) cB rfl rfl rfl T.pF (by unfold aN at*;simp;omega) (by unfold aN at*;simp;omega) fun v166=>(fP rfl T.bY (cK rfl rfl rfl rfl T.dA rfl (nl (eb (th (sq (sq (rg (lP rfl rfl rfl T.aH (nl (th (rg (al (key:=14) T.z3 (eC eZ) fun b14=>(sP (φ:=int (i:Int)) rfl rfl rfl T.aH rfl (nl (th (rg (lP rfl rfl rfl T.aH (bi rfl rfl (aM i6) (sP (φ:=int ((i+1:Nat):Int)) rfl rfl rfl T.aH rfl (nl ?_))))))))))))))))))))))))))))))
      have hN0:WI s xss2 (f1,f2) (i+1) q2 mm2 (aD++ [(bT es)]):=by
       exact VG hR0
      exact ln (⟨i+1,b14,v2,q2,mm2,v166,aD++ [(bT es)]⟩:Nat × Nat × Value × (List (Int × Int)) × (List ((Int × Int) × Int)) × Value × (List (List (Int × Int)))) hN0 dO ⟨id,id,id,id,id,id,id,tV⟩ ⟨rI,rI,rI,rI,rI,rI,rI,rI,rI,rI,rI,rI,rI,tV⟩
    ·try simp at hc4
     refine ex (xt_ (xt_ (xb (th (sq (rg (Ke gE 13 130 1 noM (fun _=>J) J J J (by decide) (lPA J J T.aU J (sPA (cs':= [fre w0.heap.size (sl 1 rE_ s.aC),fre w0.heap.size (sl 1 gE aD)]) J J J T.aU J J (nl (th (rt ?_))))))))))))
     exact rE ⟨⟨s.aC,aD⟩,xss2,q,mm,hSE,by rw[←hJ3,show q.length=i by omega];exact hWI,J⟩ [.cell 4 25] J [agg [fre w0.heap.size (sl 1 rE_ s.aC),fre w0.heap.size (sl 1 gE aD)]] ⟨.agg J J T.aU J J,tV⟩ J trivial eX
end wit
end
end Go.Proofs.YtnlfjojfgghchaaGreatDoor
