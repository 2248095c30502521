/- The walks of the functions and the plain laws. Own texts of this claim, packed: sortE, wit, LawOpen3, JudgM, JudgM2, refj, spoil, OwnM, prog17, ValidM, lstu, sysw. -/
import Derived.Test.YtolpjmllmlahfaaDoorX05
import Derived.Test.YtolpjmllmlahfaaDoorX15
import Derived.Test.YtolpjmllmlahfaaDoorX12
import Derived.Test.YtolpjmllmlahfaaDoorX14
import Derived.Test.YtolpjmllmlahfaaDoorX11
import Derived.Test.YtolpjmllmlahfaaDoorX08
import Derived.Test.YtolpjmllmlahfaaDoorX03
import Derived.Test.YtolpjmllmlahfaaDoorX06
import Derived.Test.YtolpjmllmlahfaaDoorX10
set_option linter.all false
namespace Go.Proofs.YtolpjmllmlahfaaDoor
open AL Go Go.Sort
set_option maxRecDepth 100000
set_option linter.all false
namespace sortE
def lays105_ren:Go.Shelf.Ren:=⟨fun|6=>105|15=>110|14=>122|28=>133|29=>134|20=>137|21=>138|22=>139|23=>140|24=>141|25=>142|26=>143|27=>144|46=>154|47=>146|48=>147|49=>155|50=>156|57=>162|n=>n,fun|22=>85|24=>128|25=>159|3=>3|39=>143|0=>0|53=>165|55=>168|4=>4|46=>178|45=>177|50=>77|5=>5|9=>9|66=>191|70=>195|76=>204|77=>205|n=>n,fun n=>n⟩
theorem lays105:SlLaysF0.n6 Tryd.prog lays105_ren where
 mixed:=by kernel_rfl
 f6:=⟨"slices.SortFunc[[]makeweight/api.Edge,makeweight/api.Edge]",by decide,Tryd.func105.trans (congrArg some (by kernel_rfl))⟩
 f14:=⟨"slices.pdqsortCmpFunc[makeweight/api.Edge]",by decide,Tryd.func122.trans (congrArg some (by kernel_rfl))⟩
 f15:=Tryd.func110.trans (congrArg some (by kernel_rfl))
 f20:=⟨"slices.insertionSortCmpFunc[makeweight/api.Edge]",by decide,Tryd.func137.trans (congrArg some (by kernel_rfl))⟩
 f21:=⟨"slices.heapSortCmpFunc[makeweight/api.Edge]",by decide,Tryd.func138.trans (congrArg some (by kernel_rfl))⟩
 f22:=⟨"slices.breakPatternsCmpFunc[makeweight/api.Edge]",by decide,Tryd.func139.trans (congrArg some (by kernel_rfl))⟩
 f23:=⟨"slices.choosePivotCmpFunc[makeweight/api.Edge]",by decide,Tryd.func140.trans (congrArg some (by kernel_rfl))⟩
 f24:=⟨"slices.reverseRangeCmpFunc[makeweight/api.Edge]",by decide,Tryd.func141.trans (congrArg some (by kernel_rfl))⟩
 f25:=⟨"slices.partialInsertionSortCmpFunc[makeweight/api.Edge]",by decide,Tryd.func142.trans (congrArg some (by kernel_rfl))⟩
 f26:=⟨"slices.partitionEqualCmpFunc[makeweight/api.Edge]",by decide,Tryd.func143.trans (congrArg some (by kernel_rfl))⟩
 f27:=⟨"slices.partitionCmpFunc[makeweight/api.Edge]",by decide,Tryd.func144.trans (congrArg some (by kernel_rfl))⟩
 f28:=Tryd.func133.trans (congrArg some (by kernel_rfl))
 f29:=Tryd.func134.trans (congrArg some (by kernel_rfl))
 f46:=⟨"slices.siftDownCmpFunc[makeweight/api.Edge]",by decide,Tryd.func154.trans (congrArg some (by kernel_rfl))⟩
 f47:=Tryd.func146.trans (congrArg some (by kernel_rfl))
 f48:=Tryd.func147.trans (congrArg some (by kernel_rfl))
 f49:=⟨"slices.medianAdjacentCmpFunc[makeweight/api.Edge]",by decide,Tryd.func155.trans (congrArg some (by kernel_rfl))⟩
 f50:=⟨"slices.medianCmpFunc[makeweight/api.Edge]",by decide,Tryd.func156.trans (congrArg some (by kernel_rfl))⟩
 f57:=⟨"slices.order2CmpFunc[makeweight/api.Edge]",by decide,Tryd.func162.trans (congrArg some (by kernel_rfl))⟩
 t0:=Tryd.underlying0
 a0:=Tryd.isAgg0
 z0:=Tryd.sizeOf0
 v0:=Tryd.zeroValue0
 t3:=Tryd.underlying3
 a3:=Tryd.isAgg3
 z3:=Tryd.sizeOf3
 v3:=Tryd.zeroValue3
 t4:=Tryd.underlying4
 a4:=Tryd.isAgg4
 z4:=Tryd.sizeOf4
 v4:=Tryd.zeroValue4
 t5:=Tryd.underlying5
 a5:=Tryd.isAgg5
 z5:=Tryd.sizeOf5
 v5:=Tryd.zeroValue5
 t9:=Tryd.underlying9
 a9:=Tryd.isAgg9
 z9:=Tryd.sizeOf9
 v9:=Tryd.zeroValue9
 t22:=Tryd.underlying85
 a22:=Tryd.isAgg85
 z22:=Tryd.sizeOf85
 v22:=Tryd.zeroValue85
 t25:=Tryd.underlying159
 a25:=Tryd.isAgg159
 z25:=Tryd.sizeOf159
 v25:=Tryd.zeroValue159
 t39:=Tryd.underlying143
 a39:=Tryd.isAgg143
 z39:=Tryd.sizeOf143
 v39:=Tryd.zeroValue143
 t45:=Tryd.underlying177
 a45:=Tryd.isAgg177
 z45:=Tryd.sizeOf177
 v45:=Tryd.zeroValue177
 t46:=Tryd.underlying178
 a46:=Tryd.isAgg178
 z46:=Tryd.sizeOf178
 v46:=Tryd.zeroValue178
 t50:=Tryd.underlying77
 a50:=Tryd.isAgg77
 z50:=Tryd.sizeOf77
 v50:=Tryd.zeroValue77
 t53:=Tryd.underlying165
 a53:=Tryd.isAgg165
 z53:=Tryd.sizeOf165
 v53:=Tryd.zeroValue165
 t55:=Tryd.underlying168
 a55:=Tryd.isAgg168
 z55:=Tryd.sizeOf168
 v55:=Tryd.zeroValue168
 t66:=Tryd.underlying191
 a66:=Tryd.isAgg191
 z66:=Tryd.sizeOf191
 v66:=Tryd.zeroValue191
 t70:=Tryd.underlying195
 a70:=Tryd.isAgg195
 z70:=Tryd.sizeOf195
 v70:=Tryd.zeroValue195
 t76:=Tryd.underlying204
 a76:=Tryd.isAgg204
 z76:=Tryd.sizeOf204
 v76:=Tryd.zeroValue204
 t77:=Tryd.underlying205
 a77:=Tryd.isAgg205
 z77:=Tryd.sizeOf205
 v77:=Tryd.zeroValue205
def lays82_ren:Go.Shelf.Ren:=⟨fun|6=>82|15=>110|14=>109|28=>133|29=>134|20=>125|21=>126|22=>127|23=>128|24=>129|25=>130|26=>131|27=>132|46=>145|47=>146|48=>147|49=>148|50=>149|57=>157|n=>n,fun|22=>58|24=>56|25=>131|3=>3|39=>143|0=>0|53=>165|55=>168|4=>4|46=>178|45=>177|50=>77|5=>5|9=>9|66=>191|70=>195|76=>204|77=>205|n=>n,fun n=>n⟩
theorem lays82:SlLaysF0.n6 Tryd.prog lays82_ren where
 mixed:=by kernel_rfl
 f6:=⟨"slices.SortFunc[[][2]int,[2]int]",by decide,Tryd.func82.trans (congrArg some (by kernel_rfl))⟩
 f14:=⟨"slices.pdqsortCmpFunc[[2]int]",by decide,Tryd.func109.trans (congrArg some (by kernel_rfl))⟩
 f15:=Tryd.func110.trans (congrArg some (by kernel_rfl))
 f20:=⟨"slices.insertionSortCmpFunc[[2]int]",by decide,Tryd.func125.trans (congrArg some (by kernel_rfl))⟩
 f21:=⟨"slices.heapSortCmpFunc[[2]int]",by decide,Tryd.func126.trans (congrArg some (by kernel_rfl))⟩
 f22:=⟨"slices.breakPatternsCmpFunc[[2]int]",by decide,Tryd.func127.trans (congrArg some (by kernel_rfl))⟩
 f23:=⟨"slices.choosePivotCmpFunc[[2]int]",by decide,Tryd.func128.trans (congrArg some (by kernel_rfl))⟩
 f24:=⟨"slices.reverseRangeCmpFunc[[2]int]",by decide,Tryd.func129.trans (congrArg some (by kernel_rfl))⟩
 f25:=⟨"slices.partialInsertionSortCmpFunc[[2]int]",by decide,Tryd.func130.trans (congrArg some (by kernel_rfl))⟩
 f26:=⟨"slices.partitionEqualCmpFunc[[2]int]",by decide,Tryd.func131.trans (congrArg some (by kernel_rfl))⟩
 f27:=⟨"slices.partitionCmpFunc[[2]int]",by decide,Tryd.func132.trans (congrArg some (by kernel_rfl))⟩
 f28:=Tryd.func133.trans (congrArg some (by kernel_rfl))
 f29:=Tryd.func134.trans (congrArg some (by kernel_rfl))
 f46:=⟨"slices.siftDownCmpFunc[[2]int]",by decide,Tryd.func145.trans (congrArg some (by kernel_rfl))⟩
 f47:=Tryd.func146.trans (congrArg some (by kernel_rfl))
 f48:=Tryd.func147.trans (congrArg some (by kernel_rfl))
 f49:=⟨"slices.medianAdjacentCmpFunc[[2]int]",by decide,Tryd.func148.trans (congrArg some (by kernel_rfl))⟩
 f50:=⟨"slices.medianCmpFunc[[2]int]",by decide,Tryd.func149.trans (congrArg some (by kernel_rfl))⟩
 f57:=⟨"slices.order2CmpFunc[[2]int]",by decide,Tryd.func157.trans (congrArg some (by kernel_rfl))⟩
 t0:=Tryd.underlying0
 a0:=Tryd.isAgg0
 z0:=Tryd.sizeOf0
 v0:=Tryd.zeroValue0
 t3:=Tryd.underlying3
 a3:=Tryd.isAgg3
 z3:=Tryd.sizeOf3
 v3:=Tryd.zeroValue3
 t4:=Tryd.underlying4
 a4:=Tryd.isAgg4
 z4:=Tryd.sizeOf4
 v4:=Tryd.zeroValue4
 t5:=Tryd.underlying5
 a5:=Tryd.isAgg5
 z5:=Tryd.sizeOf5
 v5:=Tryd.zeroValue5
 t9:=Tryd.underlying9
 a9:=Tryd.isAgg9
 z9:=Tryd.sizeOf9
 v9:=Tryd.zeroValue9
 t22:=Tryd.underlying58
 a22:=Tryd.isAgg58
 z22:=Tryd.sizeOf58
 v22:=Tryd.zeroValue58
 t25:=Tryd.underlying131
 a25:=Tryd.isAgg131
 z25:=Tryd.sizeOf131
 v25:=Tryd.zeroValue131
 t39:=Tryd.underlying143
 a39:=Tryd.isAgg143
 z39:=Tryd.sizeOf143
 v39:=Tryd.zeroValue143
 t45:=Tryd.underlying177
 a45:=Tryd.isAgg177
 z45:=Tryd.sizeOf177
 v45:=Tryd.zeroValue177
 t46:=Tryd.underlying178
 a46:=Tryd.isAgg178
 z46:=Tryd.sizeOf178
 v46:=Tryd.zeroValue178
 t50:=Tryd.underlying77
 a50:=Tryd.isAgg77
 z50:=Tryd.sizeOf77
 v50:=Tryd.zeroValue77
 t53:=Tryd.underlying165
 a53:=Tryd.isAgg165
 z53:=Tryd.sizeOf165
 v53:=Tryd.zeroValue165
 t55:=Tryd.underlying168
 a55:=Tryd.isAgg168
 z55:=Tryd.sizeOf168
 v55:=Tryd.zeroValue168
 t66:=Tryd.underlying191
 a66:=Tryd.isAgg191
 z66:=Tryd.sizeOf191
 v66:=Tryd.zeroValue191
 t70:=Tryd.underlying195
 a70:=Tryd.isAgg195
 z70:=Tryd.sizeOf195
 v70:=Tryd.zeroValue195
 t76:=Tryd.underlying204
 a76:=Tryd.isAgg204
 z76:=Tryd.sizeOf204
 v76:=Tryd.zeroValue204
 t77:=Tryd.underlying205
 a77:=Tryd.isAgg205
 z77:=Tryd.sizeOf205
 v77:=Tryd.zeroValue205
def cfE (p q:BP):Int:=if p.1.1=q.1.1 then p.1.2- q.1.2 else p.1.1- q.1.1
theorem cfE_lex (p q:BP):decide (cfE p q<0)=lexB p.1 q.1:=by
 obtain⟨⟨p1,p2⟩,hp⟩:=p
 obtain⟨⟨q1,q2⟩,hq⟩:=q
 unfold cfE lexB
 dsimp only
 split
 ·next h=>subst h;simp;omega
 ·next h=>simp[h];omega
theorem cmpW_ok (p q:BP) (W:World):Calls Tryd.prog 106 #[.agg #[.int .i64 p.1.1,.int .i64 p.1.2],.agg #[.int .i64 q.1.1,.int .i64 q.1.2]] W fun en W'=>en= .returned (.int .i64 (cfE p q))∧∃n os,W'=grow (W.drewN n) os:=by
 obtain⟨⟨p1,p2⟩,hp⟩:=p
 obtain⟨⟨q1,q2⟩,hq⟩:=q
 unfold bdP at hp hq
 dsimp only at hp hq ⊢
 go_enter Tryd.func106,Tryd.ntmps106
 go_wp2
 ·rename_i h
  go_ret
  refine⟨?_,0,#[Obj.cells #[Value.int IntKind.i64 p1,Value.int IntKind.i64 p2] 128,Obj.cells #[Value.int IntKind.i64 q1,Value.int IntKind.i64 q2] 128],rfl⟩
  unfold cfE;rw[if_neg (by simpa using h)];rfl
 ·rename_i h
  go_ret
  refine⟨?_,0,#[Obj.cells #[Value.int IntKind.i64 p1,Value.int IntKind.i64 p2] 128,Obj.cells #[Value.int IntKind.i64 q1,Value.int IntKind.i64 q2] 128],rfl⟩
  unfold cfE;rw[if_pos (by simpa using h)];rfl
theorem SortcmpW_ok (v:Value) (xs:List (Int × Int)) (hb:∀p∈xs,bdP p):AL.Fn Tryd.prog 105 [osl 5 v,eqv (.func (.func 106) #[] #[])] [(5,own v 128 2 pairE xs)] (ι:=Unit) (fun _ _=>tup []) (fun _=> [(5,own v 128 2 pairE (sortP xs))]):=
 sort_ok lays105 rfl (isAgg_of (by kernel_rfl)) (ent_of (by kernel_rfl)) cfE cfE_lex cmpW_ok v xs hb
def cfI (x y:Int):Int:=if x<y then-1 else if y<x then 1 else 0
def cfL (p1 p2 q1 q2:Int):Int:=if cfI p1 q1=0 then cfI p2 q2 else cfI p1 q1
def cfP (p q:BP):Int:=cfL p.1.1 p.1.2 q.1.1 q.1.2
theorem cfP_lex (p q:BP):decide (cfP p q<0)=lexB p.1 q.1:=by
 obtain⟨⟨p1,p2⟩,hp⟩:=p
 obtain⟨⟨q1,q2⟩,hq⟩:=q
 unfold cfP cfL cfI lexB
 dsimp only
 by_cases h1:p1<q1
 ·simp[h1]
 ·by_cases h2:q1<p1
  ·simp[h1,h2];omega
  ·have h3:p1=q1:=by omega
   subst h3
   by_cases g1:p2<q2
   ·simp[g1]
   ·by_cases g2:q2<p2<;>simp[g1,g2]
theorem cmpI_ok (x y:Int) (W:World):Calls Tryd.prog 111 #[.int .i64 x,.int .i64 y] W fun en W'=>en= .returned (.int .i64 (cfI x y))∧W'=W:=by
 go_enter Tryd.func111,Tryd.ntmps111
 go_wp2
 all_goals go_ret
 all_goals refine⟨?_,rfl⟩
 all_goals simp_all [cfI]
 all_goals try omega
theorem cmpL_ok (p1 p2 q1 q2:Int) (W:World) (b c:Nat) (h1:W.cell? ⟨b,0,none⟩=some (.int .i64 p1)) (h2:W.cell? ⟨b,1,none⟩=some (.int .i64 p2)) (h3:W.cell? ⟨c,0,none⟩=some (.int .i64 q1)) (h4:W.cell? ⟨c,1,none⟩=some (.int .i64 q2)):
 Calls Tryd.prog 84 #[.slice (some ⟨b,0,none⟩) 2 2,.slice (some ⟨c,0,none⟩) 2 2] W fun en W'=>en= .returned (.int .i64 (cfL p1 p2 q1 q2))∧W'=W:=by
 unfold cfL
 generalize hr:(if cfI p1 q1=0 then cfI p2 q2 else cfI p1 q1)=r
 generalize hu:cfI p1 q1=u at hr
 generalize hv:cfI p2 q2=v at hr
 go_enter Tryd.func84,Tryd.ntmps84
 go_wp2
 refine wp_loop_rounds 3 ?_
 rw[rounds_succ]
 go_wp2_with (first|(go_at_call 111;refine(cmpI_ok _ _ _).mono ?_;rintro e w' ⟨rfl,rfl⟩;rw[hu]))
 ·rename_i h
  go_ret;refine⟨?_,rfl⟩;rw[←hr,if_neg (by simpa using h)];rfl
 ·rename_i h
  rw[rounds_succ]
  go_wp2_with (first|(go_at_call 111;refine(cmpI_ok _ _ _).mono ?_;rintro e w' ⟨rfl,rfl⟩;rw[hv]))
  ·go_ret;refine⟨?_,rfl⟩;rw[←hr,if_pos (by simpa using h)];rfl
  ·rename_i h2
   rw[rounds_succ]
   go_wp2
   go_ret;refine⟨?_,rfl⟩;rw[←hr,if_pos (by simpa using h)]
   have:v=0:=by simpa using h2
   rw[this];rfl
theorem cmpJ_ok (p q:BP) (W:World):Calls Tryd.prog 83 #[.agg #[.int .i64 p.1.1,.int .i64 p.1.2],.agg #[.int .i64 q.1.1,.int .i64 q.1.2]] W fun en W'=>en= .returned (.int .i64 (cfP p q))∧∃n os,W'=grow (W.drewN n) os:=by
 obtain⟨⟨p1,p2⟩,hp⟩:=p
 obtain⟨⟨q1,q2⟩,hq⟩:=q
 show Calls Tryd.prog 83 #[.agg #[.int .i64 p1,.int .i64 p2],.agg #[.int .i64 q1,.int .i64 q2]] W fun en W'=>en= .returned (.int .i64 (cfL p1 p2 q1 q2))∧∃n os,W'=grow (W.drewN n) os
 have mixed:Tryd.prog.follows .mixedOrders=true:=by kernel_rfl
 go_enter Tryd.func83,Tryd.ntmps83
 go_wp2
 generalize hW:(W.alloc (Obj.cells #[Value.int IntKind.i64 p1,Value.int IntKind.i64 p2] 56)).alloc (Obj.cells #[Value.int IntKind.i64 q1,Value.int IntKind.i64 q2] 56)=W2
 have g1:∀n os,(grow (W2.drewN n) os).cell? ⟨W.heap.size,0,none⟩=some (.int .i64 p1):=cell_grown (by rw[←hW];simp;omega) (by rw[←hW];simp)
 have g2:∀n os,(grow (W2.drewN n) os).cell? ⟨W.heap.size,1,none⟩=some (.int .i64 p2):=cell_grown (by rw[←hW];simp;omega) (by rw[←hW];simp)
 have g3:∀n os,(grow (W2.drewN n) os).cell? ⟨W.heap.size+1,0,none⟩=some (.int .i64 q1):=cell_grown (by rw[←hW];simp) (by rw[←hW];simp)
 have g4:∀n os,(grow (W2.drewN n) os).cell? ⟨W.heap.size+1,1,none⟩=some (.int .i64 q2):=cell_grown (by rw[←hW];simp) (by rw[←hW];simp)
 go_quiet_grown (first|(go_at_call 84;refine Calls.grown_of ((cmpL_ok p1 p2 q1 q2 _ _ _ (g1 _ _) (g2 _ _) (g3 _ _) (g4 _ _)).mono fun _ _ h=>⟨h.1,0,#[],by rw[h.2,grow_empty];rfl⟩)))
 go_wp2
 go_ret
 refine⟨rfl,nq,#[Obj.cells #[Value.int IntKind.i64 p1,Value.int IntKind.i64 p2] 56,Obj.cells #[Value.int IntKind.i64 q1,Value.int IntKind.i64 q2] 56]++osq,?_⟩
 rw[←hW]
 show grow (grow (W.drewN nq) #[_,_]) osq=_
 rw[grow_grow]
theorem SortcmpJ_ok (v:Value) (xs:List (Int × Int)) (hb:∀p∈xs,bdP p):AL.Fn Tryd.prog 82 [osl 5 v,eqv (.func (.func 83) #[] #[])] [(5,own v 56 2 pairE xs)] (ι:=Unit) (fun _ _=>tup []) (fun _=> [(5,own v 56 2 pairE (sortP xs))]):=
 sort_ok lays82 rfl (isAgg_of (by kernel_rfl)) (ent_of (by kernel_rfl)) cfP cfP_lex cmpJ_ok v xs hb
end sortE
end Go.Proofs.YtolpjmllmlahfaaDoor
namespace Go.Proofs.YtolpjmllmlahfaaDoor
open AL Go
set_option maxRecDepth 100000
set_option linter.all false
open ref01 ref03 ref04 ref06 prog prog2 prog3 prog4 prog5 prog6 prog13 prog15 starts search Part Rungs LeftM TrimM RoundM BisM BisM5 WalkM StepM WitM refw judg
def edgesE:List (Int × Int)→List AV:=fun l=> [sl 2 pairE l]
def edgesN (N:Nat):List (Int × Int)→List AV:=fun l=> [fre N (sl 2 pairE l)]
instance (l:List (Int × Int)):OneAll (edgesE l):=inferInstanceAs (OneAll [sl 2 pairE l])
instance (N:Nat) (l:List (Int × Int)):OneAll (edgesN N l):=inferInstanceAs (OneAll [fre N (sl 2 pairE l)])
abbrev sys (m:SSys):AV:=agg [strs m.actions,sl 1 edgesE m.states]
abbrev nsys (N:Nat) (m:SSys):AV:=agg [fre N (strs m.actions),fre N (sl 1 edgesE m.states)]
instance:FlatE pairE:=flat2 (f:=fun p:Int × Int=> .int .i64 p.1) (g:=fun p=> .int .i64 p.2)
def intV (x:Int):AV:=int x
def halfS (T:SSpec) (k:Nat):List (List Int):=(sets0 T).take k++List.replicate (T.states.length- k) []
theorem half_len {T:SSpec} {k:Nat} (h:k≤T.states.length):(halfS T k).length=T.states.length:=by simp[halfS,sets0];omega
theorem half_zero (T:SSpec):List.replicate T.states.length []=halfS T 0:=by simp[halfS]
theorem half_end {T:SSpec} {k:Nat} (h:k=T.states.length):halfS T k=sets0 T:=by
 subst h;unfold halfS
 rw[Nat.sub_self,List.replicate_zero,List.append_nil,List.take_of_length_le (by simp[sets0])]
theorem half_step {T:SSpec} {k:Nat} (h:k<T.states.length):(halfS T k).set k [ix (ix T.states k).accept 0]=halfS T (k+1):=by
 have hl:(sets0 T).length=T.states.length:=by simp[sets0]
 have e:ix (sets0 T) k= [ix (ix T.states k).accept 0]:=by unfold sets0;rw[TurnM.ix_mapS h]
 unfold halfS
 rw[take_s (by omega),e,List.set_append_right _ _ (by simp;omega),List.append_assoc]
 congr 1
 have:T.states.length- k=(T.states.length- (k+1))+1:=by omega
 rw[this,List.replicate_succ,show k- ((sets0 T).take k).length=0 by simp;omega];rfl
namespace T
theorem map157:MapT Tryd.prog 157 154 3 pairV pairD:=mapT_pair Tryd.underlying157 Tryd.underlying154 (by kernel_rfl) (by decide+kernel) (by kernel_rfl) (by kernel_rfl) ⟨rfl,rfl,by kernel_rfl,by kernel_rfl⟩ ⟨rfl,rfl,by kernel_rfl,by kernel_rfl⟩ (by kernel_rfl) (by kernel_rfl)
theorem zvi3:∀w F,∃u,(zeroValue 3).run Tryd.prog w= .ok u w∧(intV 0).p w F u:=zeroV_of (v:= .int .i64 0) (by kernel_rfl) _ (fun _ _=>eqv_rfl)
theorem z55:ZeroIs Tryd.prog 55 [.slice none 0 0,.slice none 0 0]:=zeroIs_of (by kernel_rfl)
theorem sl108:IsSlice Tryd.prog 108 154 2:=isSlice_of (by kernel_rfl)
theorem agg154:IsAgg Tryd.prog 154 2:=isAgg_of (by kernel_rfl)
theorem z154:ZeroIs Tryd.prog 154 [.int .i64 0,.int .i64 0]:=zeroIs_of (by kernel_rfl)
theorem fld154_0:FieldAt Tryd.prog 154 0 0:=fieldAt_of (by kernel_rfl)
theorem fld154_1:FieldAt Tryd.prog 154 1 1:=fieldAt_of (by kernel_rfl)
theorem ent104:Ent Tryd.prog 104:=ent_of (by kernel_rfl)
theorem z157:ZeroIs Tryd.prog 157 [.map none]:=zeroIs_of (by kernel_rfl)
theorem one157:IsOne Tryd.prog 157:=isOne_of (by kernel_rfl)
theorem z108:ZeroIs Tryd.prog 108 [.slice none 0 0]:=zeroIs_of (by kernel_rfl)
theorem one108:IsOne Tryd.prog 108:=isOne_of (by kernel_rfl)
theorem st55:StructT Tryd.prog 55 [(0,1),(1,1)] [.slice none 0 0,.slice none 0 0]:=structT_of (by kernel_rfl) (by kernel_rfl)
theorem agg55:IsAgg Tryd.prog 55 2:=isAgg_of (by kernel_rfl)
theorem z85:ZeroIs Tryd.prog 85 [.slice none 0 0]:=zeroIs_of (by kernel_rfl)
theorem one85:IsOne Tryd.prog 85:=isOne_of (by kernel_rfl)
theorem st128:StructT Tryd.prog 128 [(0,1),(1,1)] [.int .i64 0,.int .i64 0]:=structT_of (by kernel_rfl) (by kernel_rfl)
theorem mk85:MakeT Tryd.prog 85 128 2 16 [.int .i64 0,.int .i64 0]:=makeT_of (by kernel_rfl) (by kernel_rfl)
theorem ent105:Ent Tryd.prog 105:=ent_of (by kernel_rfl)
theorem fld55_1:FieldAt Tryd.prog 55 1 1:=fieldAt_of (by kernel_rfl)
theorem one53:IsOne Tryd.prog 53:=isOne_of (by kernel_rfl)
theorem mk53:MakeT Tryd.prog 53 85 1 24 [.slice none 0 0]:=makeT_of (by kernel_rfl) (by kernel_rfl)
end T
namespace wit
theorem Witness_ok (s:SSpec) (hT:okSpec s) (want:List (Int × Int)) (hw:Wants s want):
 AL.Fn Tryd.prog 77 [spec s,sl 2 pairE want] [] (ι:= { m:SSys//WitOK s want m }) (fun N i=>nsys N i.1) (fun _=> []):=by
 refine fnI Tryd.func77 rfl rfl (fun w0 F0=> ?_)
 have hf0:=hT.few0;have hf1:=hT.few1;have hn8:=hT.n8;have hwl:=hw.few
 refine fcC (inhS 0 rfl) (fun hS0=> ?_)
 obtain⟨hsa0,hss0,hse0⟩:=spec_lens hS0
 refine fcC (slenI 1 rfl) (fun hm1=> ?_)
 refine sq (rg (bx (key:=2) (cs:= [sl 1 strE s.actions,sl 2 stateE s.states]) rfl fun b2=>(al (key:=4) T.z55 (ex_cons (ex_cons (ex_nil))) fun b4=>(nl (th (sq (rg (fP rfl T.fld25_1 (lP rfl rfl rfl T.one23 (fc (slenI 23 rfl) fun hm23=>(lnF rfl T.sl23 (mk (key:=25) (m:=s.states.length) (enc:=eqvE) (y:=(.slice none 0 0:Value)) rfl rfl T.mk134 (ex_cons ex_nil) (by unfold maxL;omega) (by unfold maxL;omega) fun v25=>(al (key:=5) T.z134 (ex_cons (ex_nil)) fun b5=>(storePO rfl rfl rfl rfl T.one134 rfl (nl (th (sq (sq (rg (nbB 251 s.states.length 3 1 intE (fP rfl T.fld25_1 (lP rfl rfl rfl T.one23 (lnF rfl T.sl23 (mv (nl (th (bk ?_)))))))))))))))))))))))))))
 have hI0_0:0≤s.states.length:=by
  first|omega|simp
 have hI0_1:(List.replicate s.states.length (.slice none 0 0:Value)).length=s.states.length∧(List.replicate s.states.length [])=halfS s 0:=by
  exact⟨by simp,half_zero s⟩
 refine lp (κ:=Nat × (List Value) × (List (List Int))) (fun p=> [(1,sl 2 pairE want),(2,ptr 2 b2 0),(4,ptr 4 b4 0),(5,ptr 5 b5 0),(27,sl 2 stateE s.states),(28,int (s.states.length:Int)),(29,int (p.1:Int))]) (fun p=> [(2,cell b2 [sl 1 strE s.actions,sl 2 stateE s.states]),(4,cell b4 [eqv (.slice none 0 0),eqv (.slice none 0 0)]),(5,cell b5 [osl 25 v25]),(25,own v25 28 1 eqvE p.2.1),(251,bigown p.2.1 3 1 intE p.2.2 none)]) (fun p=>(p.1≤s.states.length)∧(p.2.1.length=s.states.length∧p.2.2=halfS s p.1)) (fun p=>s.states.length- p.1) ⟨0,List.replicate s.states.length (.slice none 0 0:Value),List.replicate s.states.length []⟩ ⟨hI0_0,hI0_1⟩ ⟨id,id,id,id,id,id,id,trivial⟩ ⟨⟨rfl,id⟩,⟨rfl,id⟩,⟨rfl,id⟩,⟨rfl,id⟩,⟨rfl,id⟩,trivial⟩ ?_
 intro⟨k,us,xss⟩ hG0
 obtain⟨hk0,⟨hul,hxs⟩⟩:(k≤s.states.length)∧(us.length=s.states.length∧xss=halfS s k):=hG0
 show Ct _ _ _ _ [(1,sl 2 pairE want),(2,ptr 2 b2 0),(4,ptr 4 b4 0),(5,ptr 5 b5 0),(27,sl 2 stateE s.states),(28,int (s.states.length:Int)),(29,int (k:Int))] [(2,cell b2 [sl 1 strE s.actions,sl 2 stateE s.states]),(4,cell b4 [eqv (.slice none 0 0),eqv (.slice none 0 0)]),(5,cell b5 [osl 25 v25]),(25,own v25 28 1 eqvE us),(251,bigown us 3 1 intE xss none)] _
 have hxl:xss.length=s.states.length:=by rw[hxs];exact half_len (by omega)
 refine sq (rg (bi rfl rfl b_lss (nl (th (sq ?_)))))
 refine cd rfl (fun hc0=> ?_) (fun hc0=> ?_)
 ·try simp at hc0
  have hne:0<(ix s.states k).accept.length:=hw.ne k (by omega)
  refine sk (th (sq (bk (sq (rg (mv (iF rfl rfl T.sl23 (by omega) (by first|exact gN (by omega)|exact gI (by omega) (by omega)) (lFA rfl T.agg69 (Nat.le_of_ble_eq_true rfl) (al (key:=7) T.z69 (ex_cons (ex_cons (ex_nil))) fun b7=>(ag (sPA (cs':= [sl 1 intE ((ix s.states k).accept),sl 1 intE ((ix s.states k).next)]) rfl rfl rfl T.agg69 rfl rfl (nl (th (tkBC 251 99 k rfl rfl (by decide) (gK (by omega)) (gK (by omega)) ?_))))))))))))))
  refine drH (nh:=9) [0,0,0,4,12,28,60,127,255] [(none,[5]),(none,[]),(none,[]),(none,[7]),(none,[]),(none,[]),(some 40,[]),(none,[25]),(some 25,[25])] T.mixed (by kernel_rfl) (by kernel_rfl) ?_
  refine stv (d:=34) (fun β0=>osl 25 v25) [5] rfl (fun β β' hb=>rfl) (fun β0 _ _ _ _ gq gh kq=>lP (gq.1.trans rfl) (gh.1.trans rfl) rfl T.one134 kq) ?_
  refine stv (d:=35) (fun β0=>int (k:Int)) [] rfl (fun β β' hb=>rfl) (fun β0 _ _ _ _ gq gh kq=>mv' (gq.1.trans rfl) kq) ?_
  refine stv (d:=36) (fun β0=>ptr 7 b7 0) [] rfl (fun β β' hb=>rfl) (fun β0 _ _ _ _ gq gh kq=>fP (gq.1.trans rfl) T.fld69_0 kq) ?_
  refine stv (d:=37) (fun β0=>sl 1 intE ((ix s.states k).accept)) [7] rfl (fun β β' hb=>rfl) (fun β0 _ _ _ _ gq gh kq=>lP (gq.1.trans rfl) (gh.1.trans rfl) rfl T.one28 kq) ?_
  refine stv (d:=38) (fun β0=>fp [int (ix ((ix s.states k).accept) 0)]) [] rfl (fun β β' hb=>rfl) (fun β0 _ _ _ _ gq gh kq=>iF (gq.1.trans rfl) rfl T.sl28 (by omega) (gI (by omega) (by omega)) kq) ?_
  refine stv (d:=39) (fun β0=>int (ix ((ix s.states k).accept) 0)) [] rfl (fun β β' hb=>rfl) (fun β0 _ _ _ _ gq gh kq=>lF (gq.1.trans rfl) rfl T.one3 kq) ?_
  refine stc (d:=40) (e:=3) (n:=1) (enc:=intE) (xs:= [(ix ((ix s.states k).accept) 0)]) 40 [] rfl (fun β0 _ _ _ _ gq gh kq=>bsO 40 (enc:=intE) (xs:= [(ix ((ix s.states k).accept) 0)]) (css:= [[int (ix ((ix s.states k).accept) 0)]]) T.mk28 ⟨rfl,rfl,p1 (φ:=int (ix ((ix s.states k).accept) 0)) (by exact(gq.1.trans rfl)),trivial⟩ rfl rfl rfl rfl fun v=>kq v) ?_
  refine stv (d:=41) (fun β0=>eptr 25 v25 1 k 0) [25] rfl (fun β β' hb=>rfl) (fun β0 _ _ _ _ gq gh kq=>iO (gq.1.trans rfl) (gh.1.trans rfl) (gq.2.1.trans rfl) T.sl134 (by omega) (by omega) kq) ?_
  refine stw 25 (fun β0=>own v25 28 1 eqvE (us.set k (sv (β0 6)))) [25] rfl (fun β β' hb=>by first|rw[hb 6 rfl]|(dsimp only;rw[hb 6 rfl])) (fun β0 _ _ _ _ gq gh kq=>sO (φ:=eqv (sv (β0 6))) (gq.1.trans rfl) (gh.1.trans rfl) ((gq.2.1.trans rfl).trans osl_is) T.one28 (by first|exact gN (by omega)|exact gI (by omega) (by omega)) rfl (y':=(sv (β0 6))) rfl kq) ?_
  refine pnH fun β0=>(nl (eb (th (rg (gvB (us:=us) 251 40 k rfl rfl (by decide) (by omega) (bi rfl rfl (b_add (by unfold I64;omega)) (mv (nl ?_))))))))
  have hN0:(k+1)≤s.states.length:=by
   first|omega|simp_all
  have hN1:(us.set k (sv (β0 6))).length=s.states.length∧(xss.set k [(ix ((ix s.states k).accept) 0)])=halfS s (k+1):=by
   exact⟨by simpa using hul,by rw[hxs];exact half_step hc0⟩
  exact ln (⟨k+1,us.set k (sv (β0 6)),xss.set k [(ix ((ix s.states k).accept) 0)]⟩:Nat × (List Value) × (List (List Int))) ⟨hN0,hN1⟩ (by first|omega|(dsimp only;omega)) ⟨id,id,id,id,id,id,id,trivial⟩ ⟨⟨rfl,id⟩,⟨rfl,id⟩,⟨rfl,id⟩,⟨rfl,id⟩,⟨rfl,id⟩,trivial⟩
 ·try simp at hc0
  refine ex (xt_ (xt_ (xb (th (sq (sq (rg (mv (lnF rfl T.sl108 (mv (nl (th (bk ?_)))))))))))))
  have hI1_0:0≤want.length:=by
   first|omega|simp
  have hI1_1:us.length=s.states.length∧SetsOK s (want.take 0) xss:=by
   exact⟨hul,by rw[hxs,half_end (by omega)];exact sets_zero s⟩
  refine lp (κ:=Nat × (List Value) × (List (List Int))) (fun p=> [(1,sl 2 pairE want),(2,ptr 2 b2 0),(4,ptr 4 b4 0),(5,ptr 5 b5 0),(43,sl 2 pairE want),(44,int (want.length:Int)),(45,int (p.1:Int))]) (fun p=> [(2,cell b2 [sl 1 strE s.actions,sl 2 stateE s.states]),(4,cell b4 [eqv (.slice none 0 0),eqv (.slice none 0 0)]),(5,cell b5 [osl 25 v25]),(25,own v25 28 1 eqvE p.2.1),(251,bigown p.2.1 3 1 intE p.2.2 none)]) (fun p=>(p.1≤want.length)∧(p.2.1.length=s.states.length∧SetsOK s (want.take p.1) p.2.2)) (fun p=>want.length- p.1) ⟨0,us,xss⟩ ⟨hI1_0,hI1_1⟩ ⟨id,id,id,id,id,id,id,trivial⟩ ⟨⟨rfl,id⟩,⟨rfl,id⟩,⟨rfl,id⟩,⟨rfl,id⟩,⟨rfl,id⟩,trivial⟩ ?_
  intro⟨k1,us2,xss2⟩ hG1
  obtain⟨hk1,⟨hul2,hS⟩⟩:(k1≤want.length)∧(us2.length=s.states.length∧SetsOK s (want.take k1) xss2):=hG1
  show Ct _ _ _ _ [(1,sl 2 pairE want),(2,ptr 2 b2 0),(4,ptr 4 b4 0),(5,ptr 5 b5 0),(43,sl 2 pairE want),(44,int (want.length:Int)),(45,int (k1:Int))] [(2,cell b2 [sl 1 strE s.actions,sl 2 stateE s.states]),(4,cell b4 [eqv (.slice none 0 0),eqv (.slice none 0 0)]),(5,cell b5 [osl 25 v25]),(25,own v25 28 1 eqvE us2),(251,bigown us2 3 1 intE xss2 none)] _
  have hxl2:=hS.len
  refine sq (rg (bi rfl rfl b_lss (nl (th (sq ?_)))))
  refine cd rfl (fun hc1=> ?_) (fun hc1=> ?_)
  ·try simp at hc1
   obtain⟨hw0,hw1,hw2⟩:=hw.ok _ (ix_memS hc1)
   refine sk (th (sq (bk (sq (rg (iF rfl rfl T.sl108 (by omega) (by first|exact gN (by omega)|exact gI (by omega) (by omega)) (lFA rfl T.agg154 (Nat.le_of_ble_eq_true rfl) (al (key:=9) T.z154 (ex_cons (ex_cons (ex_nil))) fun b9=>(sPA (cs':= [int ((ix want k1).1),int ((ix want k1).2)]) rfl rfl rfl T.agg154 rfl rfl (nl (th (sq (tkBC 251 99 (((ix want k1).1).toNat) rfl rfl (by decide) (gK (by omega)) (gK (by omega)) (dr (nh:=9) [0,0,2,7,15,0,32,127,255] T.mixed (by kernel_rfl) ?_))))))))))))))
   refine st_ rfl (fun _ _ _ gq kq=>lP (gq.1.trans rfl) rfl rfl T.one134 kq) ?_
   refine st_ rfl (fun _ _ _ gq kq=>fP (gq.1.trans rfl) T.fld154_0 kq) ?_
   refine st_ rfl (fun _ _ _ gq kq=>lP (gq.1.trans rfl) rfl rfl T.one3 kq) ?_
   refine st_ rfl (fun _ _ _ gq kq=>iO (gq.1.trans rfl) rfl (gq.2.1.trans rfl) T.sl134 (by omega) (by omega) kq) ?_
   refine st_ rfl (fun _ _ _ gq kq=>lO (gq.1.trans rfl) rfl (by first|exact gN (by omega)|exact gI (by omega) (by omega)) rfl T.one28 kq) ?_
   refine st_ rfl (fun _ _ _ gq kq=>fP (gq.1.trans rfl) T.fld154_1 kq) ?_
   refine st_ rfl (fun _ _ _ gq kq=>lP (gq.1.trans rfl) rfl rfl T.one3 kq) ?_
   refine st_ rfl (fun _ _ _ gq kq=>calB (φs:= [sl 1 intE (ix xss2 (((ix want k1).1).toNat)),int ((ix want k1).2)]) ⟨.own 99 (((gq.1.trans rfl)).trans osl_is.symm) rfl,.here (gq.2.1.trans rfl),trivial⟩ (judg.Contains_ok _ _) T.ent104 kq) ?_
   refine st_ rfl (fun _ _ _ gq kq=>no (gq.1.trans rfl) kq) ?_
   refine pn (nl (th ?_))
   refine cd rfl (fun hc2=> ?_) (fun hc2=> ?_)
   ·try simp at hc2
    have hsl:=sets_len hT hw hS (fun p hp=>List.mem_of_mem_take hp) (x:=((ix want k1).1).toNat) (by omega)
    refine drH (nh:=14) [0,0,2,0,0,16,56,120,0,256,768,2040,4095,8191] [(none,[5]),(none,[]),(none,[9]),(none,[5]),(none,[]),(none,[9]),(none,[25]),(none,[25]),(none,[]),(none,[9]),(none,[]),(some 99,[99]),(none,[25]),(some 25,[25])] T.mixed (by kernel_rfl) (by kernel_rfl) ?_
    refine stv (d:=58) (fun β1=>osl 25 v25) [5] rfl (fun β β' hb=>rfl) (fun β1 _ _ _ _ gq gh kq=>lP (gq.1.trans rfl) (gh.1.trans rfl) rfl T.one134 kq) ?_
    refine stv (d:=59) (fun β1=>ptr 9 b9 0) [] rfl (fun β β' hb=>rfl) (fun β1 _ _ _ _ gq gh kq=>fP (gq.1.trans rfl) T.fld154_0 kq) ?_
    refine stv (d:=60) (fun β1=>int ((ix want k1).1)) [9] rfl (fun β β' hb=>rfl) (fun β1 _ _ _ _ gq gh kq=>lP (gq.1.trans rfl) (gh.1.trans rfl) rfl T.one3 kq) ?_
    refine stv (d:=61) (fun β1=>osl 25 v25) [5] rfl (fun β β' hb=>rfl) (fun β1 _ _ _ _ gq gh kq=>lP (gq.1.trans rfl) (gh.1.trans rfl) rfl T.one134 kq) ?_
    refine stv (d:=62) (fun β1=>ptr 9 b9 0) [] rfl (fun β β' hb=>rfl) (fun β1 _ _ _ _ gq gh kq=>fP (gq.1.trans rfl) T.fld154_0 kq) ?_
    refine stv (d:=63) (fun β1=>int ((ix want k1).1)) [9] rfl (fun β β' hb=>rfl) (fun β1 _ _ _ _ gq gh kq=>lP (gq.1.trans rfl) (gh.1.trans rfl) rfl T.one3 kq) ?_
    refine stv (d:=64) (fun β1=>eptr 25 v25 1 (((ix want k1).1).toNat) 0) [25] rfl (fun β β' hb=>rfl) (fun β1 _ _ _ _ gq gh kq=>iO (gq.1.trans rfl) (gh.1.trans rfl) (gq.2.1.trans rfl) T.sl134 (by omega) (by omega) kq) ?_
    refine stv (d:=65) (fun β1=>eqv (ix us2 (((ix want k1).1).toNat))) [25] rfl (fun β β' hb=>rfl) (fun β1 _ _ _ _ gq gh kq=>lO (gq.1.trans rfl) (gh.1.trans rfl) (by first|exact gN (by omega)|exact gI (by omega) (by omega)) rfl T.one28 kq) ?_
    refine stv (d:=66) (fun β1=>ptr 9 b9 1) [] rfl (fun β β' hb=>rfl) (fun β1 _ _ _ _ gq gh kq=>fP (gq.1.trans rfl) T.fld154_1 kq) ?_
    refine stv (d:=67) (fun β1=>int ((ix want k1).2)) [9] rfl (fun β β' hb=>rfl) (fun β1 _ _ _ _ gq gh kq=>lP (gq.1.trans rfl) (gh.1.trans rfl) rfl T.one3 kq) ?_
    refine stv (d:=68) (fun β1=>sl 1 intE [((ix want k1).2)]) [] rfl (fun β β' hb=>rfl) (fun β1 _ _ _ _ gq gh kq=>bsE (enc:=intE) (xs:= [((ix want k1).2)]) (css:= [[int ((ix want k1).2)]]) T.mk28 ⟨rfl,rfl,p1 (φ:=int ((ix want k1).2)) (by exact(gq.1.trans rfl)),trivial⟩ rfl rfl rfl rfl kq) ?_
    refine stc (d:=69) (e:=3) (n:=1) (enc:=intE) (xs:=(ix xss2 (((ix want k1).1).toNat))++ [((ix want k1).2)]) 99 [99] rfl (fun β1 _ _ _ _ gq gh kq=>ap (key:=99) (zs:= [((ix want k1).2)]) (fun h=>eqv_of (gq.1.trans rfl) h) (gh.1.trans rfl) (gq.2.1.trans rfl) rfl T.mk28 (by unfold maxL at*;simp;omega) (by unfold maxL at*;simp;omega) fun v=>kq v) ?_
    refine stv (d:=70) (fun β1=>eptr 25 v25 1 (((ix want k1).1).toNat) 0) [25] rfl (fun β β' hb=>rfl) (fun β1 _ _ _ _ gq gh kq=>iO (gq.1.trans rfl) (gh.1.trans rfl) (gq.2.1.trans rfl) T.sl134 (by omega) (by omega) kq) ?_
    refine stw 25 (fun β1=>own v25 28 1 eqvE (us2.set (((ix want k1).1).toNat) (sv (β1 11)))) [25] rfl (fun β β' hb=>by first|rw[hb 11 rfl]|(dsimp only;rw[hb 11 rfl])) (fun β1 _ _ _ _ gq gh kq=>sO (φ:=eqv (sv (β1 11))) (gq.1.trans rfl) (gh.1.trans rfl) ((gq.2.1.trans rfl).trans osl_is) T.one28 (by first|exact gN (by omega)|exact gI (by omega) (by omega)) rfl (y':=(sv (β1 11))) rfl kq) ?_
    refine pnH fun β1=>(nl (eb (th (rg (gvB (us:=us2) 251 99 (((ix want k1).1).toNat) rfl rfl (by decide) (by omega) (bi rfl rfl (b_add (by unfold I64;omega)) (mv (nl ?_))))))))
    have hN0:(k1+1)≤want.length:=by
     first|omega|simp_all
    have hN1:(us2.set (((ix want k1).1).toNat) (sv (β1 11))).length=s.states.length∧SetsOK s (want.take (k1+1)) (xss2.set (((ix want k1).1).toNat) ((ix xss2 (((ix want k1).1).toNat))++ [((ix want k1).2)])):=by
     refine⟨by simpa using hul2,?_⟩
     rw[take_s hc1]
     have:=sets_add hS hw0 hw1
     unfold setsAdd at this
     rw[if_neg hc2] at this
     exact this
    exact ln (⟨k1+1,us2.set (((ix want k1).1).toNat) (sv (β1 11)),xss2.set (((ix want k1).1).toNat) ((ix xss2 (((ix want k1).1).toNat))++ [((ix want k1).2)])⟩:Nat × (List Value) × (List (List Int))) ⟨hN0,hN1⟩ (by first|omega|(dsimp only;omega)) ⟨id,id,id,id,id,id,id,trivial⟩ ⟨⟨rfl,id⟩,⟨rfl,id⟩,⟨rfl,id⟩,⟨rfl,id⟩,⟨rfl,id⟩,trivial⟩
   ·try simp at hc2
    refine gvSC 251 99 (((ix want k1).1).toNat) rfl rfl (by decide) (gK (by omega)) (gK (by omega)) (sk (eb (th (rg (bi rfl rfl (b_add (by unfold I64;omega)) (mv (nl ?_)))))))
    have hN0:(k1+1)≤want.length:=by
     first|omega|simp_all
    have hN1:us2.length=s.states.length∧SetsOK s (want.take (k1+1)) xss2:=by
     refine⟨hul2,?_⟩
     rw[take_s hc1]
     have:=sets_add hS hw0 hw1
     unfold setsAdd at this
     rw[if_pos hc2] at this
     exact this
    exact ln (⟨k1+1,us2,xss2⟩:Nat × (List Value) × (List (List Int))) ⟨hN0,hN1⟩ (by first|omega|(dsimp only;omega)) ⟨id,id,id,id,id,id,id,trivial⟩ ⟨⟨rfl,id⟩,⟨rfl,id⟩,⟨rfl,id⟩,⟨rfl,id⟩,⟨rfl,id⟩,trivial⟩
  ·try simp at hc1
   have hSE:SetsOK s want xss2:=by rw[show k1=want.length by omega,List.take_length] at hS;exact hS
   have hne0:0<(ix s.states 0).accept.length:=hw.ne 0 (by omega)
   refine ex (xt_ (xt_ (xb (th (sq (rg (fP rfl T.fld25_1 (lP rfl rfl rfl T.one23 (iF rfl rfl T.sl23 (by omega) (gK (k:=0) (by omega)) (fF rfl T.fld69_0 (lF rfl rfl T.one28 (iF rfl rfl T.sl28 (by omega) (gK (k:=0) (by omega)) (lF rfl rfl T.one3 (bd (css:= [(0,_),(1,_)]) T.st154 (ex_cons (ex_cons (ex_nil))) ⟨rfl,rfl,p1 (φ:=int 0) rfl,⟨rfl,rfl,p1 (φ:=int (ix ((ix s.states 0).accept) 0)) rfl,trivial⟩⟩ (al (key:=10) T.z154 (ex_cons (ex_cons (ex_nil))) fun b10=>(sPA (cs':= [int 0,int (ix ((ix s.states 0).accept) 0)]) rfl rfl rfl T.agg154 rfl rfl (nl (th (sq (sq (rg (mv (lnF rfl T.sl108 (bi rfl rfl b_gtr (nl (th ?_))))))))))))))))))))))))))
   refine jn (κ:=Int × Int) (fun p=> [(2,ptr 2 b2 0),(4,ptr 4 b4 0),(5,ptr 5 b5 0),(10,ptr 10 b10 0)]) (fun p=> [(2,cell b2 [sl 1 strE s.actions,sl 2 stateE s.states]),(4,cell b4 [eqv (.slice none 0 0),eqv (.slice none 0 0)]),(5,cell b5 [osl 25 v25]),(10,cell b10 [int p.1,int p.2]),(25,own v25 28 1 eqvE us2),(251,bigown us2 3 1 intE xss2 none)]) (fun p=>(p.1,p.2)=firstW s want) ?_ ?_
   ·
    refine cd rfl (fun hc3=> ?_) (fun hc3=> ?_)
    ·try simp at hc3
     refine rg (mv (iF rfl rfl T.sl108 (by omega) (gK (k:=0) (by omega)) (lFA rfl T.agg154 (Nat.le_of_ble_eq_true rfl) (sPA (cs':= [int ((ix want 0).1),int ((ix want 0).2)]) rfl rfl rfl T.agg154 rfl rfl (nl ?_)))))
     have hN0:(((ix want 0).1),((ix want 0).2))=firstW s want:=by
      unfold firstW;rw[if_pos (by omega)]
     exact jx ⟨(ix want 0).1,(ix want 0).2⟩ hN0 ⟨id,id,id,id,trivial⟩ ⟨⟨rfl,id⟩,⟨rfl,id⟩,⟨rfl,id⟩,⟨rfl,id⟩,⟨rfl,id⟩,⟨rfl,id⟩,trivial⟩
    ·try simp at hc3
     refine sk ?_
     have hN0:((0:Int),(ix ((ix s.states 0).accept) 0))=firstW s want:=by
      unfold firstW;rw[if_neg (by simp[hc3])]
     exact jx ⟨(0:Int),ix ((ix s.states 0).accept) 0⟩ hN0 ⟨id,id,id,id,trivial⟩ ⟨⟨rfl,id⟩,⟨rfl,id⟩,⟨rfl,id⟩,⟨rfl,id⟩,⟨rfl,id⟩,⟨rfl,id⟩,trivial⟩
   ·intro⟨f1,f2⟩ hG
    have hJ3:(f1,f2)=firstW s want:=hG
    have hfo:=first_ok hT hw hSE
    rw[←hJ3] at hfo
    obtain⟨hfo0,hfo1,hfo2⟩:=hfo
    dsimp only at hfo0 hfo1 hfo2
    have hfb:=acc_bd (hT.st f1.toNat (by omega)) (sets_acc hw hSE (fun _ h=>h) (by omega) hfo2)
    skip
    show At _ _ _ [(2,ptr 2 b2 0),(4,ptr 4 b4 0),(5,ptr 5 b5 0),(10,ptr 10 b10 0)] [(2,cell b2 [sl 1 strE s.actions,sl 2 stateE s.states]),(4,cell b4 [eqv (.slice none 0 0),eqv (.slice none 0 0)]),(5,cell b5 [osl 25 v25]),(10,cell b10 [int f1,int f2]),(25,own v25 28 1 eqvE us2),(251,bigown us2 3 1 intE xss2 none)]
    refine th (sq (rg (mkm (key:=86) (kE:=pairV) (dom:=pairD) (vE:=intV) fun b86=>(lPA rfl rfl T.agg154 rfl (AL.insert (q:=(f1,f2)) (u:=0) rfl rfl agg_pair rfl T.map157 ⟨⟨by omega,by omega⟩,⟨by omega,by omega⟩⟩ (mv (al (key:=11) T.z157 (ex_cons (ex_nil)) fun b11=>(sP (φ:=mpv 86 b86) rfl rfl rfl T.one157 rfl (nl (th (sq (rg (lPA rfl rfl T.agg154 rfl (bsO 90 (enc:=pairE) (xs:= [(f1,f2)]) (css:= [[int f1,int f2]]) T.mk108 ⟨rfl,rfl,pA (cs:= [int f1,int f2]) rfl,trivial⟩ rfl rfl rfl rfl fun v90=>(al (key:=12) T.z108 (ex_cons (ex_nil)) fun b12=>(storePO rfl rfl rfl rfl T.one108 rfl (nl (th (sq (rg (fP rfl T.fld25_0 (lP rfl rfl rfl T.one22 (calW (φs:= [sl 1 strE s.actions]) (φ:=fre w0.heap.size (sl 1 strE s.actions)) ⟨rfl,trivial⟩ (prog.sClonestrE_ok _ (by omega)) T.ent97 (fun N hN=>fun h=>nw_mono (hN) h) (bd (css:= [(0,_)]) T.st55 (ex_cons (ex_cons (ex_nil))) ⟨rfl,rfl,p1 (φ:=fre w0.heap.size (sl 1 strE s.actions)) rfl,trivial⟩ (al (key:=13) T.z55 (ex_cons (ex_cons (ex_nil))) fun b13=>(sPA (cs':= [fre w0.heap.size (sl 1 strE s.actions),eqv (.slice none 0 0)]) rfl rfl rfl T.agg55 rfl rfl (nl (th (sq (sq (rg (al (key:=14) T.z3 (ex_cons (ex_nil)) fun b14=>(sP (φ:=int 0) rfl rfl rfl T.one3 rfl (nl (th (bk ?_))))))))))))))))))))))))))))))))))))
    refine nwC 130 85 1 (edgesN w0.heap.size) (kncC 13 1 (osl 130 (.slice none 0 0)) rfl rfl eq_osl ?_)
    have hI2_0:WI s xss2 (f1,f2) 0 ([(f1,f2)]:List (Int × Int)) (mset ([]:List ((Int × Int) × Int)) (f1,f2) 0) ([]:List (List (Int × Int))):=by
     exact wi_zero ⟨hfo0,hfo1,hfo2⟩
    refine lp (κ:=Nat × Nat × Value × (List (Int × Int)) × (List ((Int × Int) × Int)) × Value × (List (List (Int × Int)))) (fun p=> [(2,ptr 2 b2 0),(4,ptr 4 b4 0),(5,ptr 5 b5 0),(11,ptr 11 b11 0),(12,ptr 12 b12 0),(13,ptr 13 b13 0),(14,ptr 14 p.2.1 0)]) (fun p=> [(2,cell b2 [sl 1 strE s.actions,sl 2 stateE s.states]),(4,cell b4 [eqv (.slice none 0 0),eqv (.slice none 0 0)]),(5,cell b5 [osl 25 v25]),(10,cell b10 [int f1,int f2]),(11,cell b11 [mpv 86 b86]),(12,cell b12 [osl 90 p.2.2.1]),(13,cell b13 [fre w0.heap.size (sl 1 strE s.actions),osl 130 p.2.2.2.2.2.1]),(14,cell p.2.1 [int (p.1:Int)]),(25,own v25 28 1 eqvE us2),(86,mp b86 pairV pairD intV p.2.2.2.2.1),(90,own p.2.2.1 154 2 pairE p.2.2.2.1),(130,own p.2.2.2.2.2.1 85 1 (edgesN w0.heap.size) p.2.2.2.2.2.2),(251,bigown us2 3 1 intE xss2 none)]) (fun p=>WI s xss2 (f1,f2) p.1 p.2.2.2.1 p.2.2.2.2.1 p.2.2.2.2.2.2) (fun p=>s.states.length+want.length- p.1) ⟨0,b14,v90,([(f1,f2)]:List (Int × Int)),mset ([]:List ((Int × Int) × Int)) (f1,f2) 0,(.slice none 0 0),([]:List (List (Int × Int)))⟩ hI2_0 ⟨id,id,id,id,id,id,id,trivial⟩ ⟨⟨rfl,id⟩,⟨rfl,id⟩,⟨rfl,id⟩,⟨rfl,id⟩,⟨rfl,id⟩,⟨rfl,id⟩,⟨rfl,id⟩,⟨rfl,id⟩,⟨rfl,id⟩,⟨rfl,id⟩,⟨rfl,id⟩,⟨rfl,id⟩,⟨rfl,id⟩,trivial⟩ ?_
    intro⟨i,c14,v,q,mm,u130,outs⟩ hG2
    have hWI:WI s xss2 (f1,f2) i q mm outs:=hG2
    show Ct _ _ _ _ [(2,ptr 2 b2 0),(4,ptr 4 b4 0),(5,ptr 5 b5 0),(11,ptr 11 b11 0),(12,ptr 12 b12 0),(13,ptr 13 b13 0),(14,ptr 14 c14 0)] [(2,cell b2 [sl 1 strE s.actions,sl 2 stateE s.states]),(4,cell b4 [eqv (.slice none 0 0),eqv (.slice none 0 0)]),(5,cell b5 [osl 25 v25]),(10,cell b10 [int f1,int f2]),(11,cell b11 [mpv 86 b86]),(12,cell b12 [osl 90 v]),(13,cell b13 [fre w0.heap.size (sl 1 strE s.actions),osl 130 u130]),(14,cell c14 [int (i:Int)]),(25,own v25 28 1 eqvE us2),(86,mp b86 pairV pairD intV mm),(90,own v 154 2 pairE q),(130,own u130 85 1 (edgesN w0.heap.size) outs),(251,bigown us2 3 1 intE xss2 none)] _
    have hql:=wq_len hWI.wq hSE
    have hoi:=hWI.il
    have hol:outs.length=i:=by rw[hWI.out];simp
    refine sq (sq (rg (lP rfl rfl rfl T.one3 (lP rfl rfl rfl T.one108 (lnO rfl rfl T.sl108 (bi rfl rfl b_lss (nl (th ?_))))))))
    refine cd rfl (fun hc4=> ?_) (fun hc4=> ?_)
    ·try simp at hc4
     obtain⟨hq0,hq1,hq2⟩:=hWI.wq.bd _ (ix_memS hc4)
     have hqb:=acc_bd (hT.st ((ix q i).1).toNat (by omega)) (sets_acc hw hSE (fun _ h=>h) (by omega) hq2)
     refine sk (th (sq (bk (sq (rg (al (key:=15) T.z85 (ex_cons (ex_nil)) fun b15=>(nl (th (sq (sq (rg (nw 150 128 2 pairE (knc 15 0 (osl 150 (.slice none 0 0)) rfl rfl eq_osl (lP rfl rfl rfl T.one108 (lP rfl rfl rfl T.one3 (iO rfl rfl rfl T.sl108 (by omega) (by omega) (fO rfl T.fld154_1 (lO rfl rfl (by first|exact gN (by omega)|exact gI (by omega) (by omega)) rfl T.one3 (cal0 (φs:= [int ((ix q i).2)]) (φ:=clo 115 [fp [int ((ix q i).2)]]) ⟨rfl,trivial⟩ (prog3.In_ok ((ix q i).2)) T.ent95 (nl (th (bk ?_))))))))))))))))))))))
     have hR0:WN s xss2 (f1,f2) i (ix q i) q mm outs 0 ([]:List (Int × Int)):=by
      exact wn_zero hWI (by omega)
     refine rf (κ:=Value × (List (Int × Int)) × (List ((Int × Int) × Int)) × Value × (List (Int × Int))) 900 (fun p=> [(2,cell b2 [sl 1 strE s.actions,sl 2 stateE s.states]),(4,cell b4 [eqv (.slice none 0 0),eqv (.slice none 0 0)]),(5,cell b5 [osl 25 v25]),(10,cell b10 [int f1,int f2]),(11,cell b11 [mpv 86 b86]),(12,cell b12 [osl 90 p.1]),(13,cell b13 [fre w0.heap.size (sl 1 strE s.actions),osl 130 u130]),(14,cell c14 [int (i:Int)]),(15,cell b15 [osl 150 p.2.2.2.1]),(25,own v25 28 1 eqvE us2),(86,mp b86 pairV pairD intV p.2.2.1),(90,own p.1 154 2 pairE p.2.1),(130,own u130 85 1 (edgesN w0.heap.size) outs),(150,own p.2.2.2.1 128 2 pairE p.2.2.2.2),(251,bigown us2 3 1 intE xss2 none)]) (fun iR p=>WN s xss2 (f1,f2) i (ix q i) p.2.1 p.2.2.1 outs iR p.2.2.2.2) (fun c p=>False) rfl (InIt (ix q i).2 (by omega) (by omega)) T.ent115 rfl (fun _=>rfl) (fun _=>rfl) ⟨v,q,mm,(.slice none 0 0),([]:List (Int × Int))⟩ hR0 ⟨⟨rfl,id⟩,⟨rfl,id⟩,⟨rfl,id⟩,⟨rfl,id⟩,⟨rfl,id⟩,⟨rfl,id⟩,⟨rfl,id⟩,⟨rfl,id⟩,⟨rfl,id⟩,⟨rfl,id⟩,⟨rfl,id⟩,⟨rfl,id⟩,⟨rfl,id⟩,⟨rfl,id⟩,⟨rfl,id⟩,trivial⟩ ?_ ?_ (fun k h=>h.elim) (fun id k h=>h.elim) (fun c k h=>h.elim)
     ·intro m0 ⟨v2,q2,mm2,v150,es⟩ x0 hG0 hx0 l R w1 M1 F1 hRd
      have hR0:WN s xss2 (f1,f2) i (ix q i) q2 mm2 outs m0 es:=hG0
      show Ct _ _ _ _ _ ((900,obj l (.loop R)):: [(2,cell b2 [sl 1 strE s.actions,sl 2 stateE s.states]),(4,cell b4 [eqv (.slice none 0 0),eqv (.slice none 0 0)]),(5,cell b5 [osl 25 v25]),(10,cell b10 [int f1,int f2]),(11,cell b11 [mpv 86 b86]),(12,cell b12 [osl 90 v2]),(13,cell b13 [fre w0.heap.size (sl 1 strE s.actions),osl 130 u130]),(14,cell c14 [int (i:Int)]),(15,cell b15 [osl 150 v150]),(25,own v25 28 1 eqvE us2),(86,mp b86 pairV pairD intV mm2),(90,own v2 154 2 pairE q2),(130,own u130 85 1 (edgesN w0.heap.size) outs),(150,own v150 128 2 pairE es),(251,bigown us2 3 1 intE xss2 none)]) _
      obtain⟨a,rfl,ha63,hha⟩:=listOf_get hx0
      have hql2:=wq_len hR0.wi.wq hSE
      have hi2:=hR0.hi
      have hpe1:(ix q2 i).1=(ix q i).1:=by rw[hR0.pe]
      have hix:=hT.st ((ix q i).1).toNat (by omega)
      have hxl:=hix.len
      have hxl2:(ix s.states ((ix q2 i).1).toNat).next.length=s.actions.length:=by rw[hpe1];exact hxl
      have hgo:=or_go hT (x:=((ix q i).1).toNat) (by omega) ((orAll_has _ _).2 ⟨_,sets_acc hw hSE (fun _ h=>h) (by omega) hq2,hha⟩)
      have hto:tgt s (ix q i) (a:Int)=ix (ix s.states ((ix q2 i).1).toNat).next a:=by unfold tgt;rw[hpe1];rfl
      have htg:tgt s (ix q i) (a:Int)=ix (nxt s ((ix q i).1).toNat) a:=rfl
      have hg0:0≤tgt s (ix q i) (a:Int):=by omega
      have hg1:tgt s (ix q i) (a:Int)<(s.states.length:Int):=by omega
      have hxs2:=hSE.len
      have hS2:=sets_len hT hw hSE (fun _ h=>h) (x:=(tgt s (ix q i) (a:Int)).toNat) (by omega)
      refine rg (ag (nl (aq hRd rfl (bk (sq (dr (nh:=14) [0,1,0,0,12,28,60,127,255,511,0,2047,4095,8191] T.mixed (by kernel_rfl) ?_))))))
      refine st_ rfl (fun _ _ _ gq kq=>fP (gq.1.trans rfl) T.fld25_1 kq) ?_
      refine st_ rfl (fun _ _ _ gq kq=>lP (gq.1.trans rfl) rfl rfl T.one23 kq) ?_
      refine st_ rfl (fun _ _ _ gq kq=>lP (gq.1.trans rfl) rfl rfl T.one108 kq) ?_
      refine st_ rfl (fun _ _ _ gq kq=>lP (gq.1.trans rfl) rfl rfl T.one3 kq) ?_
      refine st_ rfl (fun _ _ _ gq kq=>iO (gq.1.trans rfl) rfl (gq.2.1.trans rfl) T.sl108 (by omega) (by omega) kq) ?_
      refine st_ rfl (fun _ _ _ gq kq=>fO (gq.1.trans rfl) T.fld154_0 kq) ?_
      refine st_ rfl (fun _ _ _ gq kq=>lO (gq.1.trans rfl) rfl (by first|exact gN (by omega)|exact gI (by omega) (by omega)) rfl T.one3 kq) ?_
      refine st_ rfl (fun _ _ _ gq kq=>iF (gq.1.trans rfl) (gq.2.1.trans rfl) T.sl23 (by omega) (by first|exact gN (by omega)|exact gI (by omega) (by omega)) kq) ?_
      refine st_ rfl (fun _ _ _ gq kq=>fF (gq.1.trans rfl) T.fld69_1 kq) ?_
      refine st_ rfl (fun _ _ _ gq kq=>lF (gq.1.trans rfl) rfl T.one28 kq) ?_
      refine st_ rfl (fun _ _ _ gq kq=>mv' (gq.1.trans rfl) kq) ?_
      refine st_ rfl (fun _ _ _ gq kq=>iF (gq.1.trans rfl) (gq.2.1.trans rfl) T.sl28 (by omega) (by first|exact gN (by omega)|exact gI (by omega) (by omega)) kq) ?_
      refine st_ rfl (fun _ _ _ gq kq=>lF (gq.1.trans rfl) rfl T.one3 kq) ?_
      refine st_ rfl (fun _ _ _ gq kq=>ag' (gq.1.trans rfl) kq) ?_
      refine pn (nl (th (sq (rg (kn 17 (int (tgt s (ix q i) (a:Int))) rfl (by rw[hto];exact fun h=>h) (lP rfl rfl rfl T.one134 (mv (iO rfl rfl rfl T.sl134 (by omega) (by omega) (lO rfl rfl (by first|exact gN (by omega)|exact gI (by omega) (by omega)) rfl T.one28 (tkB 251 98 ((tgt s (ix q i) (a:Int)).toNat) rfl rfl (by decide) (gK (by omega)) (gK (by omega)) (kn 124 (osl 98 (ix us2 ((tgt s (ix q i) (a:Int)).toNat))) rfl eq_osl (lnO rfl rfl T.sl28 (mv (nl (th (bk ?_))))))))))))))))
      have hI3_0:0≤(ix xss2 ((tgt s (ix q i) (a:Int)).toNat)).length:=by
       first|omega|simp
      have hI3_1:WK s xss2 (f1,f2) i (ix q i) q2 mm2 outs m0 (a:Int) 0 es:=by
       exact wk_zero hR0 (a:Int)
      refine lp (κ:=Nat × Value × (List (Int × Int)) × (List ((Int × Int) × Int)) × Value × (List (Int × Int))) (fun p=> [(4,ptr 4 b4 0),(11,ptr 11 b11 0),(12,ptr 12 b12 0),(15,ptr 15 b15 0),(16,int (a:Int)),(17,int (tgt s (ix q i) (a:Int))),(124,osl 98 (ix us2 ((tgt s (ix q i) (a:Int)).toNat))),(125,int ((ix xss2 ((tgt s (ix q i) (a:Int)).toNat)).length:Int)),(126,int (p.1:Int))]) (fun p=> [(2,cell b2 [sl 1 strE s.actions,sl 2 stateE s.states]),(4,cell b4 [eqv (.slice none 0 0),eqv (.slice none 0 0)]),(5,cell b5 [osl 25 v25]),(10,cell b10 [int f1,int f2]),(11,cell b11 [mpv 86 b86]),(12,cell b12 [osl 90 p.2.1]),(13,cell b13 [fre w0.heap.size (sl 1 strE s.actions),osl 130 u130]),(14,cell c14 [int (i:Int)]),(15,cell b15 [osl 150 p.2.2.2.2.1]),(25,own v25 28 1 eqvE us2),(86,mp b86 pairV pairD intV p.2.2.2.1),(90,own p.2.1 154 2 pairE p.2.2.1),(98,own (ix us2 ((tgt s (ix q i) (a:Int)).toNat)) 3 1 intE (ix xss2 ((tgt s (ix q i) (a:Int)).toNat))),(130,own u130 85 1 (edgesN w0.heap.size) outs),(150,own p.2.2.2.2.1 128 2 pairE p.2.2.2.2.2),(251,bigown us2 3 1 intE xss2 (some ((tgt s (ix q i) (a:Int)).toNat))),(900,obj l (.loop { R with state:= .busy }))]) (fun p=>(p.1≤(ix xss2 ((tgt s (ix q i) (a:Int)).toNat)).length)∧(WK s xss2 (f1,f2) i (ix q i) p.2.2.1 p.2.2.2.1 outs m0 (a:Int) p.1 p.2.2.2.2.2)) (fun p=>(ix xss2 ((tgt s (ix q i) (a:Int)).toNat)).length- p.1) ⟨0,v2,q2,mm2,v150,es⟩ ⟨hI3_0,hI3_1⟩ ⟨id,id,id,id,id,id,id,id,id,trivial⟩ ⟨⟨rfl,id⟩,⟨rfl,id⟩,⟨rfl,id⟩,⟨rfl,id⟩,⟨rfl,id⟩,⟨rfl,id⟩,⟨rfl,id⟩,⟨rfl,id⟩,⟨rfl,id⟩,⟨rfl,id⟩,⟨rfl,id⟩,⟨rfl,id⟩,⟨rfl,id⟩,⟨rfl,id⟩,⟨rfl,id⟩,⟨rfl,id⟩,⟨rfl,id⟩,trivial⟩ ?_
      intro⟨k3,v3,q3,mm3,v153,es3⟩ hG3
      obtain⟨hk3,hWK⟩:(k3≤(ix xss2 ((tgt s (ix q i) (a:Int)).toNat)).length)∧(WK s xss2 (f1,f2) i (ix q i) q3 mm3 outs m0 (a:Int) k3 es3):=hG3
      show Ct _ _ _ _ [(4,ptr 4 b4 0),(11,ptr 11 b11 0),(12,ptr 12 b12 0),(15,ptr 15 b15 0),(16,int (a:Int)),(17,int (tgt s (ix q i) (a:Int))),(124,osl 98 (ix us2 ((tgt s (ix q i) (a:Int)).toNat))),(125,int ((ix xss2 ((tgt s (ix q i) (a:Int)).toNat)).length:Int)),(126,int (k3:Int))] [(2,cell b2 [sl 1 strE s.actions,sl 2 stateE s.states]),(4,cell b4 [eqv (.slice none 0 0),eqv (.slice none 0 0)]),(5,cell b5 [osl 25 v25]),(10,cell b10 [int f1,int f2]),(11,cell b11 [mpv 86 b86]),(12,cell b12 [osl 90 v3]),(13,cell b13 [fre w0.heap.size (sl 1 strE s.actions),osl 130 u130]),(14,cell c14 [int (i:Int)]),(15,cell b15 [osl 150 v153]),(25,own v25 28 1 eqvE us2),(86,mp b86 pairV pairD intV mm3),(90,own v3 154 2 pairE q3),(98,own (ix us2 ((tgt s (ix q i) (a:Int)).toNat)) 3 1 intE (ix xss2 ((tgt s (ix q i) (a:Int)).toNat))),(130,own u130 85 1 (edgesN w0.heap.size) outs),(150,own v153 128 2 pairE es3),(251,bigown us2 3 1 intE xss2 (some ((tgt s (ix q i) (a:Int)).toNat))),(900,obj l (.loop { R with state:= .busy }))] _
      refine sq (rg (bi rfl rfl b_lss (nl (th (sq ?_)))))
      refine cd rfl (fun hc5=> ?_) (fun hc5=> ?_)
      ·try simp at hc5
       have hub:=acc_bd (hT.st (tgt s (ix q i) (a:Int)).toNat (by omega)) (sets_acc hw hSE (fun _ h=>h) (by omega) (ix_mem hc5))
       have hq3l:=wq_len hWK.wi.wq hSE
       have hesl:=wk_len hT hw hSE hWK
       refine sk (th (sq (bk (sq (rg (iO rfl rfl rfl T.sl28 (by omega) (by omega) (lO rfl rfl (by first|exact gN (by omega)|exact gI (by omega) (by omega)) rfl T.one3 (ag (nl (th (sq (rg (lP rfl rfl rfl T.one157 (mv (mv (bd (css:= [(0,_),(1,_)]) T.st154 (ex_cons (ex_cons (ex_nil))) ⟨rfl,rfl,p1 (φ:=int (tgt s (ix q i) (a:Int))) rfl,⟨rfl,rfl,p1 (φ:=int (ix (ix xss2 ((tgt s (ix q i) (a:Int)).toNat)) k3)) rfl,trivial⟩⟩ (lookup2 (z:=(0:Int)) (q:=(tgt s (ix q i) (a:Int),ix (ix xss2 ((tgt s (ix q i) (a:Int)).toNat)) k3)) rfl rfl agg_pair T.map157 ⟨⟨by omega,by omega⟩,⟨by omega,by omega⟩⟩ T.zvi3 (mv (xt rfl rfl (xt rfl rfl (ag (ag (nl (th (sq (sq (rg (mv (no rfl (nl (th ?_)))))))))))))))))))))))))))))))
       refine cd rfl (fun hc6=> ?_) (fun hc6=> ?_)
       ·try simp at hc6
        refine sq (rg (lP rfl rfl rfl T.one108 (lnO rfl rfl T.sl108 (ag (nl (th (sq (rg (lP rfl rfl rfl T.one157 (mv (mv (bd (css:= [(0,_),(1,_)]) T.st154 (ex_cons (ex_cons (ex_nil))) ⟨rfl,rfl,p1 (φ:=int (tgt s (ix q i) (a:Int))) rfl,⟨rfl,rfl,p1 (φ:=int (ix (ix xss2 ((tgt s (ix q i) (a:Int)).toNat)) k3)) rfl,trivial⟩⟩ (mv (mapUpdate (q:=(tgt s (ix q i) (a:Int),ix (ix xss2 ((tgt s (ix q i) (a:Int)).toNat)) k3)) (u:=(q3.length:Int)) rfl rfl agg_pair rfl T.map157 ⟨⟨by omega,by omega⟩,⟨by omega,by omega⟩⟩ (nl (th (rg (lP rfl rfl rfl T.one108 (mv (mv (bd (css:= [(0,_),(1,_)]) T.st154 (ex_cons (ex_cons (ex_nil))) ⟨rfl,rfl,p1 (φ:=int (tgt s (ix q i) (a:Int))) rfl,⟨rfl,rfl,p1 (φ:=int (ix (ix xss2 ((tgt s (ix q i) (a:Int)).toNat)) k3)) rfl,trivial⟩⟩ (bsE (enc:=pairE) (xs:= [(tgt s (ix q i) (a:Int),ix (ix xss2 ((tgt s (ix q i) (a:Int)).toNat)) k3)]) (css:= [[int (tgt s (ix q i) (a:Int)),int (ix (ix xss2 ((tgt s (ix q i) (a:Int)).toNat)) k3)]]) T.mk108 ⟨rfl,rfl,pA (cs:= [int (tgt s (ix q i) (a:Int)),int (ix (ix xss2 ((tgt s (ix q i) (a:Int)).toNat)) k3)]) rfl,trivial⟩ rfl rfl rfl rfl (ap (key:=90) (zs:= [(tgt s (ix q i) (a:Int),ix (ix xss2 ((tgt s (ix q i) (a:Int)).toNat)) k3)]) osl_eq rfl rfl rfl T.mk108 (by unfold maxL at*;simp;omega) (by unfold maxL at*;simp;omega) fun v152=>(storePO rfl rfl rfl rfl T.one108 rfl (nl (th (rg (lP rfl rfl rfl T.one85 (mv (mv (bd (css:= [(0,_),(1,_)]) T.st128 (ex_cons (ex_cons (ex_nil))) ⟨rfl,rfl,p1 (φ:=int (a:Int)) rfl,⟨rfl,rfl,p1 (φ:=int (q3.length:Int)) rfl,trivial⟩⟩ (bsE (enc:=pairE) (xs:= [((a:Int),(q3.length:Int))]) (css:= [[int (a:Int),int (q3.length:Int)]]) T.mk85 ⟨rfl,rfl,pA (cs:= [int (a:Int),int (q3.length:Int)]) rfl,trivial⟩ rfl rfl rfl rfl (ap (key:=150) (zs:= [((a:Int),(q3.length:Int))]) osl_eq rfl rfl rfl T.mk85 (by unfold maxL at*;simp;omega) (by unfold maxL at*;simp;omega) fun v158=>(storePO rfl rfl rfl rfl T.one85 rfl (nl (eb (th (rg (bi rfl rfl (b_add (by unfold I64;omega)) (mv (nl ?_)))))))))))))))))))))))))))))))))))))))))
        have hN0:(k3+1)≤(ix xss2 ((tgt s (ix q i) (a:Int)).toNat)).length:=by
           first|omega|simp_all
        have hN1:WK s xss2 (f1,f2) i (ix q i) (q3++ [(tgt s (ix q i) (a:Int),ix (ix xss2 ((tgt s (ix q i) (a:Int)).toNat)) k3)]) (mset mm3 (tgt s (ix q i) (a:Int),ix (ix xss2 ((tgt s (ix q i) (a:Int)).toNat)) k3) (q3.length:Int)) outs m0 (a:Int) (k3+1) (es3++ [((a:Int),(q3.length:Int))]):=by
           exact wk_new hWK hc5 hg0 hg1 (by simpa using hc6)
        exact ln (⟨k3+1,v152,q3++ [(tgt s (ix q i) (a:Int),ix (ix xss2 ((tgt s (ix q i) (a:Int)).toNat)) k3)],mset mm3 (tgt s (ix q i) (a:Int),ix (ix xss2 ((tgt s (ix q i) (a:Int)).toNat)) k3) (q3.length:Int),v158,es3++ [((a:Int),(q3.length:Int))]⟩:Nat × Value × (List (Int × Int)) × (List ((Int × Int) × Int)) × Value × (List (Int × Int))) ⟨hN0,hN1⟩ (by first|omega|(dsimp only;omega)) ⟨id,id,id,id,id,id,id,id,id,trivial⟩ ⟨⟨rfl,id⟩,⟨rfl,id⟩,⟨rfl,id⟩,⟨rfl,id⟩,⟨rfl,id⟩,⟨rfl,id⟩,⟨rfl,id⟩,⟨rfl,id⟩,⟨rfl,id⟩,⟨rfl,id⟩,⟨rfl,id⟩,⟨rfl,id⟩,⟨rfl,id⟩,⟨rfl,id⟩,⟨rfl,id⟩,⟨rfl,id⟩,⟨rfl,id⟩,trivial⟩
       ·try simp at hc6
        refine sk (th (rg (lP rfl rfl rfl T.one85 (mv (mv (bd (css:= [(0,_),(1,_)]) T.st128 (ex_cons (ex_cons (ex_nil))) ⟨rfl,rfl,p1 (φ:=int (a:Int)) rfl,⟨rfl,rfl,p1 (φ:=int ((mget mm3 (tgt s (ix q i) (a:Int),ix (ix xss2 ((tgt s (ix q i) (a:Int)).toNat)) k3)).getD (0:Int))) rfl,trivial⟩⟩ (bsE (enc:=pairE) (xs:= [((a:Int),(mget mm3 (tgt s (ix q i) (a:Int),ix (ix xss2 ((tgt s (ix q i) (a:Int)).toNat)) k3)).getD (0:Int))]) (css:= [[int (a:Int),int ((mget mm3 (tgt s (ix q i) (a:Int),ix (ix xss2 ((tgt s (ix q i) (a:Int)).toNat)) k3)).getD (0:Int))]]) T.mk85 ⟨rfl,rfl,pA (cs:= [int (a:Int),int ((mget mm3 (tgt s (ix q i) (a:Int),ix (ix xss2 ((tgt s (ix q i) (a:Int)).toNat)) k3)).getD (0:Int))]) rfl,trivial⟩ rfl rfl rfl rfl (ap (key:=150) (zs:= [((a:Int),(mget mm3 (tgt s (ix q i) (a:Int),ix (ix xss2 ((tgt s (ix q i) (a:Int)).toNat)) k3)).getD (0:Int))]) osl_eq rfl rfl rfl T.mk85 (by unfold maxL at*;simp;omega) (by unfold maxL at*;simp;omega) fun v158=>(storePO rfl rfl rfl rfl T.one85 rfl (nl (eb (th (rg (bi rfl rfl (b_add (by unfold I64;omega)) (mv (nl ?_))))))))))))))))
        have hN0:(k3+1)≤(ix xss2 ((tgt s (ix q i) (a:Int)).toNat)).length:=by
           first|omega|simp_all
        have hN1:WK s xss2 (f1,f2) i (ix q i) q3 mm3 outs m0 (a:Int) (k3+1) (es3++ [((a:Int),(mget mm3 (tgt s (ix q i) (a:Int),ix (ix xss2 ((tgt s (ix q i) (a:Int)).toNat)) k3)).getD (0:Int))]):=by
           exact wk_old hWK hc5 (by simpa using hc6)
        exact ln (⟨k3+1,v3,q3,mm3,v158,es3++ [((a:Int),(mget mm3 (tgt s (ix q i) (a:Int),ix (ix xss2 ((tgt s (ix q i) (a:Int)).toNat)) k3)).getD (0:Int))]⟩:Nat × Value × (List (Int × Int)) × (List ((Int × Int) × Int)) × Value × (List (Int × Int))) ⟨hN0,hN1⟩ (by first|omega|(dsimp only;omega)) ⟨id,id,id,id,id,id,id,id,id,trivial⟩ ⟨⟨rfl,id⟩,⟨rfl,id⟩,⟨rfl,id⟩,⟨rfl,id⟩,⟨rfl,id⟩,⟨rfl,id⟩,⟨rfl,id⟩,⟨rfl,id⟩,⟨rfl,id⟩,⟨rfl,id⟩,⟨rfl,id⟩,⟨rfl,id⟩,⟨rfl,id⟩,⟨rfl,id⟩,⟨rfl,id⟩,⟨rfl,id⟩,⟨rfl,id⟩,trivial⟩
      ·try simp at hc5
       refine ex (xt_ (xt_ (xb (eb (gvSA 251 98 ((tgt s (ix q i) (a:Int)).toNat) rfl rfl (by decide) (gK (by omega)) (gK (by omega)) ?_)))))
       have hN0:WN s xss2 (f1,f2) i (ix q i) q3 mm3 outs (m0+1) es3:=by
           exact wk_end hWK (by omega) hx0
       exact rqN ⟨v3,q3,mm3,v153,es3⟩ hN0 ⟨⟨rfl,id⟩,⟨rfl,id⟩,⟨rfl,id⟩,⟨rfl,id⟩,⟨rfl,id⟩,⟨rfl,id⟩,⟨rfl,id⟩,⟨rfl,id⟩,⟨rfl,id⟩,⟨rfl,id⟩,⟨rfl,id⟩,⟨rfl,id⟩,⟨rfl,id⟩,⟨rfl,id⟩,⟨rfl,id⟩,⟨rfl,id⟩,trivial⟩
     ·intro⟨v2,q2,mm2,v150,es⟩ hG0
      have hR0:WN s xss2 (f1,f2) i (ix q i) q2 mm2 outs ((listOf 63 (ix q i).2).length) es:=hG0
      show At _ _ _ _ [(2,cell b2 [sl 1 strE s.actions,sl 2 stateE s.states]),(4,cell b4 [eqv (.slice none 0 0),eqv (.slice none 0 0)]),(5,cell b5 [osl 25 v25]),(10,cell b10 [int f1,int f2]),(11,cell b11 [mpv 86 b86]),(12,cell b12 [osl 90 v2]),(13,cell b13 [fre w0.heap.size (sl 1 strE s.actions),osl 130 u130]),(14,cell c14 [int (i:Int)]),(15,cell b15 [osl 150 v150]),(25,own v25 28 1 eqvE us2),(86,mp b86 pairV pairD intV mm2),(90,own v2 154 2 pairE q2),(130,own u130 85 1 (edgesN w0.heap.size) outs),(150,own v150 128 2 pairE es),(251,bigown us2 3 1 intE xss2 none)]
      refine eb (th (sq (rg (lP rfl rfl rfl T.one85 ?_))))
      have hql3:=wq_len hR0.wi.wq hSE
      have hes:=es_bd hR0 (by omega)
      refine cal (Hi:= [(150,own v150 128 2 pairE es)]) (φs:= [osl 5 v150,eqv (.func (.func 106) #[] #[])]) ⟨osl_is.trans osl_is.symm,rfl,trivial⟩ (rekeyIO 5 150 (sortE.SortcmpW_ok v150 es (by assumption))) T.ent105 ⟨⟨rfl,id⟩,trivial⟩ fun _ _=>(nl (th (rg (fP rfl T.fld55_1 (lP rfl rfl rfl T.one53 (lP rfl rfl rfl T.one85 (fzN pairE 150 164 noM flat rfl rfl (bsE (enc:=edgesN w0.heap.size) (xs:= [(sortP es)]) (css:= [[fre w0.heap.size (sl 2 pairE (sortP es))]]) T.mk53 ⟨rfl,rfl,p1 (φ:=fre w0.heap.size (sl 2 pairE (sortP es))) rfl,trivial⟩ rfl rfl rfl rfl (ap (key:=130) (zs:= [(sortP es)]) osl_eq rfl rfl rfl T.mk53 (by unfold maxL at*;simp;omega) (by unfold maxL at*;simp;omega) fun v166=>(fP rfl T.fld55_1 (storePO rfl rfl rfl rfl T.one53 rfl (nl (eb (th (sq (sq (rg (lP rfl rfl rfl T.one3 (nl (th (rg (al (key:=14) T.z3 (ex_cons (ex_nil)) fun b14=>(sP (φ:=int (i:Int)) rfl rfl rfl T.one3 rfl (nl (th (rg (lP rfl rfl rfl T.one3 (bi rfl rfl (b_add (by unfold I64;omega)) (sP (φ:=int ((i+1:Nat):Int)) rfl rfl rfl T.one3 rfl (nl ?_))))))))))))))))))))))))))))))
      have hN0:WI s xss2 (f1,f2) (i+1) q2 mm2 (outs++ [(sortP es)]):=by
       exact wn_end hR0
      exact ln (⟨i+1,b14,v2,q2,mm2,v166,outs++ [(sortP es)]⟩:Nat × Nat × Value × (List (Int × Int)) × (List ((Int × Int) × Int)) × Value × (List (List (Int × Int)))) hN0 (by first|omega|(dsimp only;omega)) ⟨id,id,id,id,id,id,id,trivial⟩ ⟨⟨rfl,id⟩,⟨rfl,id⟩,⟨rfl,id⟩,⟨rfl,id⟩,⟨rfl,id⟩,⟨rfl,id⟩,⟨rfl,id⟩,⟨rfl,id⟩,⟨rfl,id⟩,⟨rfl,id⟩,⟨rfl,id⟩,⟨rfl,id⟩,⟨rfl,id⟩,trivial⟩
    ·try simp at hc4
     refine ex (xt_ (xt_ (xb (th (sq (rg (fzcN edgesE 13 130 1 noM (fun _=>rfl) rfl rfl rfl (by decide) (lPA rfl rfl T.agg55 rfl (sPA (cs':= [fre w0.heap.size (sl 1 strE s.actions),fre w0.heap.size (sl 1 edgesE outs)]) rfl rfl rfl T.agg55 rfl rfl (nl (th (rt ?_))))))))))))
     exact rE ⟨⟨s.actions,outs⟩,xss2,q,mm,hSE,by rw[←hJ3,show q.length=i by omega];exact hWI,rfl⟩ [.cell 4 55] rfl [agg [fre w0.heap.size (sl 1 strE s.actions),fre w0.heap.size (sl 1 edgesE outs)]] ⟨.agg rfl rfl T.agg55 rfl rfl,trivial⟩ (rfl) trivial (by first|exact .inr rfl|exact .inl rfl)
end wit
end Go.Proofs.YtolpjmllmlahfaaDoor
namespace Go.Proofs.YtolpjmllmlahfaaDoor
open AL Go ref01 ref03 ref04 ref06 prog prog2 prog6 Itoa LawOpen LawOpen2 WitM wit
open Go.ChangeShapes Go.WideShapes Go.ChangeAt Go.WideElems Go.RowKit
set_option maxRecDepth 100000
set_option linter.all false
namespace LawOpen3
theorem trod_array2 {H:Type} {P:Program} {enc:TypeId × Value→H} {w:World} {base:Nat} {spare:Nat→Bool} {held:Bool} {t e:TypeId} {fuel:Nat} {c0 c1:Value} {x:DataW H × List MemPlace} (ht:P.underlying t=some (.array 2 e)) (hce:P.cellsOf e=1)
 (h:DataW.trod enc P w base spare held fuel t [c0,c1]=some x):
 ∃y0 y1 n,x=(.agg [y0.1,y1.1],y0.2++y1.2)∧DataW.trod enc P w base spare held n e [c0]=some y0∧DataW.trod enc P w base spare held n e [c1]=some y1:=by
 cases fuel with
 |zero=>simp[DataW.trod] at h
 |succ n=>
  unfold DataW.trod at h
  rw[ht] at h
  have r2:List.range 2= [0,1]:=rfl
  simp[r2,hce] at h
  obtain⟨_,h⟩:=h
  cases h0:DataW.trod enc P w base spare held n e [c0] with
  |none=>simp[h0] at h
  |some y0=>
   cases h1:DataW.trod enc P w base spare held n e [c1] with
   |none=>simp[h0,h1] at h
   |some y1=>
    simp[h0,h1] at h
    exact⟨y0,y1,n,h.symm,h0,h1⟩
section
variable {H:Type} {enc:TypeId × Value→H} {W:World}
theorem open_pairA {r:Reach} {b0:Nat} {v:Value} {d:DataW H} {p:List MemPlace} (hv:Value.okWide Tryd.prog W r b0 56 v) (h:DataW.Trod enc Tryd.prog W 0 (fun _=>true) true 56 v d p):
 ∃x y:Int,v= .agg #[.int .i64 x,.int .i64 y]:=by
 simp only [Value.okWide,Tryd.underlying56] at hv
 obtain⟨cs,rfl,hsz,_⟩:=hv
 have c56:Tryd.prog.cellsOf 56=2:=by kernel_rfl
 obtain⟨a,b,rfl⟩:=Go.Joins.array2 (hsz.trans c56)
 obtain⟨fuel,hf⟩:=h
 obtain⟨y0,y1,n,_,h0,h1⟩:=trod_array2 Tryd.underlying56 (by kernel_rfl) (show DataW.trod enc Tryd.prog W 0 (fun _=>true) true fuel 56 [a,b]=_ from hf)
 obtain⟨x,ea,_,_⟩:=DataW.trod_int Tryd.underlying3 h0
 obtain⟨y,eb,_,_⟩:=DataW.trod_int Tryd.underlying3 h1
 simp at ea eb
 subst ea;subst eb
 exact⟨x,y,rfl⟩
attribute [local semireducible] eqv in
theorem open_edgeA {m:Nat} {cs:List Value} {y:DataW H × List MemPlace} (h:DataW.trod enc Tryd.prog W 0 (fun _=>true) true m 128 cs=some y) (hl:cs.length=2):
 ∃x:Int × Int,All2 W (allF W) (pairE x) cs∧True:=by
 obtain⟨y0,y1,n,_,_,h0,h1⟩:=trod_struct2 Tryd.underlying128 h
 match cs,hl with
 | [v0,v1],_=>
   have h0:DataW.trod enc Tryd.prog W 0 (fun _=>true) true n 3 [v0]=some y0:=h0
   have h1:DataW.trod enc Tryd.prog W 0 (fun _=>true) true n 3 [v1]=some y1:=h1
   obtain⟨a,ea,_,_⟩:=DataW.trod_int Tryd.underlying3 h0
   obtain⟨b,eb,_,_⟩:=DataW.trod_int Tryd.underlying3 h1
   simp at ea eb
   subst ea;subst eb
   exact⟨(a,b),⟨(show(int a).p W (allF W) (.int .i64 a) from rfl),(show(int b).p W (allF W) (.int .i64 b) from rfl),trivial⟩,trivial⟩
theorem open_edgesA {m:Nat} {cs:List Value} {y:DataW H × List MemPlace} (h:DataW.trod enc Tryd.prog W 0 (fun _=>true) true m 85 cs=some y) (hz:∀k∈y.1.weights Tryd.prog 85,k≤reachBytes) (hl:cs.length=1):
 ∃x:List (Int × Int),All2 W (allF W) (edgesE x) cs∧True:=by
 match cs,hl with
 | [v],_=>
   obtain⟨ys,g,_⟩:=open_slA (n:=2) (E:=pairE) Tryd.underlying85 (by kernel_rfl) (by decide) (by have:Tryd.prog.bytesOf 128=16:=by kernel_rfl
                                                                                                omega) h hz (fun _=>True) (fun m cs y hy _ hl=>open_edgeA hy hl)
   exact⟨ys,⟨g,trivial⟩,trivial⟩
attribute [local semireducible] agg in
theorem open_sysA {r:Reach} {b0:Nat} {v:Value} {d:DataW H} {p:List MemPlace} (hv:Value.okWide Tryd.prog W r b0 55 v) (h:DataW.Trod enc Tryd.prog W 0 (fun _=>true) true 55 v d p) (hz:∀k∈d.weights Tryd.prog 55,k≤reachBytes):
 ∃m:SSys,(sys m).p W (allF W) v:=by
 obtain⟨v0,v1,y0,y1,n,rfl,rfl,rfl,h0,h1⟩:=Go.Joins.open_agg2 Tryd.underlying55 (by kernel_rfl) (by kernel_rfl) hv h
 have hz:∀k∈y0.1.weights Tryd.prog 22++(y1.1.weights Tryd.prog 53++ []),k≤reachBytes:=by
  have e:(DataW.agg [y0.1,y1.1]:DataW H).weights Tryd.prog 55=y0.1.weights Tryd.prog 22++(y1.1.weights Tryd.prog 53++ []):=by
   rw[weights_agg Tryd.underlying55]
   simp[DataW.weightsEach]
  rw[←e];exact hz
 have b9:1≤Tryd.prog.bytesOf 9:=by have:Tryd.prog.bytesOf 9=16:=by kernel_rfl
                                   omega
 have b85:1≤Tryd.prog.bytesOf 85:=by have:Tryd.prog.bytesOf 85=24:=by kernel_rfl
                                     omega
 obtain⟨al,g1⟩:=open_strsA Tryd.underlying22 Tryd.underlying9 (by kernel_rfl) b9 h0 (fun k hk=>hz k (List.mem_append.2 (.inl hk)))
 obtain⟨xs,g2,_⟩:=open_slA (n:=1) (E:=edgesE) Tryd.underlying53 (by kernel_rfl) (by decide) b85 h1 (fun k hk=>hz k (List.mem_append.2 (.inr (List.mem_append.2 (.inl hk))))) (fun _=>True) (fun m cs y hy hw hl=>open_edgesA hy hw hl)
 exact⟨⟨al,xs⟩,⟨[v0,v1],rfl,g1,g2,trivial⟩⟩
end
end LawOpen3
end Go.Proofs.YtolpjmllmlahfaaDoor
namespace Go.Proofs.YtolpjmllmlahfaaDoor
open AL ref01 ref03 ref04 ref06 prog15 starts Part Rungs LeftM TrimM RoundM BisM BisM5 BisM6 WalkM StepM WitM
set_option linter.all false
namespace JudgM
def offE (es:List PP):Int:=orAll (es.map fun e=>((2^e.1.toNat:Nat):Int))
abbrev edg (m:SSys) (x:Nat):List PP:=ix m.states x
abbrev offM (m:SSys) (x:Nat):Int:=offE (edg m x)
def edM (m:SSys) (x:Nat):List (Nat × Nat):=(edg m x).map fun e=>(e.1.toNat,e.2.toNat)
theorem has_pow (a b:Nat):has ((2^a:Nat):Int) (b:Int)=decide (a=b):=by
 unfold has;rw[Int.toNat_natCast,Int.toNat_natCast,Nat.testBit_two_pow]
theorem off_has {es:List PP} {a:Nat}:has (offE es) (a:Int)=true↔∃e∈es,e.1.toNat=a:=by
 unfold offE
 rw[orAll_has]
 constructor
 ·rintro⟨u,hu,hh⟩
  obtain⟨e,he,rfl⟩:=List.mem_map.1 hu
  rw[has_pow] at hh
  exact⟨e,he,by simpa using hh⟩
 ·rintro⟨e,he,rfl⟩
  exact⟨_,List.mem_map.2 ⟨e,he,rfl⟩,by rw[has_pow];simp⟩
theorem off_ok (m:SSys):OffOK (offM m) (edM m):=fun x a=>by
 rw[off_has]
 unfold edM
 constructor
 ·rintro⟨e,he,h⟩;exact⟨_,List.mem_map.2 ⟨e,he,rfl⟩,h⟩
 ·rintro⟨e,he,h⟩
  obtain⟨e',he',rfl⟩:=List.mem_map.1 he
  exact⟨e',he',h⟩
structure okSys (m:SSys):Prop where
 acts:actionsOK m.actions=true
 n8:m.actions.length≤8
 few0:1≤m.states.length
 few1:m.states.length≤10000
 ed:∀x,x<m.states.length→∀e∈edg m x,0≤e.1∧e.1<(m.actions.length:Int)∧0≤e.2∧e.2<(m.states.length:Int)
 many:∀x,x<m.states.length→(edg m x).length≤400000
def SatM (m:SSys) (t:SSpec):Prop:=Sat (offM m) (edM m) t 0 0
structure QJ (m:SSys) (t:SSpec) (q:List Mt):Prop where
 ne:0<q.length
 hd:ix q 0=⟨0,0,-1,0⟩
 bd:∀p∈q,0≤p.s∧p.s<(m.states.length:Int)∧0≤p.t∧p.t<(t.states.length:Int)
 nd:(q.map pairOf).Nodup
 back:∀k,0<k→k<q.length→∃(b:Nat) (e:PP),(ix q k).before=(b:Int)∧(ix q k).action=e.1∧b<k∧e∈edg m (ix q b).s.toNat∧(ix q k).s=e.2∧(ix q k).t=ix (nxt t (ix q b).t.toNat) e.1.toNat∧offM m (ix q b).s.toNat∈acc t (ix q b).t.toNat
 all:∀R,SatR (offM m) (edM m) t R→R 0 0→∀p∈q,R p.s.toNat p.t.toNat
def DoneJ (m:SSys) (t:SSpec) (q:List Mt) (k:Nat):Prop:=
 offM m (ix q k).s.toNat∈acc t (ix q k).t.toNat∧∀e∈edg m (ix q k).s.toNat,(e.2,ix (nxt t (ix q k).t.toNat) e.1.toNat)∈q.map pairOf
theorem qj_zero {m:SSys} {t:SSpec} (hm:okSys m) (ht:okSpec t):QJ m t [⟨0,0,-1,0⟩]:=by
 have f1:=hm.few0
 have f2:=ht.few0
 refine⟨by simp,rfl,fun p hp=> ?_,by simp,fun k h1 h2=> ?_,fun R hR h p hp=> ?_⟩
 ·have:p=⟨0,0,-1,0⟩:=by simpa using hp
  subst this
  show 0≤(0:Int)∧(0:Int)<_∧0≤(0:Int)∧(0:Int)<_
  omega
 ·simp at h2;omega
 ·have:p=⟨0,0,-1,0⟩:=by simpa using hp
  subst this;exact h
theorem edge_go {m:SSys} {t:SSpec} (hm:okSys m) (ht:okSpec t) {x y:Nat} (hx:x<m.states.length) (hy:y<t.states.length) (ha:offM m x∈acc t y) {e:PP} (he:e∈edg m x):
 e.1.toNat<t.actions.length∧0≤ix (nxt t y) e.1.toNat∧ix (nxt t y) e.1.toNat<(t.states.length:Int):=by
 have:=or_go ht hy (a:=e.1.toNat) ((orAll_has _ _).2 ⟨_,ha,off_has.2 ⟨e,he,rfl⟩⟩)
 exact this
theorem qj_push {m:SSys} {t:SSpec} (hm:okSys m) (ht:okSpec t) {q:List Mt} (h:QJ m t q) {i:Nat} (hi:i<q.length) (ha:offM m (ix q i).s.toNat∈acc t (ix q i).t.toNat) {e:PP} (he:e∈edg m (ix q i).s.toNat)
 (hn:(e.2,ix (nxt t (ix q i).t.toNat) e.1.toNat)∉q.map pairOf):QJ m t (q++ [⟨e.2,ix (nxt t (ix q i).t.toNat) e.1.toNat,(i:Int),e.1⟩]):=by
 have hb:=h.bd _ (ix_memS hi)
 have g1:=hm.ed (ix q i).s.toNat (by omega) e he
 have g2:=edge_go hm ht (x:=(ix q i).s.toNat) (y:=(ix q i).t.toNat) (by omega) (by omega) ha he
 refine⟨by simp,by rw[ixM_left h.ne];exact h.hd,fun p hp=> ?_,?_,fun k h1 h2=> ?_,fun R hR h0 p hp=> ?_⟩
 ·rcases List.mem_append.1 hp with hp|hp
  ·exact h.bd p hp
  ·have:p=_:=List.mem_singleton.1 hp
   subst this
   exact⟨g1.2.2.1,g1.2.2.2,g2.2.1,g2.2.2⟩
 ·rw[List.map_append,List.nodup_append]
  exact⟨h.nd,by simp,fun p hp p' hp' e'=>hn (by
   have:p'=_:=List.mem_singleton.1 hp'
   rw[e',this] at hp;exact hp)⟩
 ·simp at h2
  by_cases e':k=q.length
  ·subst e'
   refine⟨i,e,?_⟩
   rw[ixM_last,ixM_left hi]
   exact⟨rfl,rfl,hi,he,rfl,rfl,ha⟩
  ·obtain⟨b,a',p1,p2,p3,p4⟩:=h.back k h1 (by omega)
   refine⟨b,a',?_⟩
   rw[ixM_left (by omega),ixM_left (by omega)]
   exact⟨p1,p2,p3,p4⟩
 ·rcases List.mem_append.1 hp with hp|hp
  ·exact h.all R hR h0 p hp
  ·have:p=_:=List.mem_singleton.1 hp
   subst this
   have:=(hR.nxt (h.all R hR h0 _ (ix_memS hi)) (e.1.toNat,e.2.toNat) (List.mem_map.2 ⟨e,he,rfl⟩)).2
   exact this
theorem donej_push {m:SSys} {t:SSpec} {q:List Mt} {p:Mt} {k:Nat} (hk:k<q.length) (h:DoneJ m t q k):DoneJ m t (q++ [p]) k:=by
 unfold DoneJ
 rw[ixM_left hk]
 exact⟨h.1,fun e he=>by rw[List.map_append];exact List.mem_append_left _ (h.2 e he)⟩
theorem qj_back {m:SSys} {t:SSpec} {q:List Mt} (h:QJ m t q):BackOK q:=fun k hk h0=>by
 rcases Nat.eq_zero_or_pos k with e|e
 ·subst e;rw[h.hd] at h0
  have h0:(0:Int)≤ -1:=h0
  omega
 ·obtain⟨b,a,e1,e2,e3,_⟩:=h.back k e hk
  rw[e1];omega
theorem nodup_pairs:∀(n m:Nat) (l:List (Int × Int)),l.Nodup→(∀p∈l,0≤p.1∧p.1<(n:Int)∧0≤p.2∧p.2<(m:Int))→l.length≤n*m:=by
 intro n m l hnd hb
 have h1:(l.map fun p=>p.1.toNat*m+p.2.toNat).Nodup:=by
  rw[List.nodup_iff_pairwise_ne,List.pairwise_map]
  refine List.Pairwise.imp_of_mem ?_ hnd
  intro a b ha hb' hne e
  have b1:=hb a ha
  have b2:=hb b hb'
  have hm:0<m:=by omega
  have e1:a.1.toNat=b.1.toNat:=by
   have:=congrArg (· /m) e
   simp only [Nat.mul_comm _ m] at this
   rw[Nat.mul_add_div hm,Nat.mul_add_div hm,Nat.div_eq_of_lt (by omega),Nat.div_eq_of_lt (by omega)] at this
   omega
  have e2:a.2.toNat=b.2.toNat:=by rw[e1] at e;omega
  exact hne (Prod.ext (by omega) (by omega))
 have h2:∀x∈(l.map fun p=>p.1.toNat*m+p.2.toNat),x∈List.range (n*m):=fun x hx=>by
  obtain⟨p,hp,rfl⟩:=List.mem_map.1 hx
  have b1:=hb p hp
  rw[List.mem_range]
  have:(p.1.toNat+1)*m≤n*m:=Nat.mul_le_mul_right m (by omega)
  rw[Nat.add_mul] at this
  omega
 have h3:=List.Nodup.length_le_of_subset h1 h2
 simpa using h3
theorem qj_len {m:SSys} {t:SSpec} {q:List Mt} (h:QJ m t q):q.length≤m.states.length*t.states.length:=by
 have:=nodup_pairs m.states.length t.states.length (q.map pairOf) h.nd (fun p hp=>by
  obtain⟨m,hm,rfl⟩:=List.mem_map.1 hp
  exact h.bd m hm)
 simpa using this
structure MidJ (m:SSys) (t:SSpec) (q:List Mt) (i:Nat) (k:Nat) (q2:List Mt) (mm2:List ((Int × Int) × Bool)):Prop where
 qi:QJ m t q2
 sm:smap mm2 q2
 pre:q<+:q2
 dn:∀k,k<i→DoneJ m t q2 k
 al:∀e∈(edg m (ix q i).s.toNat).take k,(e.2,ix (nxt t (ix q i).t.toNat) e.1.toNat)∈q2.map pairOf
theorem preM_ix {q r:List Mt} {k:Nat} (h:q<+:r) (hk:k<q.length):ix r k=ix q k:=by
 obtain⟨u,rfl⟩:=h
 exact ixM_left hk
theorem midj_zero {m:SSys} {t:SSpec} {q:List Mt} {i:Nat} {mm:List ((Int × Int) × Bool)} (h:QJ m t q) (hs:smap mm q) (hd:∀k,k<i→DoneJ m t q k):MidJ m t q i 0 q mm:=⟨h,hs,List.prefix_rfl,hd,fun e he=>by simp at he⟩
theorem midj_push {m:SSys} {t:SSpec} (hm:okSys m) (ht:okSpec t) {q:List Mt} {i k:Nat} {q2:List Mt} {mm2:List ((Int × Int) × Bool)} (h:MidJ m t q i k q2 mm2) (hi:i<q.length) (ha:offM m (ix q i).s.toNat∈acc t (ix q i).t.toNat) (hk:k<(edg m (ix q i).s.toNat).length) {e:PP} (he:ix (edg m (ix q i).s.toNat) k=e)
 {y:Int} (hy:ix (nxt t (ix q i).t.toNat) e.1.toNat=y) (hn:(mget mm2 (e.2,y)).getD false=false):MidJ m t q i (k+1) (q2++ [⟨e.2,y,(i:Int),e.1⟩]) (mset mm2 (e.2,y) true):=by
 subst hy
 have hl:=h.pre.length_le
 have hqi:=preM_ix h.pre hi
 have hem:e∈edg m (ix q i).s.toNat:=by rw[←he];exact ix_memS hk
 have hn':(e.2,ix (nxt t (ix q i).t.toNat) e.1.toNat)∉q2.map pairOf:=by
  rw[smap_get h.sm] at hn
  simpa using hn
 have hp:=qj_push hm ht h.qi (i:=i) (by omega) (by rw[hqi];exact ha) (e:=e) (by rw[hqi];exact hem) (by rw[hqi];exact hn')
 rw[hqi] at hp
 refine⟨hp,smap_push h.sm ⟨e.2,ix (nxt t (ix q i).t.toNat) e.1.toNat,(i:Int),e.1⟩,h.pre.trans (List.prefix_append _ _),fun k hk=>donej_push (by omega) (h.dn k hk),fun b hb=> ?_⟩
 rw[List.map_append,List.mem_append]
 rw[take_s hk,he,List.mem_append] at hb
 rcases hb with h1|h1
 ·exact .inl (h.al b h1)
 ·have:b=e:=by simpa using h1
  subst this
  exact .inr (List.mem_singleton.2 rfl)
theorem midj_skip {m:SSys} {t:SSpec} {q:List Mt} {i k:Nat} {q2:List Mt} {mm2:List ((Int × Int) × Bool)} (h:MidJ m t q i k q2 mm2) (hk:k<(edg m (ix q i).s.toNat).length) {e:PP} (he:ix (edg m (ix q i).s.toNat) k=e)
 {y:Int} (hy:ix (nxt t (ix q i).t.toNat) e.1.toNat=y) (hn:(mget mm2 (e.2,y)).getD false=true):MidJ m t q i (k+1) q2 mm2:=by
 subst hy
 refine⟨h.qi,h.sm,h.pre,h.dn,fun b hb=> ?_⟩
 rw[take_s hk,he,List.mem_append] at hb
 rcases hb with h1|h1
 ·exact h.al b h1
 ·have:b=e:=by simpa using h1
  subst this
  rw[smap_get h.sm] at hn
  simpa using hn
theorem midj_end {m:SSys} {t:SSpec} {q:List Mt} {i k:Nat} {q2:List Mt} {mm2:List ((Int × Int) × Bool)} (h:MidJ m t q i k q2 mm2) (hi:i<q.length) (ha:offM m (ix q i).s.toNat∈acc t (ix q i).t.toNat) (hk:(edg m (ix q i).s.toNat).length≤k):
 QJ m t q2∧smap mm2 q2∧i+1≤q2.length∧∀k,k<i+1→DoneJ m t q2 k:=by
 have hl:=h.pre.length_le
 refine⟨h.qi,h.sm,by omega,fun j hj=> ?_⟩
 by_cases e:j=i
 ·subst e
  have hqi:=preM_ix h.pre hi
  have hal:=h.al
  rw[List.take_of_length_le hk] at hal
  unfold DoneJ
  rw[hqi]
  exact⟨ha,hal⟩
 ·exact h.dn j (by omega)
theorem sat_yes {m:SSys} {t:SSpec} (hm:okSys m) (ht:okSpec t) {q:List Mt} (h:QJ m t q) (hd:∀k,k<q.length→DoneJ m t q k):SatM m t:=by
 have hat:∀{x y:Nat},((x:Int),(y:Int))∈q.map pairOf→∃k,k<q.length∧(ix q k).s=(x:Int)∧(ix q k).t=(y:Int):=fun {x y} hm=>by
  obtain⟨m,hm,e⟩:=List.mem_map.1 hm
  obtain⟨k,hk,rfl⟩:=List.getElem_of_mem hm
  unfold pairOf at e
  simp only [Prod.mk.injEq] at e
  exact⟨k,hk,by rw[ix_get hk];exact e.1,by rw[ix_get hk];exact e.2⟩
 refine⟨fun x y=>((x:Int),(y:Int))∈q.map pairOf,⟨fun {x y} hm=> ?_,fun {x y} hm=> ?_,fun {x y} hxy e he=> ?_,fun {x y} hxy e he=> ?_⟩,?_⟩
 ·obtain⟨k,hk,e1,e2⟩:=hat hm
  have:=h.bd _ (ix_memS hk)
  omega
 ·obtain⟨k,hk,e1,e2⟩:=hat hm
  have:=(hd k hk).1
  rw[e1,e2,Int.toNat_natCast,Int.toNat_natCast] at this
  exact this
 ·obtain⟨k,hk,e1,e2⟩:=hat hxy
  have hb:=h.bd _ (ix_memS hk)
  have ha:=(hd k hk).1
  rw[e1,e2,Int.toNat_natCast,Int.toNat_natCast] at ha
  obtain⟨e',he',rfl⟩:=List.mem_map.1 he
  have:=(edge_go hm ht (x:=x) (y:=y) (by omega) (by omega) ha he').1
  show e'.1.toNat<_
  rw[(ht.st y (by omega)).len];exact this
 ·obtain⟨k,hk,e1,e2⟩:=hat hxy
  have hb:=h.bd _ (ix_memS hk)
  obtain⟨ha,hed⟩:=hd k hk
  rw[e1,e2,Int.toNat_natCast,Int.toNat_natCast] at ha
  rw[e1,e2,Int.toNat_natCast,Int.toNat_natCast] at hed
  obtain⟨e',he',rfl⟩:=List.mem_map.1 he
  have g1:=(edge_go hm ht (x:=x) (y:=y) (by omega) (by omega) ha he').2.1
  have g2:=hm.ed x (by omega) e' he'
  have g3:=hed e' he'
  refine⟨g1,?_⟩
  show(((e'.2.toNat:Nat):Int),_)∈_
  rw[show((e'.2.toNat:Nat):Int)=e'.2 by omega,show(((ix (nxt t y) e'.1.toNat).toNat:Nat):Int)=ix (nxt t y) e'.1.toNat by omega]
  exact g3
 ·have:=ix_memS (l:=q) h.ne
  rw[h.hd] at this
  exact List.mem_map.2 ⟨_,this,rfl⟩
theorem sat_no {m:SSys} {t:SSpec} {q:List Mt} (h:QJ m t q) {i:Nat} (hi:i<q.length) (hn:offM m (ix q i).s.toNat∉acc t (ix q i).t.toNat):¬SatM m t:=fun⟨R,hR,h0⟩=>hn (hR.acc (h.all R hR h0 _ (ix_memS hi)))
structure VJ where
 holds:Bool
 pairs:List PP
 word:List Int
 state:Int
structure JudgeOK (m:SSys) (t:SSpec) (v:VJ):Prop where
 yes:v.holds=true→SatM m t∧v.word= []∧v.state=0∧∃q,QJ m t q∧(∀k,k<q.length→DoneJ m t q k)∧v.pairs=sortP (q.map pairOf)
 no:v.holds=false→¬SatM m t∧v.pairs= []∧∃q i,QJ m t q∧i<q.length∧v.word=wordTo q i∧v.state=(ix q i).s∧(∀k,k<i→DoneJ m t q k)∧offM m (ix q i).s.toNat∉acc t (ix q i).t.toNat
theorem judge_iff {m:SSys} {t:SSpec} {v:VJ} (h:JudgeOK m t v):v.holds=true↔SatM m t:=by
 constructor
 ·exact fun e=>(h.yes e).1
 ·intro hs
  cases e:v.holds with
  |true=>rfl
  |false=>exact absurd hs (h.no e).1
end JudgM
end Go.Proofs.YtolpjmllmlahfaaDoor
namespace Go.Proofs.YtolpjmllmlahfaaDoor
open AL ref01 ref03 ref04 ref06 prog6 prog15 starts Part Rungs LeftM TrimM RoundM MergeM BisM BisM5 BisM6 WalkM StepM WitM JudgM
set_option linter.all false
namespace JudgM2
theorem tS_ne {s:SSpec} (hs:okSpec s) (h0:ix (hollow s) 0=false) {x:Nat} (hx:x<(tS s).states.length):0<(acc (tS s) x).length:=by
 rw[tS_len] at hx
 rw[tS_acc hx]
 exact List.length_pos_iff.2 (keep_ne (by have:=ord_bd hs hx;omega) (ord_solid hs h0 hx))
structure VR where
 holds:Bool
 ladder:List Int
 pairs:List PP
 wit:SSys
structure RefOK (s t:SSpec) (v:VR):Prop where
 yes:v.holds=true→RefP s t∧v.ladder=rungs s∧v.wit=⟨[],[]⟩∧(ix (hollow s) 0=true→v.pairs= [])∧(ix (hollow s) 0=false→∃q,QInv (tS s) t q∧(∀k,k<q.length→Done (tS s) t q k)∧v.pairs=q.map fun m=>(ix (ordS s) m.s.toNat,m.t))
 no:v.holds=false→¬RefP s t∧v.ladder= []∧v.pairs= []∧ix (hollow s) 0=false∧∃q i u,QInv (tS s) t q∧i<q.length∧u∈acc (tS s) (ix q i).s.toNat∧u∉acc t (ix q i).t.toNat∧WitOK (tS s) (pathL (tS s) (wordTo q i) u) v.wit
theorem refP_walk {s t:SSpec} (h0:ix (hollow s) 0=false):RefP s t↔RefX (tS s) t:=by
 unfold RefP RefX
 constructor
 ·rintro(h|h)
  ·rw[h0] at h;cases h
  ·exact h
 ·exact .inr
end JudgM2
end Go.Proofs.YtolpjmllmlahfaaDoor
namespace Go.Proofs.YtolpjmllmlahfaaDoor
open AL Go
set_option maxRecDepth 100000
set_option linter.all false
open ref01 ref03 ref04 ref06 prog prog2 prog3 prog4 prog5 prog6 prog13 prog15 starts search Part Rungs LeftM TrimM RoundM MergeM BisM BisM5 WalkM StepM WitM JudgM JudgM2 refw judg wit
abbrev verR (v:VR):AV:=agg [bl v.holds,ints v.ladder,sl 2 pairE v.pairs,strs v.wit.actions,sl 1 edgesE v.wit.states]
theorem okSpec.small {s:SSpec} (h:okSpec s):smallSpec s:=fun k hk i hi=>by
 have:=(h.st k hk).ac i hi
 omega
namespace T
theorem z83:ZeroIs Tryd.prog 83 [.bool false,.slice none 0 0,.slice none 0 0,.slice none 0 0,.slice none 0 0]:=zeroIs_of (by kernel_rfl)
theorem ent73:Ent Tryd.prog 73:=ent_of (by kernel_rfl)
theorem st81:StructT Tryd.prog 81 [(0,1),(1,1)] [.slice none 0 0,.slice none 0 0]:=structT_of (by kernel_rfl) (by kernel_rfl)
theorem st83:StructT Tryd.prog 83 [(0,1),(1,2),(3,2)] [.bool false,.slice none 0 0,.slice none 0 0,.slice none 0 0,.slice none 0 0]:=structT_of (by kernel_rfl) (by kernel_rfl)
theorem agg83:IsAgg Tryd.prog 83 5:=isAgg_of (by kernel_rfl)
theorem ent74:Ent Tryd.prog 74:=ent_of (by kernel_rfl)
theorem ent76:Ent Tryd.prog 76:=ent_of (by kernel_rfl)
theorem ent75:Ent Tryd.prog 75:=ent_of (by kernel_rfl)
theorem ent77:Ent Tryd.prog 77:=ent_of (by kernel_rfl)
theorem agg116:IsAgg Tryd.prog 116 4:=isAgg_of (by kernel_rfl)
theorem z116:ZeroIs Tryd.prog 116 [.int .i64 0,.int .i64 0,.int .i64 0,.int .i64 0]:=zeroIs_of (by kernel_rfl)
theorem fld83_1:FieldAt Tryd.prog 83 1 1:=fieldAt_of (by kernel_rfl)
theorem fld81_1:FieldAt Tryd.prog 81 1 1:=fieldAt_of (by kernel_rfl)
end T
namespace refj
theorem Judge_ok (s t:SSpec) (hsv:specOK s=true) (htv:specOK t=true):
 AL.Fn Tryd.prog 50 [spec s,spec t] [] (ι:= { v:VR//RefOK s t v }) (fun _ i=>verR i.1) (fun _=> []):=by
 refine fnI Tryd.func50 rfl rfl (fun w0 F0=> ?_)
 have hs:=okSpec_of hsv;have ht:=okSpec_of htv;have hsm:=hs.small;have hf0:=hs.few0;have hf1:=hs.few1;have hg1:=ht.few1;have hmm:s.states.length*t.states.length≤10000*10000:=Nat.mul_le_mul hf1 hg1;have hop:=ordS_pos s;have hol:=ord_le hs
 refine fcC (inhS 0 rfl) (fun hS0=> ?_)
 obtain⟨hsa0,hss0,hse0⟩:=spec_lens hS0
 refine fcC (inhS 1 rfl) (fun hS1=> ?_)
 obtain⟨hsa1,hss1,hse1⟩:=spec_lens hS1
 refine sq (rg (bx (key:=2) (cs:= [sl 1 strE s.actions,sl 2 stateE s.states]) rfl fun b2=>(bx (key:=3) (cs:= [sl 1 strE t.actions,sl 2 stateE t.states]) rfl fun b3=>(al (key:=4) T.z83 (ex_cons (ex_cons (ex_cons (ex_cons (ex_cons (ex_nil)))))) fun b4=>(nl (th (sq (rg (lPA rfl rfl T.agg25 rfl (calW (φs:= [agg [sl 1 strE s.actions,sl 2 stateE s.states]]) (φ:=tup [agg [sl 1 strE ((trimS s).1.actions),sl 2 stateE ((trimS s).1.states)],sl 1 intE ((trimS s).2)]) ⟨rfl,trivial⟩ (prog9.Trimmed_ok s (by assumption)) T.ent64 (fun N hN=>fun h=>tup_le (cs:= [agg [fre N (sl 1 strE ((trimS s).1.actions)),frb (ix (hollow s) 0) N (sl 2 stateE ((trimS s).1.states))],sl 1 intE ((trimS s).2)]) (ds:= [agg [sl 1 strE ((trimS s).1.actions),sl 2 stateE ((trimS s).1.states)],sl 1 intE ((trimS s).2)]) ⟨fun h=>agg_le (cs:= [fre N (sl 1 strE ((trimS s).1.actions)),frb (ix (hollow s) 0) N (sl 2 stateE ((trimS s).1.states))]) (ds:= [sl 1 strE ((trimS s).1.actions),sl 2 stateE ((trimS s).1.states)]) ⟨fun h=>nw_le h,fun h=>frb_le h,trivial⟩ h,fun h=>h,trivial⟩ h) (mv (xt rfl rfl (xt rfl rfl (al (key:=5) T.z25 (ex_cons (ex_cons (ex_nil))) fun b5=>(sPA (cs':= [sl 1 strE ((trimS s).1.actions),sl 2 stateE ((trimS s).1.states)]) rfl rfl rfl T.agg25 rfl rfl (ag (nl (th (sq (rg (lPA rfl rfl T.agg25 rfl (cal0 (φs:= [agg [sl 1 strE s.actions,sl 2 stateE s.states]]) (φ:=tup [sl 1 intE (if specOK s=true then rungs s else []),int (errOf s)]) ⟨rfl,trivial⟩ (judg.Ladder_ok s (by assumption)) T.ent73 (mv (xt rfl rfl (kn 25 (ints (rungs s)) rfl (by rw[if_pos hsv];exact fun h=>h) (xt rfl rfl (ag (ag (nl (th (sq (sq (rg (mv (fc (slenI 27 rfl) fun hm27=>(lnF rfl T.sl28 (bi rfl rfl b_eql (nl (th ?_)))))))))))))))))))))))))))))))))))))))
 refine cd rfl (fun hc0=> ?_) (fun hc0=> ?_)
 ·try simp at hc0
  have hh0:ix (hollow s) 0=true:=by
   cases h:ix (hollow s) 0 with
   |true=>rfl
   |false=>
    exfalso
    rw[trimmed_not h] at hc0
    have h3:=hop
    rw[show ordS s= [] from hc0] at h3
    simp at h3
  refine sq (rg (mv (bd (css:= [(0,_)]) T.st81 (ex_cons (ex_cons (ex_nil))) ⟨rfl,rfl,p1 (φ:=sl 1 intE (rungs s)) rfl,trivial⟩ (bd (css:= [(0,_),(1,_)]) T.st83 (ex_cons (ex_cons (ex_cons (ex_cons (ex_cons (ex_nil)))))) ⟨rfl,rfl,p1 (φ:=bl true) rfl,⟨rfl,rfl,pA (cs:= [sl 1 intE (rungs s),eqv (.slice none 0 0)]) rfl,trivial⟩⟩ (sPA (cs':= [bl true,sl 1 intE (rungs s),eqv (.slice none 0 0),eqv (.slice none 0 0),eqv (.slice none 0 0)]) rfl rfl rfl T.agg83 rfl rfl (nl (th (rt (rt_ ?_)))))))))
  refine kncA 4 2 (sl 2 pairE []) rfl rfl slnil ?_
  refine kncA 4 3 (sl 1 strE []) rfl rfl slnil ?_
  refine kncA 4 4 (sl 1 edgesE []) rfl rfl slnil ?_
  exact rE ⟨⟨true,rungs s,[],⟨[],[]⟩⟩,⟨fun _=>⟨.inl hh0,rfl,rfl,fun _=>rfl,fun h=>absurd h (by rw[hh0];decide)⟩,fun h=>(nomatch (show true=false from h))⟩⟩ [.cell 4 83] rfl [agg [bl true,sl 1 intE (rungs s),sl 2 pairE [],sl 1 strE [],sl 1 edgesE []]] ⟨.agg rfl rfl T.agg83 rfl rfl,trivial⟩ (rfl) trivial (by first|exact .inr rfl|exact .inl rfl)
 ·try simp at hc0
  have h00:ix (hollow s) 0=false:=by
   cases h:ix (hollow s) 0 with
   |false=>rfl
   |true=>exact absurd (by rw[trimmed_hol h]) hc0
  have hts:(trimS s).1=tS s:=by rw[trimmed_not h00]
  have htf:(trimS s).2=ordS s:=by rw[trimmed_not h00]
  have hto:okSpec (trimS s).1:=by rw[hts];exact tS_ok hs
  have hm2:(trimS s).1.states.length*t.states.length≤10000*10000:=Nat.mul_le_mul (by rw[hts,tS_len];omega) hg1
  have hNf:(trimS s).2.length=(trimS s).1.states.length:=by rw[hts,htf,tS_len]
  refine sk (th (sq (rg (lPA rfl rfl T.agg25 rfl (lPA rfl rfl T.agg25 rfl (cl (refw.walk_ok ((trimS s).1) t (by assumption) (by assumption)) T.ent74 trivial fun N36 i36=>(mv (xt rfl rfl (xt rfl rfl (xt rfl rfl (ag (ag (ag (nl (th (sq (sq (rg (mv (bi rfl rfl b_geq (nl (th ?_))))))))))))))))))))))
  refine cd rfl (fun hc1=> ?_) (fun hc1=> ?_)
  ·try simp at hc1
   obtain⟨kk,hkk⟩:∃k:Nat,i36.1.2.1=(k:Int):=⟨_,(Int.toNat_of_nonneg hc1).symm⟩
   obtain⟨hnr,hil,hiu,hin⟩:=i36.2.no hc1
   rw[hkk] at hil hiu hin
   rw[Int.toNat_natCast] at hiu hin
   have hkl:kk<i36.1.1.length:=by omega
   have hql:=WalkM.q_len i36.2.q
   have hlw:=wordTo_len (q_back i36.2.q) kk hkl
   have hruns:=(q_runs i36.2.q kk hkl).1
   have halive:=hruns.alive hto
   have hgo:=hruns.go hto
   have hbd:=i36.2.q.bd _ (ix_memS hkl)
   have hwants:Wants (trimS s).1 (pathL (trimS s).1 (wordTo i36.1.1 kk) i36.1.2.2):=⟨pathL_mem hto halive (by rw[hgo,Int.toNat_natCast];exact hiu),fun x hx=>by rw[hts] at hx ⊢;exact tS_ne hs h00 hx,by rw[pathL_len];omega⟩
   refine sq (knC 10 (int (kk:Int)) rfl (by rw[hkk];exact fun h=>h) (dr (nh:=11) [0,0,0,6,0,31,63,127,127,255,1023] T.mixed (by kernel_rfl) ?_))
   refine st_ rfl (fun _ _ _ gq kq=>lPA (gq.1.trans rfl) rfl T.agg25 rfl kq) ?_
   refine st_ rfl (fun _ _ _ gq kq=>mv' (gq.1.trans rfl) kq) ?_
   refine st_ rfl (fun _ _ _ gq kq=>mv' (gq.1.trans rfl) kq) ?_
   refine st_ rfl (fun _ _ _ gq kq=>cal0 (φs:= [sl 4 metE i36.1.1,int (kk:Int)]) (φ:=sl 1 intE (wordTo i36.1.1 kk)) ⟨(gq.1.trans rfl),(gq.2.1.trans rfl),trivial⟩ (judg.path_ok i36.1.1 (q_back i36.2.q) kk (by omega)) T.ent76 kq) ?_
   refine st_ rfl (fun _ _ _ gq kq=>mv' (gq.1.trans rfl) kq) ?_
   refine st_ rfl (fun _ _ _ gq kq=>cal0 (φs:= [agg [sl 1 strE ((trimS s).1.actions),sl 2 stateE ((trimS s).1.states)],sl 1 intE (wordTo i36.1.1 kk),int i36.1.2.2]) (φ:=tup [sl 2 pairE (pathL ((trimS s).1) (wordTo i36.1.1 kk) i36.1.2.2),bl (decide (i36.1.2.2∈acc ((trimS s).1) (goS ((trimS s).1) (wordTo i36.1.1 kk)).toNat))]) ⟨(gq.1.trans rfl),(gq.2.1.trans rfl),(gq.2.2.1.trans rfl),trivial⟩ (judg.Path_ok ((trimS s).1) (by assumption) (wordTo i36.1.1 kk) (by assumption) i36.1.2.2 (by omega)) T.ent75 kq) ?_
   refine st_ rfl (fun _ _ _ gq kq=>mv' (gq.1.trans rfl) kq) ?_
   refine st_ rfl (fun _ _ _ gq kq=>xt (gq.1.trans rfl) rfl kq) ?_
   refine st_ rfl (fun _ _ _ gq kq=>xt (gq.1.trans rfl) rfl kq) ?_
   refine st_ rfl (fun _ _ _ gq kq=>ag' (gq.1.trans rfl) kq) ?_
   refine st_ rfl (fun _ _ _ gq kq=>ag' (gq.1.trans rfl) kq) ?_
   refine pn (nl (th (sq (rg (lPA rfl rfl T.agg25 rfl (mv (cl (wit.Witness_ok ((trimS s).1) (by assumption) (pathL ((trimS s).1) (wordTo i36.1.1 kk) i36.1.2.2) (by assumption)) T.ent77 trivial fun N53 i53=>(bd (css:= [(3,_)]) T.st83 (ex_cons (ex_cons (ex_cons (ex_cons (ex_cons (ex_nil)))))) ⟨rfl,rfl,pA (cs:= [fre N53 (sl 1 strE i53.1.actions),fre N53 (sl 1 edgesE i53.1.states)]) rfl,trivial⟩ (sPA (cs':= [bl false,eqv (.slice none 0 0),eqv (.slice none 0 0),fre N53 (sl 1 strE i53.1.actions),fre N53 (sl 1 edgesE i53.1.states)]) rfl rfl rfl T.agg83 rfl rfl (nl (th (rt (rt_ ?_)))))))))))))
   refine kncA 4 1 (sl 1 intE []) rfl rfl slnil ?_
   refine kncA 4 2 (sl 2 pairE []) rfl rfl slnil ?_
   refine kncA 4 3 (sl 1 strE i53.1.actions) rfl rfl nw_le ?_
   refine kncA 4 4 (sl 1 edgesE i53.1.states) rfl rfl nw_le ?_
   exact rE ⟨⟨false,[],[],i53.1⟩,⟨fun h=>(nomatch (show false=true from h)),fun _=>⟨fun h=>hnr (by rw[hts];exact(refP_walk h00).1 h),rfl,rfl,h00,i36.1.1,kk,i36.1.2.2,by rw[←hts];exact i36.2.q,hkl,by rw[←hts];exact hiu,hin,by rw[←hts];exact i53.2⟩⟩⟩ [.cell 4 83] rfl [agg [bl false,sl 1 intE [],sl 2 pairE [],sl 1 strE i53.1.actions,sl 1 edgesE i53.1.states]] ⟨.agg rfl rfl T.agg83 rfl rfl,trivial⟩ (rfl) trivial (by first|exact .inr rfl|exact .inl rfl)
  ·try simp at hc1
   have hql:=WalkM.q_len i36.2.q
   refine sk (th (sq (rg (mv (bd (css:= [(0,_)]) T.st81 (ex_cons (ex_cons (ex_nil))) ⟨rfl,rfl,p1 (φ:=sl 1 intE (rungs s)) rfl,trivial⟩ (bd (css:= [(0,_),(1,_)]) T.st83 (ex_cons (ex_cons (ex_cons (ex_cons (ex_cons (ex_nil)))))) ⟨rfl,rfl,p1 (φ:=bl true) rfl,⟨rfl,rfl,pA (cs:= [sl 1 intE (rungs s),eqv (.slice none 0 0)]) rfl,trivial⟩⟩ (al (key:=14) T.z83 (ex_cons (ex_cons (ex_cons (ex_cons (ex_cons (ex_nil)))))) fun b14=>(sPA (cs':= [bl true,sl 1 intE (rungs s),eqv (.slice none 0 0),eqv (.slice none 0 0),eqv (.slice none 0 0)]) rfl rfl rfl T.agg83 rfl rfl (nl (th (sq (sq (rg (mv (fc (slenI 58 rfl) fun hm58=>(lnF rfl T.sl105 (mv (nl (th (bk ?_))))))))))))))))))))
   refine nwC 140 56 2 pairE (kncC 14 2 (osl 140 (.slice none 0 0)) rfl rfl eq_osl ?_)
   have hI0_0:0≤i36.1.1.length:=by
    first|omega|simp
   have hI0_1:([]:List (Int × Int))=(i36.1.1.take 0).map (fun m:WalkM.Mt=>(ix (trimS s).2 m.s.toNat,m.t)):=by
    rfl
   refine lp (κ:=Nat × Value × (List (Int × Int))) (fun p=> [(4,ptr 4 b4 0),(6,sl 1 intE ((trimS s).2)),(14,ptr 14 b14 0),(58,sl 4 metE i36.1.1),(59,int (i36.1.1.length:Int)),(60,int (p.1:Int))]) (fun p=> [(2,cell b2 [sl 1 strE s.actions,sl 2 stateE s.states]),(3,cell b3 [sl 1 strE t.actions,sl 2 stateE t.states]),(4,cell b4 [bl false,eqv (.slice none 0 0),eqv (.slice none 0 0),eqv (.slice none 0 0),eqv (.slice none 0 0)]),(5,cell b5 [sl 1 strE ((trimS s).1.actions),sl 2 stateE ((trimS s).1.states)]),(14,cell b14 [bl true,sl 1 intE (rungs s),osl 140 p.2.1,eqv (.slice none 0 0),eqv (.slice none 0 0)]),(140,own p.2.1 56 2 pairE p.2.2)]) (fun p=>(p.1≤i36.1.1.length)∧(p.2.2=(i36.1.1.take p.1).map (fun m:WalkM.Mt=>(ix (trimS s).2 m.s.toNat,m.t)))) (fun p=>i36.1.1.length- p.1) ⟨0,(.slice none 0 0),([]:List (Int × Int))⟩ ⟨hI0_0,hI0_1⟩ ⟨id,id,id,id,id,id,trivial⟩ ⟨⟨rfl,id⟩,⟨rfl,id⟩,⟨rfl,id⟩,⟨rfl,id⟩,⟨rfl,id⟩,⟨rfl,id⟩,trivial⟩ ?_
   intro⟨k,v,prs⟩ hG0
   obtain⟨hk0,hI0⟩:(k≤i36.1.1.length)∧(prs=(i36.1.1.take k).map (fun m:WalkM.Mt=>(ix (trimS s).2 m.s.toNat,m.t))):=hG0
   show Ct _ _ _ _ [(4,ptr 4 b4 0),(6,sl 1 intE ((trimS s).2)),(14,ptr 14 b14 0),(58,sl 4 metE i36.1.1),(59,int (i36.1.1.length:Int)),(60,int (k:Int))] [(2,cell b2 [sl 1 strE s.actions,sl 2 stateE s.states]),(3,cell b3 [sl 1 strE t.actions,sl 2 stateE t.states]),(4,cell b4 [bl false,eqv (.slice none 0 0),eqv (.slice none 0 0),eqv (.slice none 0 0),eqv (.slice none 0 0)]),(5,cell b5 [sl 1 strE ((trimS s).1.actions),sl 2 stateE ((trimS s).1.states)]),(14,cell b14 [bl true,sl 1 intE (rungs s),osl 140 v,eqv (.slice none 0 0),eqv (.slice none 0 0)]),(140,own v 56 2 pairE prs)] _
   have hpl:prs.length≤k:=by rw[hI0];simp;omega
   refine sq (rg (bi rfl rfl b_lss (nl (th (sq ?_)))))
   refine cd rfl (fun hc2=> ?_) (fun hc2=> ?_)
   ·try simp at hc2
    have hbd:=i36.2.q.bd _ (ix_memS hc2)
    refine sk (th (sq (bk (sq (rg (iF rfl rfl T.sl105 (by omega) (by first|exact gN (by omega)|exact gI (by omega) (by omega)) (lFA rfl T.agg116 (Nat.le_of_ble_eq_true rfl) (al (key:=16) T.z116 (ex_cons (ex_cons (ex_cons (ex_cons (ex_nil))))) fun b16=>(sPA (cs':= [int ((ix i36.1.1 k).s),int ((ix i36.1.1 k).t),int ((ix i36.1.1 k).before),int ((ix i36.1.1 k).action)]) rfl rfl rfl T.agg116 rfl rfl (nl (th ?_)))))))))))
    refine drH (nh:=18) [0,1,3,0,0,16,48,120,248,0,512,1536,4088,8184,16383,32767,65535,131071] [(none,[]),(none,[]),(none,[14]),(none,[]),(none,[]),(none,[]),(none,[16]),(none,[]),(none,[]),(none,[]),(none,[]),(none,[16]),(none,[]),(none,[]),(some 140,[140]),(none,[]),(none,[]),(some 14,[14,140])] T.mixed (by kernel_rfl) (by kernel_rfl) ?_
    refine stv (d:=64) (fun β0=>ptr 14 b14 1) [] rfl (fun β β' hb=>rfl) (fun β0 _ _ _ _ gq gh kq=>fP (gq.1.trans rfl) T.fld83_1 kq) ?_
    refine stv (d:=65) (fun β0=>ptr 14 b14 2) [] rfl (fun β β' hb=>rfl) (fun β0 _ _ _ _ gq gh kq=>fP (gq.1.trans rfl) T.fld81_1 kq) ?_
    refine stv (d:=66) (fun β0=>osl 140 v) [14] rfl (fun β β' hb=>rfl) (fun β0 _ _ _ _ gq gh kq=>lP (gq.1.trans rfl) (gh.1.trans rfl) rfl T.one58 kq) ?_
    refine stv (d:=67) (fun β0=>sl 1 intE ((trimS s).2)) [] rfl (fun β β' hb=>rfl) (fun β0 _ _ _ _ gq gh kq=>mv' (gq.1.trans rfl) kq) ?_
    refine stv (d:=68) (fun β0=>ptr 16 b16 0) [] rfl (fun β β' hb=>rfl) (fun β0 _ _ _ _ gq gh kq=>fP (gq.1.trans rfl) T.fld116_0 kq) ?_
    refine stv (d:=69) (fun β0=>ptr 16 b16 0) [] rfl (fun β β' hb=>rfl) (fun β0 _ _ _ _ gq gh kq=>fP (gq.1.trans rfl) T.fld114_0 kq) ?_
    refine stv (d:=70) (fun β0=>int ((ix i36.1.1 k).s)) [16] rfl (fun β β' hb=>rfl) (fun β0 _ _ _ _ gq gh kq=>lP (gq.1.trans rfl) (gh.1.trans rfl) rfl T.one3 kq) ?_
    refine stv (d:=71) (fun β0=>fp [int (ix ((trimS s).2) (((ix i36.1.1 k).s).toNat))]) [] rfl (fun β β' hb=>rfl) (fun β0 _ _ _ _ gq gh kq=>iF (gq.1.trans rfl) (gq.2.1.trans rfl) T.sl28 (by omega) (by first|exact gN (by omega)|exact gI (by omega) (by omega)) kq) ?_
    refine stv (d:=72) (fun β0=>int (ix ((trimS s).2) (((ix i36.1.1 k).s).toNat))) [] rfl (fun β β' hb=>rfl) (fun β0 _ _ _ _ gq gh kq=>lF (gq.1.trans rfl) rfl T.one3 kq) ?_
    refine stv (d:=73) (fun β0=>ptr 16 b16 0) [] rfl (fun β β' hb=>rfl) (fun β0 _ _ _ _ gq gh kq=>fP (gq.1.trans rfl) T.fld116_0 kq) ?_
    refine stv (d:=74) (fun β0=>ptr 16 b16 1) [] rfl (fun β β' hb=>rfl) (fun β0 _ _ _ _ gq gh kq=>fP (gq.1.trans rfl) T.fld114_1 kq) ?_
    refine stv (d:=75) (fun β0=>int ((ix i36.1.1 k).t)) [16] rfl (fun β β' hb=>rfl) (fun β0 _ _ _ _ gq gh kq=>lP (gq.1.trans rfl) (gh.1.trans rfl) rfl T.one3 kq) ?_
    refine stv (d:=76) (fun β0=>agg [int (ix ((trimS s).2) (((ix i36.1.1 k).s).toNat)),int ((ix i36.1.1 k).t)]) [] rfl (fun β β' hb=>rfl) (fun β0 _ _ _ _ gq gh kq=>bd (css:= [(0,_),(1,_)]) T.st56 (ex_cons (ex_cons (ex_nil))) ⟨rfl,rfl,p1 (φ:=int (ix ((trimS s).2) (((ix i36.1.1 k).s).toNat))) (by exact(gq.1.trans rfl)),⟨rfl,rfl,p1 (φ:=int ((ix i36.1.1 k).t)) (by exact(gq.2.1.trans rfl)),trivial⟩⟩ kq) ?_
    refine stv (d:=77) (fun β0=>sl 2 id [[int (ix ((trimS s).2) (((ix i36.1.1 k).s).toNat)),int ((ix i36.1.1 k).t)]]) [] rfl (fun β β' hb=>rfl) (fun β0 _ _ _ _ gq gh kq=>bs (css:= [[int (ix ((trimS s).2) (((ix i36.1.1 k).s).toNat)),int ((ix i36.1.1 k).t)]]) T.mk58 ⟨rfl,rfl,pA (cs:= [int (ix ((trimS s).2) (((ix i36.1.1 k).s).toNat)),int ((ix i36.1.1 k).t)]) (by exact(gq.1.trans rfl)),trivial⟩ rfl rfl rfl kq) ?_
    refine stc (d:=78) (e:=56) (n:=2) (enc:=pairE) (xs:=prs++ [(ix ((trimS s).2) (((ix i36.1.1 k).s).toNat),(ix i36.1.1 k).t)]) 140 [140] rfl (fun β0 _ _ _ _ gq gh kq=>ap (key:=140) (zs:= [(ix ((trimS s).2) (((ix i36.1.1 k).s).toNat),(ix i36.1.1 k).t)]) (fun h=>osl_of (gq.1.trans rfl) h) (gh.1.trans rfl) (gq.2.1.trans rfl) rfl T.mk58 (by unfold maxL at*;simp;omega) (by unfold maxL at*;simp;omega) fun v=>kq v) ?_
    refine stv (d:=79) (fun β0=>ptr 14 b14 1) [] rfl (fun β β' hb=>rfl) (fun β0 _ _ _ _ gq gh kq=>fP (gq.1.trans rfl) T.fld83_1 kq) ?_
    refine stv (d:=80) (fun β0=>ptr 14 b14 2) [] rfl (fun β β' hb=>rfl) (fun β0 _ _ _ _ gq gh kq=>fP (gq.1.trans rfl) T.fld81_1 kq) ?_
    refine stw 14 (fun β0=>cell b14 [bl true,sl 1 intE (rungs s),osl 140 (sv (β0 14)),eqv (.slice none 0 0),eqv (.slice none 0 0)]) [14,140] rfl (fun β β' hb=>by first|rw[hb 14 rfl]|(dsimp only;rw[hb 14 rfl])) (fun β0 _ _ _ _ gq gh kq=>storePO (gq.1.trans rfl) (gh.1.trans rfl) (gq.2.1.trans rfl) (gh.2.1.trans rfl) T.one58 rfl kq) ?_
    refine pnH fun β0=>(nl (eb (th (rg (bi rfl rfl (b_add (by unfold I64;omega)) (mv (nl ?_)))))))
    have hN0:(k+1)≤i36.1.1.length:=by
     first|omega|simp_all
    have hN1:(prs++ [(ix ((trimS s).2) (((ix i36.1.1 k).s).toNat),(ix i36.1.1 k).t)])=(i36.1.1.take (k+1)).map (fun m:WalkM.Mt=>(ix (trimS s).2 m.s.toNat,m.t)):=by
     rw[take_s hc2,List.map_append,←hI0];rfl
    exact ln (⟨k+1,(sv (β0 14)),prs++ [(ix ((trimS s).2) (((ix i36.1.1 k).s).toNat),(ix i36.1.1 k).t)]⟩:Nat × Value × (List (Int × Int))) ⟨hN0,hN1⟩ (by first|omega|(dsimp only;omega)) ⟨id,id,id,id,id,id,trivial⟩ ⟨⟨rfl,id⟩,⟨rfl,id⟩,⟨rfl,id⟩,⟨rfl,id⟩,⟨rfl,id⟩,⟨rfl,id⟩,trivial⟩
   ·try simp at hc2
    refine ex (xt_ (xt_ (xb (th (sq (rg (fzc 14 140 2 rfl rfl rfl rfl (lPA rfl rfl T.agg83 rfl (sPA (cs':= [bl true,sl 1 intE (rungs s),sl 2 pairE prs,eqv (.slice none 0 0),eqv (.slice none 0 0)]) rfl rfl rfl T.agg83 rfl rfl (nl (th (rt ?_))))))))))))
    refine kncA 4 3 (sl 1 strE []) rfl rfl slnil ?_
    refine kncA 4 4 (sl 1 edgesE []) rfl rfl slnil ?_
    exact rE ⟨⟨true,rungs s,prs,⟨[],[]⟩⟩,⟨fun _=>⟨(refP_walk h00).2 (by rw[←hts];exact(i36.2.yes (by omega)).1),rfl,rfl,fun h=>absurd h (by rw[h00];decide),fun _=>⟨i36.1.1,by rw[←hts];exact i36.2.q,by rw[←hts];exact(i36.2.yes (by omega)).2,by rw[hI0,show k=i36.1.1.length by omega,List.take_length,htf]⟩⟩,fun h=>(nomatch (show true=false from h))⟩⟩ [.cell 4 83] rfl [agg [bl true,sl 1 intE (rungs s),sl 2 pairE prs,sl 1 strE [],sl 1 edgesE []]] ⟨.agg rfl rfl T.agg83 rfl rfl,trivial⟩ (rfl) trivial (by first|exact .inr rfl|exact .inl rfl)
end refj
end Go.Proofs.YtolpjmllmlahfaaDoor
namespace Go.Proofs.YtolpjmllmlahfaaDoor
open AL Go
set_option maxRecDepth 100000
set_option linter.all false
open ref01 ref03
namespace spoil
end spoil
end Go.Proofs.YtolpjmllmlahfaaDoor
namespace Go.Proofs.YtolpjmllmlahfaaDoor
open AL Go ref01 ref03 ref04 ref06 MergeM Rungs TrimM LeftM TurnM
set_option linter.all false
namespace OwnM
theorem size_le {t:SSpec} {M:Nat} (h:∀x∈t.states,x.accept.length+x.next.length≤M):size t≤t.actions.length+t.states.length+t.states.length*M:=by
 have key:∀k,k≤t.states.length→part t k≤t.actions.length+t.states.length+k*M:=by
  intro k
  induction k with
  |zero=>intro _;unfold part;simp
  |succ k ih=>
   intro hk
   rw[part_succ (by omega),Nat.succ_mul]
   have:=ih (by omega)
   have:=h (ix t.states k) (ix_memS (by omega))
   omega
 exact key _ (Nat.le_refl _)
theorem ok_acc {s:SSpec} (hs:okSpec s) {x:SState} (hx:x∈s.states):x.accept.length+x.next.length≤264:=by
 obtain⟨k,hk,rfl⟩:=List.getElem_of_mem hx
 rw[←ix_get hk]
 have h:=hs.st k hk
 have:=h.acl
 have:=h.len
 have:=hs.n8
 omega
theorem mout_mem {cl:List Int} {ts:List SState}:∀{k:Nat} {x:SState},k≤ts.length→x∈mout cl ts k→∃y∈ts,x=mst cl y
 |0,x,_,h=>by cases h
 |k+1,x,hk,h=>by
  unfold mout at h
  split at h
  ·rcases List.mem_append.1 h with h|h
   ·exact mout_mem (by omega) h
   ·exact⟨ix ts k,ix_memS (by omega),by simpa using h⟩
  ·exact mout_mem (by omega) h
theorem least_size {s:SSpec} (hs:okSpec s):size (leastR s).1≤3000000∧(leastR s).2.length≤10000:=by
 have hn8:=hs.n8
 have hf1:=hs.few1
 rw[←merged_eq hs]
 cases h0:ix (hollow s) 0 with
 |true=>
  rw[merged_hol h0]
  refine⟨?_,by simpa using hf1⟩
  have h:=size_le (t:=nothing s.actions) (M:=8) (fun x hx=>by
   unfold nothing at hx
   simp at hx
   subst hx
   simpa using hn8)
  unfold nothing at h ⊢
  simp at h ⊢
  omega
 |false=>
  rw[merged_not h0]
  have hol:=ord_le hs
  have hto:=tS_ok hs
  have hl:=tS_len s
  have hm:=mout_len (classesR (tS s)) (tS s).states (ordS s).length
  refine⟨?_,by rw[mat_len];exact hf1⟩
  have h:=size_le (t:=⟨s.actions,mout (classesR (tS s)) (tS s).states (ordS s).length⟩) (M:=264) (fun x hx=>by
   obtain⟨y,hy,rfl⟩:=mout_mem (by omega) hx
   have:=ok_acc hto hy
   unfold mst
   simpa using this)
  have h2:(mout (classesR (tS s)) (tS s).states (ordS s).length).length*264≤10000*264:=Nat.mul_le_mul_right _ (by omega)
  exact Nat.le_trans h (by
   show s.actions.length+(mout (classesR (tS s)) (tS s).states (ordS s).length).length+(mout (classesR (tS s)) (tS s).states (ordS s).length).length*264≤3000000
   omega)
end OwnM
end Go.Proofs.YtolpjmllmlahfaaDoor
namespace Go.Proofs.YtolpjmllmlahfaaDoor
open AL Go
set_option maxRecDepth 100000
set_option linter.all false
open ref01 ref03 ref04 ref06 prog prog2 prog3 prog10 prog11 prog12 prog13 prog14 prog15 starts spoil Part TurnM Itoa OwnM
theorem lst_size (s:SSpec):size (lstOf s).1≤3000000∧(lstOf s).2.length≤10000:=by
 unfold lstOf
 split
 ·next h=>exact least_size (okSpec_of h)
 ·exact⟨by simp[size,part],by simp⟩
namespace T
theorem z50:ZeroIs Tryd.prog 50 [.slice none 0 0,.slice none 0 0,.slice none 0 0,.slice none 0 0,.slice none 0 0,.slice none 0 0]:=zeroIs_of (by kernel_rfl)
theorem ent23:Ent Tryd.prog 23:=ent_of (by kernel_rfl)
end T
namespace prog17
end prog17
end Go.Proofs.YtolpjmllmlahfaaDoor
namespace Go.Proofs.YtolpjmllmlahfaaDoor
open AL ref01 ref03 ref04 ref06 Part Rungs LeftM TrimM
set_option linter.all false
namespace ValidM
theorem lt_pow_of_bits {u n:Nat} (h:∀a,u.testBit a=true→a<n):u<2^n:=
 Nat.lt_pow_two_of_testBit u (fun i hi=>by
  cases hb:u.testBit i with
  |false=>rfl
  |true=>exact absurd (h i hb) (by omega))
theorem stateOK_of {x:SState} {N n:Nat} (h:okState x N n):stateOK x (N:Int) n=true:=by
 unfold stateOK
 simp only [Bool.and_eq_true,decide_eq_true_eq]
 refine⟨⟨⟨by rw[h.len],h.rise⟩,List.all_eq_true.2 (fun j hj=> ?_)⟩,List.all_eq_true.2 (fun u hu=> ?_)⟩
 ·obtain⟨a,ha,rfl⟩:=mem_ix hj
  have:=h.nx a (by rw[←h.len];exact ha)
  simp;omega
 ·obtain⟨i,hi,rfl⟩:=mem_ix hu
  have h1:=h.ac i hi
  have h2:=h.go i hi
  unfold setOK
  rw[Bool.and_eq_true]
  constructor
  ·unfold isSet
   have:(ix x.accept i).toNat<2^n:=lt_pow_of_bits (fun a ha=>(h2 a (by unfold has;rw[Int.toNat_natCast];exact ha)).1)
   simp only [Bool.and_eq_true,decide_eq_true_eq,Int.toNat_natCast]
   omega
  ·refine List.all_eq_true.2 (fun a ha=> ?_)
   obtain⟨b,rfl,hb,hh⟩:=listOf_mem.1 ha
   have:=(h2 b hh).2
   rw[Int.toNat_natCast];simpa using this
theorem specOK_of {s:SSpec} (h:okSpec s) (h5:s.states.length≤500):specOK s=true:=by
 unfold specOK
 simp only [Bool.and_eq_true,decide_eq_true_eq]
 exact⟨⟨⟨h.acts,h.few0⟩,h5⟩,List.all_eq_true.2 (fun x hx=>by
  obtain⟨k,hk,rfl⟩:=List.getElem_of_mem hx
  have:=stateOK_of (h.st k hk)
  rwa [ix_get hk] at this)⟩
theorem specOK_few {s:SSpec} (h:specOK s=true):s.states.length≤500:=by
 unfold specOK at h
 simp only [Bool.and_eq_true,decide_eq_true_eq] at h
 exact h.1.2
end ValidM
end Go.Proofs.YtolpjmllmlahfaaDoor
namespace Go.Proofs.YtolpjmllmlahfaaDoor
open AL Go
set_option maxRecDepth 100000
set_option linter.all false
open ref01 ref03 ref04 ref06 prog prog2 prog3 prog10 prog11 prog12 prog13 prog14 prog15 prog17 starts Part TurnM Itoa OwnM BisM BisM4 BisM5 WalkM StepM WitM JudgM JudgM2 ValidM refw judg wit refj
theorem lst_small {s:SSpec} (h:specOK s=true):smallSpec (lstOf s).1:=by
 unfold lstOf;rw[if_pos h];exact(least_ok (okSpec_of h)).small
theorem lst_eq {s:SSpec} (h:specOK s=true):lstOf s=leastR s∧errOf s=0:=by
 unfold lstOf errOf;rw[if_pos h,if_pos h];exact⟨rfl,rfl⟩
theorem least_valid {s:SSpec} (h:specOK s=true):specOK (leastR s).1=true:=by
 have hs:=okSpec_of h
 have:=least_le hs
 have h5:=specOK_few h
 exact specOK_of (least_ok hs) (by omega)
namespace lstu
end lstu
end Go.Proofs.YtolpjmllmlahfaaDoor
namespace Go.Proofs.YtolpjmllmlahfaaDoor
open AL Go
set_option maxRecDepth 100000
set_option linter.all false
open ref01 ref03 ref04 ref06 prog prog2 prog3 prog6 prog13 prog15 starts search Part Rungs LeftM TrimM RoundM BisM BisM5 WalkM StepM WitM JudgM refw judg wit
def ordI (d e:Int × Int):Int:=if d.1=e.1 then d.2- e.2 else d.1- e.1
theorem ordI_lt {d e:Int × Int} (h:¬0≤ordI d e):d.1<e.1∨(d.1=e.1∧d.2<e.2):=by
 unfold ordI at h
 split at h<;>omega
theorem ordI_ge {d e:Int × Int} (h:0≤ordI d e):¬(d.1<e.1∨(d.1=e.1∧d.2<e.2)):=by
 unfold ordI at h
 split at h<;>omega
def edgeOK (A N:Nat) (e:Int × Int):Bool:=decide (0≤e.1)&&decide (e.1<(A:Int))&&decide (0≤e.2)&&decide (e.2<(N:Int))
theorem edgeOK_iff {A N:Nat} {e:Int × Int}:edgeOK A N e=true↔0≤e.1∧e.1<(A:Int)∧0≤e.2∧e.2<(N:Int):=by
 unfold edgeOK;simp[and_assoc]
def ltP (d e:Int × Int):Bool:=decide (d.1<e.1)||(decide (d.1=e.1)&&decide (d.2<e.2))
theorem ltP_iff {d e:Int × Int}:ltP d e=true↔d.1<e.1∨(d.1=e.1∧d.2<e.2):=by unfold ltP;simp
def edgesOK (A N:Nat) (l:List (Int × Int)):Bool:=l.all (edgeOK A N)&&(List.range (l.length- 1)).all fun i=>ltP (ix l i) (ix l (i+1))
def sumLen (l:List (List (Int × Int))):Nat:=(l.map List.length).sum
theorem sumLen_snoc (l:List (List (Int × Int))) (x:List (Int × Int)):sumLen (l++ [x])=sumLen l+x.length:=by simp[sumLen]
theorem sumLen_take (l:List (List (Int × Int))) (k:Nat):sumLen (l.take k)≤sumLen l:=by
 conv=>rhs;rw[←List.take_append_drop k l]
 unfold sumLen
 rw[List.map_append,List.sum_append];omega
theorem sumLen_ix {l:List (List (Int × Int))} {k:Nat} (h:k<l.length):(ix l k).length≤sumLen l:=by
 have:=sumLen_take l (k+1)
 rw[take_s h,sumLen_snoc] at this
 omega
def sysOK (m:SSys):Bool:=actionsOK m.actions&&decide (1≤m.states.length)&&decide (m.states.length≤5000)&&m.states.all (edgesOK m.actions.length m.states.length)&&decide (sumLen m.states≤400000)
def sizeM (m:SSys):Nat:=m.actions.length+m.states.length+sumLen m.states
def fewM (m:SSys) (n:Int):Bool:=decide ((sizeM m:Int)≤n)
theorem sysOK_ok {m:SSys} (h:sysOK m=true):okSys m:=by
 unfold sysOK at h
 simp only [Bool.and_eq_true,decide_eq_true_eq] at h
 obtain⟨⟨⟨⟨h1,h2⟩,h3⟩,h4⟩,h5⟩:=h
 refine⟨h1,actionsOK_len h1,h2,by omega,fun x hx e he=> ?_,fun x hx=> ?_⟩
 ·have g:=all_ix h4 hx
  unfold edgesOK at g
  rw[Bool.and_eq_true] at g
  exact edgeOK_iff.1 (List.all_eq_true.1 g.1 e he)
 ·exact Nat.le_trans (sumLen_ix hx) h5
theorem edges_of {A N:Nat} {l:List (Int × Int)} (h1:∀j,j<l.length→edgeOK A N (ix l j)=true) (h2:∀j,j+1<l.length→ltP (ix l j) (ix l (j+1))=true):edgesOK A N l=true:=by
 unfold edgesOK
 rw[Bool.and_eq_true]
 refine⟨List.all_eq_true.2 (fun e he=> ?_),List.all_eq_true.2 (fun j hj=>h2 j (by have:=List.mem_range.1 hj;omega))⟩
 obtain⟨j,hj,rfl⟩:=List.getElem_of_mem he
 rw[←ix_get hj];exact h1 j hj
theorem edges_no1 {A N:Nat} {l:List (Int × Int)} {j:Nat} (hj:j<l.length) (h:edgeOK A N (ix l j)=false):edgesOK A N l=false:=by
 cases g:edgesOK A N l with
 |false=>rfl
 |true=>
  unfold edgesOK at g
  rw[Bool.and_eq_true] at g
  rw[all_ix g.1 hj] at h;cases h
theorem edges_no2 {A N:Nat} {l:List (Int × Int)} {j:Nat} (hj:j<l.length) (h0:0<j) (h:ltP (ix l (j- 1)) (ix l j)=false):edgesOK A N l=false:=by
 cases g:edgesOK A N l with
 |false=>rfl
 |true=>
  unfold edgesOK at g
  rw[Bool.and_eq_true] at g
  have:=List.all_eq_true.1 g.2 (j- 1) (List.mem_range.2 (by omega))
  rw[show j- 1+1=j by omega,h] at this;cases this
theorem sys_lens {m:SSys} (h:Inh (sys m)):m.actions.length≤140737488355328∧m.states.length≤140737488355328∧∀k,k<m.states.length→(ix m.states k).length≤140737488355328:=
 ⟨(h.agg 0 rfl).len,(h.agg 1 rfl).len,fun _ hk=>((h.agg 1 rfl).el (gK hk) 0 rfl).len⟩
namespace T
theorem fld128_0:FieldAt Tryd.prog 128 0 0:=fieldAt_of (by kernel_rfl)
theorem fld128_1:FieldAt Tryd.prog 128 1 1:=fieldAt_of (by kernel_rfl)
theorem sl85:IsSlice Tryd.prog 85 128 2:=isSlice_of (by kernel_rfl)
theorem agg128:IsAgg Tryd.prog 128 2:=isAgg_of (by kernel_rfl)
theorem z128:ZeroIs Tryd.prog 128 [.int .i64 0,.int .i64 0]:=zeroIs_of (by kernel_rfl)
theorem sl53:IsSlice Tryd.prog 53 85 1:=isSlice_of (by kernel_rfl)
theorem fld55_0:FieldAt Tryd.prog 55 0 0:=fieldAt_of (by kernel_rfl)
theorem ent107:Ent Tryd.prog 107:=ent_of (by kernel_rfl)
end T
namespace sysw
theorem order_ok (d e:Int × Int) (hd:bdP d) (he:bdP e):
 Fn0 Tryd.prog 107 [agg [int d.1,int d.2],agg [int e.1,int e.2]] (int (ordI d e)):=by
 refine fnI Tryd.func107 rfl rfl (fun w0 F0=> ?_)
 unfold bdP at hd he
 refine sq (rg (bx (key:=2) (cs:= [int d.1,int d.2]) rfl fun b2=>(bx (key:=3) (cs:= [int e.1,int e.2]) rfl fun b3=>(ag (nl (th (sq (sq (rg (fP rfl T.fld128_0 (lP rfl rfl rfl T.one3 (fP rfl T.fld128_0 (lP rfl rfl rfl T.one3 (bi rfl rfl b_neq (nl (th ?_))))))))))))))))
 refine cd rfl (fun hc0=> ?_) (fun hc0=> ?_)
 ·try simp at hc0
  refine sq (rg (fP rfl T.fld128_0 (lP rfl rfl rfl T.one3 (fP rfl T.fld128_0 (lP rfl rfl rfl T.one3 (bi rfl rfl (b_sub (by unfold I64;omega)) (ag (nl (th (rt (rt_ ?_)))))))))))
  have hr0:((d.1- e.1):Int)=(ordI d e):=by
   unfold ordI;rw[if_neg hc0]
  have hall:∀x0,(d.1- e.1)=x0→resAV [int (d.1- e.1)]=resAV [int x0]:=by rintro _ rfl;rfl
  exact rE () [.tmp 4] rfl [int (d.1- e.1)] ⟨.tmp rfl,trivial⟩ (hall _ hr0) trivial (by first|exact .inr rfl|exact .inl rfl)
 ·try simp at hc0
  refine sk (th (sq (rg (fP rfl T.fld128_1 (lP rfl rfl rfl T.one3 (fP rfl T.fld128_1 (lP rfl rfl rfl T.one3 (bi rfl rfl (b_sub (by unfold I64;omega)) (ag (nl (th (rt ?_))))))))))))
  have hr0:((d.2- e.2):Int)=(ordI d e):=by
   unfold ordI;rw[if_pos hc0]
  have hall:∀x0,(d.2- e.2)=x0→resAV [int (d.2- e.2)]=resAV [int x0]:=by rintro _ rfl;rfl
  exact rE () [.tmp 4] rfl [int (d.2- e.2)] ⟨.tmp rfl,trivial⟩ (hall _ hr0) trivial (by first|exact .inr rfl|exact .inl rfl)
theorem Offers_ok (l:List (Int × Int)) (hl:∀e∈l,0≤e.1∧e.1<8):
 Fn0 Tryd.prog 80 [sl 2 pairE l] (int (offE l)):=by
 refine fnI Tryd.func80 rfl rfl (fun w0 F0=> ?_)
 refine fcC (slenI 0 rfl) (fun hm0=> ?_)
 refine sq (rg (ag (nl (th (sq (rg (ag (nl (th (sq (sq (rg (mv (lnF rfl T.sl85 (mv (nl (th (bk ?_))))))))))))))))))
 have hI0_0:0≤l.length:=by
  first|omega|simp
 have hI0_1:(0:Int)=offE (l.take 0)∧0≤(0:Int)∧(0:Int)<256:=by
  exact⟨rfl,by omega,by omega⟩
 refine lp (κ:=Nat × Int) (fun p=> [(2,int 0),(3,int p.2),(6,sl 2 pairE l),(7,int (l.length:Int)),(8,int (p.1:Int))]) (fun p=> []) (fun p=>(p.1≤l.length)∧(p.2=offE (l.take p.1)∧0≤p.2∧p.2<256)) (fun p=>l.length- p.1) ⟨0,(0:Int)⟩ ⟨hI0_0,hI0_1⟩ ⟨id,id,id,id,id,trivial⟩ trivial ?_
 intro⟨k,u⟩ hG0
 obtain⟨hk0,⟨hu,hu0,hu1⟩⟩:(k≤l.length)∧(u=offE (l.take k)∧0≤u∧u<256):=hG0
 show Ct _ _ _ _ [(2,int 0),(3,int u),(6,sl 2 pairE l),(7,int (l.length:Int)),(8,int (k:Int))] [] _
 refine sq (rg (bi rfl rfl b_lss (nl (th (sq ?_)))))
 refine cd rfl (fun hc0=> ?_) (fun hc0=> ?_)
 ·try simp at hc0
  have hek:=hl _ (ix_memS hc0)
  have hp:2^ ((ix l k).1).toNat≤2^7:=Nat.pow_le_pow_right (by omega) (by omega)
  have hp0:0≤(((2^ ((ix l k).1).toNat:Nat):Int)):=Int.natCast_nonneg _
  refine sk (th (sq (bk (sq (rg (iF rfl rfl T.sl85 (by omega) (by first|exact gN (by omega)|exact gI (by omega) (by omega)) (lFA rfl T.agg128 (Nat.le_of_ble_eq_true rfl) (al (key:=5) T.z128 (ex_cons (ex_cons (ex_nil))) fun b5=>(sPA (cs':= [int ((ix l k).1),int ((ix l k).2)]) rfl rfl rfl T.agg128 rfl rfl (nl (th (rg (mv (fP rfl T.fld128_0 (lP rfl rfl rfl T.one3 (bi rfl rfl (b_shlI (by omega) (by omega)) (bi rfl rfl (b_orI (by omega) (by omega) (by omega) (by omega)) (ag (nl (eb (th (rg (bi rfl rfl (b_add (by unfold I64;omega)) (mv (nl ?_)))))))))))))))))))))))))
  have hN0:(k+1)≤l.length:=by
   first|omega|simp_all
  have hN1:((u.toNat|||(2^ (((ix l k).1).toNat)):Nat):Int)=offE (l.take (k+1))∧0≤((u.toNat|||(2^ (((ix l k).1).toNat)):Nat):Int)∧((u.toNat|||(2^ (((ix l k).1).toNat)):Nat):Int)<256:=by
   refine⟨?_,by omega,or_lt256 (b:=((2^ ((ix l k).1).toNat:Nat):Int)) hu1 (by omega)⟩
   rw[take_s hc0]
   unfold offE
   rw[List.map_append,List.map_cons,List.map_nil,orAll_snoc,hu];rfl
  exact ln (⟨k+1,((u.toNat|||(2^ (((ix l k).1).toNat)):Nat):Int)⟩:Nat × Int) ⟨hN0,hN1⟩ (by first|omega|(dsimp only;omega)) ⟨id,id,id,id,id,trivial⟩ trivial
 ·try simp at hc0
  refine ex (xt_ (xt_ (xb (th (sq (rg (mv (ag (nl (th (rt ?_)))))))))))
  have hr0:(u:Int)=(offE l):=by
   rw[hu,show k=l.length by omega,List.take_length]
  have hall:∀x0,u=x0→resAV [int u]=resAV [int x0]:=by rintro _ rfl;rfl
  exact rE () [.tmp 2] rfl [int u] ⟨.tmp rfl,trivial⟩ (hall _ hr0) trivial (by first|exact .inr rfl|exact .inl rfl)
theorem Valid_ok (m:SSys):
 Fn0 Tryd.prog 78 [sys m] (bl (sysOK m)):=by
 refine fnI Tryd.func78 rfl rfl (fun w0 F0=> ?_)
 refine fcC (inhS 0 rfl) (fun hS0=> ?_)
 obtain⟨hma0,hms0,hme0⟩:=sys_lens hS0
 refine sq (rg (bx (key:=1) (cs:= [sl 1 strE m.actions,sl 1 edgesE m.states]) rfl fun b1=>(ag (nl (th (sq (rg (fP rfl T.fld55_1 (lP rfl rfl rfl T.one53 (fc (slenI 10 rfl) fun hm10=>(lnF rfl T.sl53 (ag (nl (th (sq (sq (rg (fP rfl T.fld55_0 (lP rfl rfl rfl T.one22 (cal0 (φs:= [sl 1 strE m.actions]) (φ:=bl (actionsOK m.actions)) ⟨rfl,trivial⟩ (prog.aValid_ok _) T.ent61 (no rfl (mv ?_))))))))))))))))))))))
 apply gOr (t:=16) (pd:=19) rfl
 rotate_left
 ·intro hg0 fin
  have hg0':=hg0
  try simp at hg0'
  exact gy rfl rfl rfl hg0 (mv (gy rfl rfl rfl hg0 (bi rfl rfl b_lss (pkF rfl hg0 rfl (drp (X:= [(18,_),(17,_)]) ⟨rfl,rfl,trivial⟩ (fin))))))
 ·intro hg0 fin
  exact gn rfl rfl rfl hg0 rfl rfl (gn rfl rfl rfl hg0 rfl rfl (pkT rfl hg0 rfl (drp (X:= [(18,_),(17,_)]) ⟨rfl,rfl,trivial⟩ (fin))))
 refine mv ?_
 apply gOr (t:=20) (pd:=23) rfl
 rotate_left
 ·intro hg1 fin
  have hg1':=hg1
  try simp at hg1'
  exact gy rfl rfl rfl hg1 (mv (gy rfl rfl rfl hg1 (bi rfl rfl b_gtr (pkF rfl hg1 rfl (drp (X:= [(22,_),(21,_)]) ⟨rfl,rfl,trivial⟩ (fin))))))
 ·intro hg1 fin
  exact gn rfl rfl rfl hg1 rfl rfl (gn rfl rfl rfl hg1 rfl rfl (pkT rfl hg1 rfl (drp (X:= [(22,_),(21,_)]) ⟨rfl,rfl,trivial⟩ (fin))))
 refine nl (th ?_)
 refine cd rfl (fun hc0=> ?_) (fun hc0=> ?_)
 ·try simp at hc0
  refine sq (rg (ag (nl (th (rt (rt_ ?_))))))
  have hr0:false=(sysOK m):=by
   unfold sysOK
   by_cases h:actionsOK m.actions=true
   ·simp[h] at hc0 ⊢
    omega
   ·simp[h]
  have hall:∀x0,false=x0→resAV [bl false]=resAV [bl x0]:=by rintro _ rfl;rfl
  exact rE () [.tmp 2] rfl [bl false] ⟨.tmp rfl,trivial⟩ (hall _ hr0) trivial (by first|exact .inr rfl|exact .inl rfl)
 ·try simp at hc0
  have hact:=actionsOK_len (l:=m.actions) (by simp_all)
  refine sk (th (sq (rg (ag (nl (th (sq (sq (rg (fP rfl T.fld55_1 (lP rfl rfl rfl T.one53 (lnF rfl T.sl53 (mv (nl (th (bk ?_))))))))))))))))
  have hI0_0:0≤m.states.length:=by
   first|omega|simp
  have hI0_1:(0:Int)=(sumLen (m.states.take 0):Int)∧(m.states.take 0).all (edgesOK m.actions.length m.states.length)=true∧(0:Int)≤400000:=by
   exact⟨rfl,by simp,by omega⟩
  refine lp (κ:=Nat × Int) (fun p=> [(1,ptr 1 b1 0),(3,int (m.states.length:Int)),(4,int p.2),(25,sl 1 edgesE m.states),(26,int (m.states.length:Int)),(27,int (p.1:Int))]) (fun p=> [(1,cell b1 [sl 1 strE m.actions,sl 1 edgesE m.states])]) (fun p=>(p.1≤m.states.length)∧(p.2=(sumLen (m.states.take p.1):Int)∧(m.states.take p.1).all (edgesOK m.actions.length m.states.length)=true∧p.2≤400000)) (fun p=>m.states.length- p.1) ⟨0,(0:Int)⟩ ⟨hI0_0,hI0_1⟩ ⟨id,id,id,id,id,id,trivial⟩ ⟨⟨rfl,id⟩,trivial⟩ ?_
  intro⟨k,n⟩ hG0
  obtain⟨hk0,⟨hn,hal,hn4⟩⟩:(k≤m.states.length)∧(n=(sumLen (m.states.take k):Int)∧(m.states.take k).all (edgesOK m.actions.length m.states.length)=true∧n≤400000):=hG0
  show Ct _ _ _ _ [(1,ptr 1 b1 0),(3,int (m.states.length:Int)),(4,int n),(25,sl 1 edgesE m.states),(26,int (m.states.length:Int)),(27,int (k:Int))] [(1,cell b1 [sl 1 strE m.actions,sl 1 edgesE m.states])] _
  have hmk:=hme0 k
  refine sq (rg (bi rfl rfl b_lss (nl (th (sq ?_)))))
  refine cd rfl (fun hc1=> ?_) (fun hc1=> ?_)
  ·try simp at hc1
   refine sk (th (sq (bk (sq (rg (iF rfl rfl T.sl53 (by omega) (by first|exact gN (by omega)|exact gI (by omega) (by omega)) (lF rfl rfl T.one85 (ag (nl (th (sq (rg (mv (mv (fc (slenI 32 rfl) fun hm32=>(lnF rfl T.sl85 (bi rfl rfl (b_add (by unfold I64;omega)) (ag (nl (th (sq (sq (rg (mv (bi rfl rfl b_gtr (nl (th ?_)))))))))))))))))))))))))))
   refine cd rfl (fun hc2=> ?_) (fun hc2=> ?_)
   ·try simp at hc2
    refine sq (rg (ag (nl (th (rt (rt_ (rb (rt_ (rt_ (rb (rt_ ?_)))))))))))
    have hr0:false=(sysOK m):=by
     unfold sysOK
     rw[decide_eq_false (p:=sumLen m.states≤400000) (by have:=sumLen_take m.states (k+1);rw[take_s (by omega),sumLen_snoc] at this;omega)]
     simp
    have hall:∀x0,false=x0→resAV [bl false]=resAV [bl x0]:=by rintro _ rfl;rfl
    exact rE () [.tmp 2] rfl [bl false] ⟨.tmp rfl,trivial⟩ (hall _ hr0) trivial (by first|exact .inr rfl|exact .inl rfl)
   ·try simp at hc2
    refine sk (th (sq (rg (mv (lnF rfl T.sl85 (mv (nl (th (bk ?_)))))))))
    have hI1_0:0≤(ix m.states k).length:=by
     first|omega|simp
    have hI1_1:(∀j,j<0→edgeOK m.actions.length m.states.length (ix (ix m.states k) j)=true)∧∀j,j+1<0→ltP (ix (ix m.states k) j) (ix (ix m.states k) (j+1))=true:=by
     exact⟨fun j hj=>by omega,fun j hj=>by omega⟩
    refine lp (κ:=Nat) (fun p=> [(1,ptr 1 b1 0),(3,int (m.states.length:Int)),(4,int (n+((ix m.states k).length:Int))),(6,sl 2 pairE (ix m.states k)),(25,sl 1 edgesE m.states),(26,int (m.states.length:Int)),(27,int (k:Int)),(37,sl 2 pairE (ix m.states k)),(38,int ((ix m.states k).length:Int)),(39,int (p:Int))]) (fun p=> [(1,cell b1 [sl 1 strE m.actions,sl 1 edgesE m.states])]) (fun p=>(p≤(ix m.states k).length)∧((∀j,j<p→edgeOK m.actions.length m.states.length (ix (ix m.states k) j)=true)∧∀j,j+1<p→ltP (ix (ix m.states k) j) (ix (ix m.states k) (j+1))=true)) (fun p=>(ix m.states k).length- p) 0 ⟨hI1_0,hI1_1⟩ ⟨id,id,id,id,id,id,id,id,id,id,trivial⟩ ⟨⟨rfl,id⟩,trivial⟩ ?_
    intro k1 hG1
    obtain⟨hk1,hI1⟩:(k1≤(ix m.states k).length)∧((∀j,j<k1→edgeOK m.actions.length m.states.length (ix (ix m.states k) j)=true)∧∀j,j+1<k1→ltP (ix (ix m.states k) j) (ix (ix m.states k) (j+1))=true):=hG1
    refine sq (rg (bi rfl rfl b_lss (nl (th (sq ?_)))))
    refine cd rfl (fun hc3=> ?_) (fun hc3=> ?_)
    ·try simp at hc3
     refine sk (th (sq (bk (sq (rg (mv (iF rfl rfl T.sl85 (by omega) (by first|exact gN (by omega)|exact gI (by omega) (by omega)) (lFA rfl T.agg128 (Nat.le_of_ble_eq_true rfl) (al (key:=8) T.z128 (ex_cons (ex_cons (ex_nil))) fun b8=>(ag (sPA (cs':= [int ((ix (ix m.states k) k1).1),int ((ix (ix m.states k) k1).2)]) rfl rfl rfl T.agg128 rfl rfl (nl (th (sq (dr (nh:=36) [0,1,3,7,15,31,15,79,207,511,1023,2047,4095,8191,16383,32767,65535,131071,262143,131071,1048575,2097151,4194303,8388607,16777215,33554431,67108863,67108863,201326591,536870911,1073741823,67108863,4294967295,8589934591,17179869183,34359738367] T.mixed (by kernel_rfl) ?_)))))))))))))))
     refine st_ rfl (fun _ _ _ gq kq=>fP (gq.1.trans rfl) T.fld128_0 kq) ?_
     refine st_ rfl (fun _ _ _ gq kq=>lP (gq.1.trans rfl) rfl rfl T.one3 kq) ?_
     refine st_ rfl (fun _ _ _ gq kq=>bi (gq.1.trans rfl) rfl b_lss kq) ?_
     refine st_ rfl (fun _ _ _ gq kq=>mv' (gq.1.trans rfl) kq) ?_
     refine sg_ (φ:=ptr 8 b8 0) rfl rfl rfl rfl (List.mem_of_elem_eq_true rfl) (fun hgd=> ?_) ?_
     ·have hgd':=hgd
      try simp at hgd'
      exact fun _ _ _ gq kq=>fP (gq.1.trans rfl) T.fld128_0 kq
     refine sg_ (φ:=int ((ix (ix m.states k) k1).1)) rfl rfl rfl rfl (List.mem_of_elem_eq_true rfl) (fun hgd=> ?_) ?_
     ·have hgd':=hgd
      try simp at hgd'
      exact fun _ _ _ gq kq=>lP (gq.1.trans (gif_t hgd)) rfl rfl T.one3 kq
     refine sg_ (φ:=ptr 1 b1 0) rfl rfl rfl rfl (List.mem_of_elem_eq_true rfl) (fun hgd=> ?_) ?_
     ·have hgd':=hgd
      try simp at hgd'
      exact fun _ _ _ gq kq=>fP (gq.1.trans rfl) T.fld55_0 kq
     refine sg_ (φ:=sl 1 strE m.actions) rfl rfl rfl rfl (List.mem_of_elem_eq_true rfl) (fun hgd=> ?_) ?_
     ·have hgd':=hgd
      try simp at hgd'
      exact fun _ _ _ gq kq=>lP (gq.1.trans (gif_t hgd)) rfl rfl T.one22 kq
     refine sg_ (φ:=int (m.actions.length:Int)) rfl rfl rfl rfl (List.mem_of_elem_eq_true rfl) (fun hgd=> ?_) ?_
     ·have hgd':=hgd
      try simp at hgd'
      exact fun _ _ _ gq kq=>lnF (gq.1.trans (gif_t hgd)) T.sl22 kq
     refine sg_ (φ:=bl (decide ((m.actions.length:Int)≤((ix (ix m.states k) k1).1)))) rfl rfl rfl rfl (List.mem_of_elem_eq_true rfl) (fun hgd=> ?_) ?_
     ·have hgd':=hgd
      try simp at hgd'
      exact fun _ _ _ gq kq=>bi (gq.1.trans (gif_t hgd)) (gq.2.1.trans (gif_t hgd)) b_geq kq
     refine st_ rfl (fun _ _ _ gq kq=>pk (gq.1.trans rfl) (pk_or (x:= .tmp 47) (gq.1.trans rfl) (gq.2.1.trans rfl) rfl) kq) ?_
     refine st_ rfl (fun _ _ _ gq kq=>mv' (gq.1.trans rfl) kq) ?_
     refine sg_ (φ:=ptr 8 b8 1) rfl rfl rfl rfl (List.mem_of_elem_eq_true rfl) (fun hgd=> ?_) ?_
     ·have hgd':=hgd
      try simp at hgd'
      exact fun _ _ _ gq kq=>fP (gq.1.trans rfl) T.fld128_1 kq
     refine sg_ (φ:=int ((ix (ix m.states k) k1).2)) rfl rfl rfl rfl (List.mem_of_elem_eq_true rfl) (fun hgd=> ?_) ?_
     ·have hgd':=hgd
      try simp at hgd'
      exact fun _ _ _ gq kq=>lP (gq.1.trans (gif_t hgd)) rfl rfl T.one3 kq
     refine sg_ (φ:=bl (decide (((ix (ix m.states k) k1).2)<0))) rfl rfl rfl rfl (List.mem_of_elem_eq_true rfl) (fun hgd=> ?_) ?_
     ·have hgd':=hgd
      try simp at hgd'
      exact fun _ _ _ gq kq=>bi (gq.1.trans (gif_t hgd)) rfl b_lss kq
     refine st_ rfl (fun _ _ _ gq kq=>pk (gq.1.trans rfl) (pk_or (x:= .tmp 55) (gq.1.trans rfl) (gq.2.1.trans rfl) rfl) kq) ?_
     refine st_ rfl (fun _ _ _ gq kq=>mv' (gq.1.trans rfl) kq) ?_
     refine sg_ (φ:=ptr 8 b8 1) rfl rfl rfl rfl (List.mem_of_elem_eq_true rfl) (fun hgd=> ?_) ?_
     ·have hgd':=hgd
      try simp at hgd'
      exact fun _ _ _ gq kq=>fP (gq.1.trans rfl) T.fld128_1 kq
     refine sg_ (φ:=int ((ix (ix m.states k) k1).2)) rfl rfl rfl rfl (List.mem_of_elem_eq_true rfl) (fun hgd=> ?_) ?_
     ·have hgd':=hgd
      try simp at hgd'
      exact fun _ _ _ gq kq=>lP (gq.1.trans (gif_t hgd)) rfl rfl T.one3 kq
     refine sg_ (φ:=int (m.states.length:Int)) rfl rfl rfl rfl (List.mem_of_elem_eq_true rfl) (fun hgd=> ?_) ?_
     ·have hgd':=hgd
      try simp at hgd'
      exact fun _ _ _ gq kq=>mv' (gq.1.trans rfl) kq
     refine sg_ (φ:=bl (decide ((m.states.length:Int)≤((ix (ix m.states k) k1).2)))) rfl rfl rfl rfl (List.mem_of_elem_eq_true rfl) (fun hgd=> ?_) ?_
     ·have hgd':=hgd
      try simp at hgd'
      exact fun _ _ _ gq kq=>bi (gq.1.trans (gif_t hgd)) (gq.2.1.trans (gif_t hgd)) b_geq kq
     refine st_ rfl (fun _ _ _ gq kq=>pk (gq.1.trans rfl) (pk_or (x:= .tmp 60) (gq.1.trans rfl) (gq.2.1.trans rfl) rfl) kq) ?_
     refine st_ rfl (fun _ _ _ gq kq=>mv' (gq.1.trans rfl) kq) ?_
     refine sg_ (φ:=int (k1:Int)) rfl rfl rfl rfl (List.mem_of_elem_eq_true rfl) (fun hgd=> ?_) ?_
     ·have hgd':=hgd
      try simp at hgd'
      exact fun _ _ _ gq kq=>mv' (gq.1.trans rfl) kq
     refine sg_ (φ:=bl (decide (0<(k1:Int)))) rfl rfl rfl rfl (List.mem_of_elem_eq_true rfl) (fun hgd=> ?_) ?_
     ·have hgd':=hgd
      try simp at hgd'
      exact fun _ _ _ gq kq=>bi (gq.1.trans (gif_t hgd)) rfl b_gtr kq
     refine sg_ (φ:=bl (decide (0<(k1:Int)))) rfl rfl rfl rfl (List.mem_of_elem_eq_true rfl) (fun hgd=> ?_) ?_
     ·have hgd':=hgd
      try simp at hgd'
      exact fun _ _ _ gq kq=>mv' (gq.1.trans (gif_t hgd)) kq
     refine sg2_ (φ:=sl 2 pairE (ix m.states k)) rfl rfl rfl rfl (List.mem_of_elem_eq_true rfl) (fun hgd hgd2=> ?_) ?_
     ·have hgd':=hgd
      try simp at hgd'
      have hgd2':=hgd2
      try simp at hgd2'
      exact fun _ _ _ gq kq=>mv' (gq.1.trans rfl) kq
     refine sg2_ (φ:=int (k1:Int)) rfl rfl rfl rfl (List.mem_of_elem_eq_true rfl) (fun hgd hgd2=> ?_) ?_
     ·have hgd':=hgd
      try simp at hgd'
      have hgd2':=hgd2
      try simp at hgd2'
      exact fun _ _ _ gq kq=>mv' (gq.1.trans rfl) kq
     refine sg2_ (φ:=int ((k1:Int)- 1)) rfl rfl rfl rfl (List.mem_of_elem_eq_true rfl) (fun hgd hgd2=> ?_) ?_
     ·have hgd':=hgd
      try simp at hgd'
      have hgd2':=hgd2
      try simp at hgd2'
      exact fun _ _ _ gq kq=>bi (gq.1.trans (gif_t2 hgd hgd2)) rfl (b_sub (by unfold I64;omega)) kq
     refine sg2_ (φ:=fp [int ((ix (ix m.states k) (((k1:Int)- 1).toNat)).1),int ((ix (ix m.states k) (((k1:Int)- 1).toNat)).2)]) rfl rfl rfl rfl (List.mem_of_elem_eq_true rfl) (fun hgd hgd2=> ?_) ?_
     ·have hgd':=hgd
      try simp at hgd'
      have hgd2':=hgd2
      try simp at hgd2'
      exact fun _ _ _ gq kq=>iF (gq.1.trans (gif_t2 hgd hgd2)) (gq.2.1.trans (gif_t2 hgd hgd2)) T.sl85 (by omega) (by first|exact gN (by omega)|exact gI (by omega) (by omega)) kq
     refine sg2_ (φ:=agg [int ((ix (ix m.states k) (((k1:Int)- 1).toNat)).1),int ((ix (ix m.states k) (((k1:Int)- 1).toNat)).2)]) rfl rfl rfl rfl (List.mem_of_elem_eq_true rfl) (fun hgd hgd2=> ?_) ?_
     ·have hgd':=hgd
      try simp at hgd'
      have hgd2':=hgd2
      try simp at hgd2'
      exact fun _ _ _ gq kq=>lFA (gq.1.trans (gif_t2 hgd hgd2)) T.agg128 (Nat.le_of_ble_eq_true rfl) kq
     refine sg2_ (φ:=agg [int ((ix (ix m.states k) k1).1),int ((ix (ix m.states k) k1).2)]) rfl rfl rfl rfl (List.mem_of_elem_eq_true rfl) (fun hgd hgd2=> ?_) ?_
     ·have hgd':=hgd
      try simp at hgd'
      have hgd2':=hgd2
      try simp at hgd2'
      exact fun _ _ _ gq kq=>lPA (gq.1.trans rfl) rfl T.agg128 rfl kq
     refine sg2_ (φ:=int (ordI ((ix (ix m.states k) (((k1:Int)- 1).toNat)).1,(ix (ix m.states k) (((k1:Int)- 1).toNat)).2) ((ix (ix m.states k) k1).1,(ix (ix m.states k) k1).2))) rfl rfl rfl rfl (List.mem_of_elem_eq_true rfl) (fun hgd hgd2=> ?_) ?_
     ·have hgd':=hgd
      try simp at hgd'
      have hgd2':=hgd2
      try simp at hgd2'
      have hp1:=edgeOK_iff.1 (hI1.1 (((k1:Int)- 1).toNat) (by omega))
      have hb1:bdP ((ix (ix m.states k) (((k1:Int))- 1).toNat).1,(ix (ix m.states k) (((k1:Int))- 1).toNat).2):=by unfold bdP;dsimp only;omega
      have hb2:bdP ((ix (ix m.states k) k1).1,(ix (ix m.states k) k1).2):=by unfold bdP;dsimp only;omega
      exact fun _ _ _ gq kq=>cal0 (φs:= [agg [int ((ix (ix m.states k) (((k1:Int)- 1).toNat)).1),int ((ix (ix m.states k) (((k1:Int)- 1).toNat)).2)],agg [int ((ix (ix m.states k) k1).1),int ((ix (ix m.states k) k1).2)]]) (φ:=int (ordI ((ix (ix m.states k) (((k1:Int)- 1).toNat)).1,(ix (ix m.states k) (((k1:Int)- 1).toNat)).2) ((ix (ix m.states k) k1).1,(ix (ix m.states k) k1).2))) ⟨(gq.1.trans (gif_t2 hgd hgd2)),(gq.2.1.trans (gif_t2 hgd hgd2)),trivial⟩ (sysw.order_ok ((ix (ix m.states k) (((k1:Int)- 1).toNat)).1,(ix (ix m.states k) (((k1:Int)- 1).toNat)).2) ((ix (ix m.states k) k1).1,(ix (ix m.states k) k1).2) (by assumption) (by assumption)) T.ent107 kq
     refine sg2_ (φ:=bl (decide (0≤(ordI ((ix (ix m.states k) (((k1:Int)- 1).toNat)).1,(ix (ix m.states k) (((k1:Int)- 1).toNat)).2) ((ix (ix m.states k) k1).1,(ix (ix m.states k) k1).2))))) rfl rfl rfl rfl (List.mem_of_elem_eq_true rfl) (fun hgd hgd2=> ?_) ?_
     ·have hgd':=hgd
      try simp at hgd'
      have hgd2':=hgd2
      try simp at hgd2'
      exact fun _ _ _ gq kq=>bi (gq.1.trans (gif_t2 hgd hgd2)) rfl b_geq kq
     refine sg_ (φ:=bl ((decide (0<(k1:Int)))&&(decide (0≤(ordI ((ix (ix m.states k) (((k1:Int)- 1).toNat)).1,(ix (ix m.states k) (((k1:Int)- 1).toNat)).2) ((ix (ix m.states k) k1).1,(ix (ix m.states k) k1).2)))))) rfl rfl rfl rfl (List.mem_of_elem_eq_true rfl) (fun hgd=> ?_) ?_
     ·have hgd':=hgd
      try simp at hgd'
      exact fun _ _ _ gq kq=>pk (gq.1.trans (gif_t hgd)) (pk_and (x:= .tmp 69) (gq.1.trans (gif_t hgd)) (gq.2.1.trans (gif_and hgd)) rfl) kq
     refine st_ rfl (fun _ _ _ gq kq=>pk (gq.1.trans rfl) (pk_or (x:= .tmp 66) (gq.1.trans rfl) (gq.2.1.trans rfl) rfl) kq) ?_
     refine pn (nl (th ?_))
     refine cd rfl (fun hc4=> ?_) (fun hc4=> ?_)
     ·skip
      simp only [Bool.or_eq_true,Bool.and_eq_true,decide_eq_true_eq] at hc4
      refine sq (rg (ag (nl (th (rt (rb (rt_ (rt_ (rb (rb (rt_ (rt_ (rb (rt_ ?_))))))))))))))
      have hr0:false=(sysOK m):=by
       unfold sysOK
       rw[all_fail (xs:=m.states) (k:=k) (by omega) ?_];simp
       have hno:∀{p:Prop},(edgeOK m.actions.length m.states.length (ix (ix m.states k) k1)=true→¬p)→p→edgesOK m.actions.length m.states.length (ix m.states k)=false:=fun hh hp=>edges_no1 hc3 (by cases g:edgeOK m.actions.length m.states.length (ix (ix m.states k) k1) with|false=>rfl|true=>exact absurd hp (hh g))
       rcases hc4 with(((h|h)|h)|h)|h
       ·exact hno (fun g=>by have:=edgeOK_iff.1 g;omega) h
       ·exact hno (fun g=>by have:=edgeOK_iff.1 g;omega) h
       ·exact hno (fun g=>by have:=edgeOK_iff.1 g;omega) h
       ·exact hno (fun g=>by have:=edgeOK_iff.1 g;omega) h
       ·have h5:=ordI_ge h.2
        rw[show((k1:Int)- 1).toNat=k1- 1 by omega] at h5
        refine edges_no2 hc3 (by omega) ?_
        cases g:ltP (ix (ix m.states k) (k1- 1)) (ix (ix m.states k) k1) with
        |false=>rfl
        |true=>exact absurd (ltP_iff.1 g) h5
      have hall:∀x0,false=x0→resAV [bl false]=resAV [bl x0]:=by rintro _ rfl;rfl
      exact rE () [.tmp 2] rfl [bl false] ⟨.tmp rfl,trivial⟩ (hall _ hr0) trivial (by first|exact .inr rfl|exact .inl rfl)
     ·skip
      simp only [Bool.or_eq_false_iff,Bool.and_eq_false_iff,decide_eq_false_iff_not] at hc4
      obtain⟨⟨⟨⟨h41,h42⟩,h43⟩,h44⟩,h45⟩:=hc4
      refine sk (eb (th (rg (bi rfl rfl (b_add (by unfold I64;omega)) (mv (nl ?_))))))
      have hN0:(k1+1)≤(ix m.states k).length:=by
       first|omega|simp_all
      have hN1:(∀j,j<(k1+1)→edgeOK m.actions.length m.states.length (ix (ix m.states k) j)=true)∧∀j,j+1<(k1+1)→ltP (ix (ix m.states k) j) (ix (ix m.states k) (j+1))=true:=by
       refine⟨fun j hj=> ?_,fun j hj=> ?_⟩
       ·by_cases e:j=k1
        ·subst e;exact edgeOK_iff.2 ⟨by omega,by omega,by omega,by omega⟩
        ·exact hI1.1 j (by omega)
       ·by_cases e:j+1=k1
        ·subst e
         rcases h45 with h|h
         ·exact absurd (by omega) h
         ·rw[show(((j+1:Nat):Int)- 1).toNat=j by omega] at h
          exact ltP_iff.2 (ordI_lt h)
        ·exact hI1.2 j (by omega)
      exact ln (k1+1) ⟨hN0,hN1⟩ (by first|omega|(dsimp only;omega)) ⟨id,id,id,id,id,id,id,id,id,id,trivial⟩ ⟨⟨rfl,id⟩,trivial⟩
    ·try simp at hc3
     refine ex (xt_ (xt_ (xb (eb (th (rg (bi rfl rfl (b_add (by unfold I64;omega)) (mv (nl ?_)))))))))
     have hN0:(k+1)≤m.states.length:=by
      first|omega|simp_all
     have hN1:(n+((ix m.states k).length:Int))=(sumLen (m.states.take (k+1)):Int)∧(m.states.take (k+1)).all (edgesOK m.actions.length m.states.length)=true∧(n+((ix m.states k).length:Int))≤400000:=by
      refine⟨?_,?_,by omega⟩
      ·rw[take_s (by omega),sumLen_snoc];omega
      ·rw[all_take_succ (by omega),hal,edges_of (fun j hj=>hI1.1 j (by omega)) (fun j hj=>hI1.2 j (by omega))];rfl
     exact ln (⟨k+1,n+((ix m.states k).length:Int)⟩:Nat × Int) ⟨hN0,hN1⟩ (by first|omega|(dsimp only;omega)) ⟨id,id,id,id,id,id,trivial⟩ ⟨⟨rfl,id⟩,trivial⟩
  ·try simp at hc1
   refine ex (xt_ (xt_ (xb (th (sq (rg (ag (nl (th (rt ?_))))))))))
   have hr0:true=(sysOK m):=by
    have hkk:k=m.states.length:=by omega
    rw[hkk,List.take_length] at hal hn
    unfold sysOK
    rw[hal,hc0.1.1]
    simp;omega
   have hall:∀x0,true=x0→resAV [bl true]=resAV [bl x0]:=by rintro _ rfl;rfl
   exact rE () [.tmp 2] rfl [bl true] ⟨.tmp rfl,trivial⟩ (hall _ hr0) trivial (by first|exact .inr rfl|exact .inl rfl)
theorem Few_ok (m:SSys) (most:Int) (hm:most≤1000000):
 Fn0 Tryd.prog 27 [sys m,int most] (bl (fewM m most)):=by
 refine fnI Tryd.func27 rfl rfl (fun w0 F0=> ?_)
 refine fcC (inhS 0 rfl) (fun hS0=> ?_)
 obtain⟨hma0,hms0,hme0⟩:=sys_lens hS0
 refine sq (rg (bx (key:=2) (cs:= [sl 1 strE m.actions,sl 1 edgesE m.states]) rfl fun b2=>(ag (nl (th (sq (rg (fP rfl T.fld55_0 (lP rfl rfl rfl T.one22 (fc (slenI 8 rfl) fun hm8=>(lnF rfl T.sl22 (fP rfl T.fld55_1 (lP rfl rfl rfl T.one53 (fc (slenI 11 rfl) fun hm11=>(lnF rfl T.sl53 (bi rfl rfl (b_add (by unfold I64;omega)) (ag (nl (th (sq (sq (rg (ag (nl (th (bk ?_))))))))))))))))))))))))))
 have hI0_0:((m.actions.length+m.states.length:Nat):Int)=((m.actions.length+m.states.length+sumLen (m.states.take 0):Nat):Int)∧0≤m.states.length:=by
  exact⟨by simp[sumLen],Nat.zero_le _⟩
 refine lp (κ:=Nat × Int) (fun p=> [(1,int most),(2,ptr 2 b2 0),(4,bl false),(5,int p.2),(6,int (p.1:Int))]) (fun p=> [(2,cell b2 [sl 1 strE m.actions,sl 1 edgesE m.states])]) (fun p=>p.2=((m.actions.length+m.states.length+sumLen (m.states.take p.1):Nat):Int)∧p.1≤m.states.length) (fun p=>m.states.length- p.1) ⟨0,((m.actions.length+m.states.length:Nat):Int)⟩ hI0_0 ⟨id,id,id,id,id,trivial⟩ ⟨⟨rfl,id⟩,trivial⟩ ?_
 intro⟨i,n⟩ hG0
 obtain⟨hn,hil⟩:n=((m.actions.length+m.states.length+sumLen (m.states.take i):Nat):Int)∧i≤m.states.length:=hG0
 show Ct _ _ _ _ [(1,int most),(2,ptr 2 b2 0),(4,bl false),(5,int n),(6,int (i:Int))] [(2,cell b2 [sl 1 strE m.actions,sl 1 edgesE m.states])] _
 refine sq (sq (rg (mv (fP rfl T.fld55_1 (lP rfl rfl rfl T.one53 (lnF rfl T.sl53 (bi rfl rfl b_lss (mv ?_))))))))
 apply gAnd (t:=19) (pd:=23) rfl
 rotate_left
 ·intro hg0 fin
  have hg0':=hg0
  try simp at hg0'
  exact gy rfl rfl rfl hg0 (mv (gy rfl rfl rfl hg0 (mv (gy rfl rfl rfl hg0 (bi rfl rfl b_leq (pkT rfl hg0 rfl (drp (X:= [(22,_),(21,_),(20,_)]) ⟨rfl,rfl,rfl,trivial⟩ (fin))))))))
 ·intro hg0 fin
  exact gn rfl rfl rfl hg0 rfl rfl (gn rfl rfl rfl hg0 rfl rfl (gn rfl rfl rfl hg0 rfl rfl (pkF rfl hg0 rfl (drp (X:= [(22,_),(21,_),(20,_)]) ⟨rfl,rfl,rfl,trivial⟩ (fin)))))
 refine nl (th ?_)
 refine cd rfl (fun hc0=> ?_) (fun hc0=> ?_)
 ·try simp at hc0
  refine sk (th (sq (bk (rg (mv (fP rfl T.fld55_1 (lP rfl rfl rfl T.one53 (mv (iF rfl rfl T.sl53 (by omega) (by first|exact gN (by omega)|exact gI (by omega) (by omega)) (lF rfl rfl T.one85 (fc (slenI 31 rfl) fun hm31=>(lnF rfl T.sl85 (bi rfl rfl (b_add (by unfold I64;omega)) (ag (nl (eb (th (rg (mv (bi rfl rfl (b_add (by unfold I64;omega)) (ag (nl ?_))))))))))))))))))))))
  have hN0:(n+((ix m.states i).length:Int))=((m.actions.length+m.states.length+sumLen (m.states.take (i+1)):Nat):Int)∧(i+1)≤m.states.length:=by
   refine⟨?_,by omega⟩
   rw[take_s (by omega),sumLen_snoc];omega
  exact ln (⟨i+1,n+((ix m.states i).length:Int)⟩:Nat × Int) hN0 (by first|omega|(dsimp only;omega)) ⟨id,id,id,id,id,trivial⟩ ⟨⟨rfl,id⟩,trivial⟩
 ·try simp at hc0
  refine ex (xt_ (xt_ (xb (th (sq (rg (mv (mv (bi rfl rfl b_leq (ag (nl (th (rt ?_)))))))))))))
  have hr0:(decide (n≤most))=(fewM m most):=by
   unfold fewM sizeM
   have h1:=sumLen_take m.states i
   by_cases h2:i<m.states.length
   ·rw[decide_eq_false (by omega),decide_eq_false (by omega)]
   ·rw[hn,show i=m.states.length by omega,List.take_length]
  have hall:∀x0,(decide (n≤most))=x0→resAV [bl (decide (n≤most))]=resAV [bl x0]:=by rintro _ rfl;rfl
  exact rE () [.tmp 4] rfl [bl (decide (n≤most))] ⟨.tmp rfl,trivial⟩ (hall _ hr0) trivial (by first|exact .inr rfl|exact .inl rfl)
theorem Copy_ok (m:SSys) (hs:sizeM m≤100000000):
 AL.Fn Tryd.prog 29 [sys m] [] (ι:=Unit) (fun N _=>nsys N m) (fun _=> []):=by
 refine fnI Tryd.func29 rfl rfl (fun w0 F0=> ?_)
 have hsz:=hs;unfold sizeM at hsz
 refine fcC (inhS 0 rfl) (fun hS0=> ?_)
 obtain⟨hma0,hms0,hme0⟩:=sys_lens hS0
 refine sq (rg (bx (key:=1) (cs:= [sl 1 strE m.actions,sl 1 edgesE m.states]) rfl fun b1=>(al (key:=2) T.z55 (ex_cons (ex_cons (ex_nil))) fun b2=>(nl (th (sq (rg (fP rfl T.fld55_0 (lP rfl rfl rfl T.one22 (appendN (enc:=strE) (ys:=m.actions) rfl rfl T.mk22 (by unfold maxL;omega) flat (bd (css:= [(0,_)]) T.st55 (ex_cons (ex_cons (ex_nil))) ⟨rfl,rfl,p1 (φ:=fre w0.heap.size (sl 1 strE m.actions)) rfl,trivial⟩ (al (key:=3) T.z55 (ex_cons (ex_cons (ex_nil))) fun b3=>(sPA (cs':= [fre w0.heap.size (sl 1 strE m.actions),eqv (.slice none 0 0)]) rfl rfl rfl T.agg55 rfl rfl (nl (th (sq (sq (rg (fP rfl T.fld55_1 (lP rfl rfl rfl T.one53 (fc (slenI 11 rfl) fun hm11=>(lnF rfl T.sl53 (mv (nl (th (bk ?_))))))))))))))))))))))))))
 refine nwC 30 85 1 (edgesN w0.heap.size) (kncC 3 1 (osl 30 (.slice none 0 0)) rfl rfl eq_osl ?_)
 have hI0_0:0≤m.states.length:=by
  first|omega|simp
 have hI0_1:([]:List (List (Int × Int)))=m.states.take 0:=by
  rfl
 refine lp (κ:=Nat × Value × (List (List (Int × Int)))) (fun p=> [(2,ptr 2 b2 0),(3,ptr 3 b3 0),(11,sl 1 edgesE m.states),(12,int (m.states.length:Int)),(13,int (p.1:Int))]) (fun p=> [(1,cell b1 [sl 1 strE m.actions,sl 1 edgesE m.states]),(2,cell b2 [eqv (.slice none 0 0),eqv (.slice none 0 0)]),(3,cell b3 [fre w0.heap.size (sl 1 strE m.actions),osl 30 p.2.1]),(30,own p.2.1 85 1 (edgesN w0.heap.size) p.2.2)]) (fun p=>(p.1≤m.states.length)∧(p.2.2=m.states.take p.1)) (fun p=>m.states.length- p.1) ⟨0,(.slice none 0 0),([]:List (List (Int × Int)))⟩ ⟨hI0_0,hI0_1⟩ ⟨id,id,id,id,id,trivial⟩ ⟨⟨rfl,id⟩,⟨rfl,id⟩,⟨rfl,id⟩,⟨rfl,id⟩,trivial⟩ ?_
 intro⟨k,v,acc⟩ hG0
 obtain⟨hk0,hI0⟩:(k≤m.states.length)∧(acc=m.states.take k):=hG0
 show Ct _ _ _ _ [(2,ptr 2 b2 0),(3,ptr 3 b3 0),(11,sl 1 edgesE m.states),(12,int (m.states.length:Int)),(13,int (k:Int))] [(1,cell b1 [sl 1 strE m.actions,sl 1 edgesE m.states]),(2,cell b2 [eqv (.slice none 0 0),eqv (.slice none 0 0)]),(3,cell b3 [fre w0.heap.size (sl 1 strE m.actions),osl 30 v]),(30,own v 85 1 (edgesN w0.heap.size) acc)] _
 have hlen:acc.length≤k:=by rw[hI0];simp;omega
 refine sq (rg (bi rfl rfl b_lss (nl (th (sq ?_)))))
 refine cd rfl (fun hc0=> ?_) (fun hc0=> ?_)
 ·try simp at hc0
  have hb2:=sumLen_ix hc0
  refine sk (th (sq (bk (sq (rg (iF rfl rfl T.sl53 (by omega) (by first|exact gN (by omega)|exact gI (by omega) (by omega)) (lF rfl rfl T.one85 (ag (nl (th (dr (nh:=5) [0,1,0,4,12,31,63,127] T.mixed (by kernel_rfl) ?_)))))))))))
  refine st_ rfl (fun _ _ _ gq kq=>fP (gq.1.trans rfl) T.fld55_1 kq) ?_
  refine st_ rfl (fun _ _ _ gq kq=>lP (gq.1.trans rfl) rfl rfl T.one53 kq) ?_
  refine st_ rfl (fun _ _ _ gq kq=>mv' (gq.1.trans rfl) kq) ?_
  refine st_ rfl (fun _ _ _ gq kq=>appendN (enc:=pairE) (ys:=ix m.states k) rfl (gq.1.trans rfl) T.mk85 (by unfold maxL;omega) flat kq) ?_
  refine st_ rfl (fun _ _ _ gq kq=>bsE (enc:=edgesN w0.heap.size) (xs:= [(ix m.states k)]) (css:= [[fre w0.heap.size (sl 2 pairE (ix m.states k))]]) T.mk53 ⟨rfl,rfl,p1 (φ:=fre w0.heap.size (sl 2 pairE (ix m.states k))) (by exact(gq.1.trans rfl)),trivial⟩ rfl rfl rfl rfl kq) ?_
  refine pn (ap (key:=30) (zs:= [(ix m.states k)]) osl_eq rfl rfl rfl T.mk53 (by unfold maxL at*;simp;omega) (by unfold maxL at*;simp;omega) fun v22=>(fP rfl T.fld55_1 (storePO rfl rfl rfl rfl T.one53 rfl (nl (eb (th (rg (bi rfl rfl (b_add (by unfold I64;omega)) (mv (nl ?_))))))))))
  have hN0:(k+1)≤m.states.length:=by
   first|omega|simp_all
  have hN1:(acc++ [(ix m.states k)])=m.states.take (k+1):=by
   rw[hI0,take_s hc0]
  exact ln (⟨k+1,v22,acc++ [(ix m.states k)]⟩:Nat × Value × (List (List (Int × Int)))) ⟨hN0,hN1⟩ (by first|omega|(dsimp only;omega)) ⟨id,id,id,id,id,trivial⟩ ⟨⟨rfl,id⟩,⟨rfl,id⟩,⟨rfl,id⟩,⟨rfl,id⟩,trivial⟩
 ·try simp at hc0
  refine ex (xt_ (xt_ (xb (th (sq (rg (fzcN edgesE 3 30 1 noM (fun _=>rfl) rfl rfl rfl (by decide) (lPA rfl rfl T.agg55 rfl (sPA (cs':= [fre w0.heap.size (sl 1 strE m.actions),fre w0.heap.size (sl 1 edgesE acc)]) rfl rfl rfl T.agg55 rfl rfl (nl (th (rt ?_))))))))))))
  have hr0:acc=m.states:=by
   rw[hI0,show k=m.states.length by omega,List.take_length]
  have hall:∀x0,acc=x0→resAV [agg [fre w0.heap.size (sl 1 strE m.actions),fre w0.heap.size (sl 1 edgesE acc)]]=resAV [agg [fre w0.heap.size (sl 1 strE m.actions),fre w0.heap.size (sl 1 edgesE x0)]]:=by rintro _ rfl;rfl
  exact rE () [.cell 2 55] rfl [agg [fre w0.heap.size (sl 1 strE m.actions),fre w0.heap.size (sl 1 edgesE acc)]] ⟨.agg rfl rfl T.agg55 rfl rfl,trivial⟩ (hall _ hr0) trivial (by first|exact .inr rfl|exact .inl rfl)
end sysw
end Go.Proofs.YtolpjmllmlahfaaDoor
