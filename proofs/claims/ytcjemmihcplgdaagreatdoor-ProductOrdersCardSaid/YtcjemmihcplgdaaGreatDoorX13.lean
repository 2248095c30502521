/- The walks of the functions and the plain laws. Own texts of this claim, packed: ZdsortE, Zdwit. -/
import Derived.Test.YtcjemmihcplgdaaGreatDoorX04
import Derived.Test.YtcjemmihcplgdaaGreatDoorX12
import Derived.Test.YtcjemmihcplgdaaGreatDoorX09
import Derived.Test.YtcjemmihcplgdaaGreatDoorX11
import Derived.Test.YtcjemmihcplgdaaGreatDoorX08
set_option linter.all false
namespace Go.Proofs.YtcjemmihcplgdaaGreatDoor
open AL Go
set_option maxRecDepth 100000
section
open Go.Sort
namespace sortE
def KF:Go.Shelf.Ren:=⟨fun|6=>97|15=>147|14=>146|28=>184|29=>185|20=>176|21=>177|22=>178|23=>179|24=>180|25=>181|26=>182|27=>183|46=>221|47=>222|48=>223|49=>224|50=>225|57=>238|n=>n,fun|22=>103|24=>105|25=>128|3=>3|39=>188|0=>0|53=>222|55=>224|4=>4|46=>216|45=>215|50=>93|5=>5|9=>9|66=>258|70=>262|76=>281|77=>282|n=>n,fun n=>n⟩
theorem UW:SlLaysF0.n6 Tryz.prog KF where
 mixed:=by kernel_rfl
 f6:=⟨"slices.SortFunc[[]makeweight/api.Edge,makeweight/api.Edge]",by decide,Tryz.func97.trans (congrArg some kR)⟩
 f14:=⟨"slices.pdqsortCmpFunc[makeweight/api.Edge]",by decide,Tryz.func146.trans (congrArg some kR)⟩
 f15:=Tryz.func147.trans (congrArg some kR)
 f20:=⟨"slices.insertionSortCmpFunc[makeweight/api.Edge]",by decide,Tryz.func176.trans (congrArg some kR)⟩
 f21:=⟨"slices.heapSortCmpFunc[makeweight/api.Edge]",by decide,Tryz.func177.trans (congrArg some kR)⟩
 f22:=⟨"slices.breakPatternsCmpFunc[makeweight/api.Edge]",by decide,Tryz.func178.trans (congrArg some kR)⟩
 f23:=⟨"slices.choosePivotCmpFunc[makeweight/api.Edge]",by decide,Tryz.func179.trans (congrArg some kR)⟩
 f24:=⟨"slices.reverseRangeCmpFunc[makeweight/api.Edge]",by decide,Tryz.func180.trans (congrArg some kR)⟩
 f25:=⟨"slices.partialInsertionSortCmpFunc[makeweight/api.Edge]",by decide,Tryz.func181.trans (congrArg some kR)⟩
 f26:=⟨"slices.partitionEqualCmpFunc[makeweight/api.Edge]",by decide,Tryz.func182.trans (congrArg some kR)⟩
 f27:=⟨"slices.partitionCmpFunc[makeweight/api.Edge]",by decide,Tryz.func183.trans (congrArg some kR)⟩
 f28:=Tryz.func184.trans (congrArg some kR)
 f29:=Tryz.func185.trans (congrArg some kR)
 f46:=⟨"slices.siftDownCmpFunc[makeweight/api.Edge]",by decide,Tryz.func221.trans (congrArg some kR)⟩
 f47:=Tryz.func222.trans (congrArg some kR)
 f48:=Tryz.func223.trans (congrArg some kR)
 f49:=⟨"slices.medianAdjacentCmpFunc[makeweight/api.Edge]",by decide,Tryz.func224.trans (congrArg some kR)⟩
 f50:=⟨"slices.medianCmpFunc[makeweight/api.Edge]",by decide,Tryz.func225.trans (congrArg some kR)⟩
 f57:=⟨"slices.order2CmpFunc[makeweight/api.Edge]",by decide,Tryz.func238.trans (congrArg some kR)⟩
 t0:=Tryz.underlying0
 a0:=Tryz.isAgg0
 z0:=Tryz.sizeOf0
 v0:=Tryz.zeroValue0
 t3:=Tryz.underlying3
 a3:=Tryz.isAgg3
 z3:=Tryz.sizeOf3
 v3:=Tryz.zeroValue3
 t4:=Tryz.underlying4
 a4:=Tryz.isAgg4
 z4:=Tryz.sizeOf4
 v4:=Tryz.zeroValue4
 t5:=Tryz.underlying5
 a5:=Tryz.isAgg5
 z5:=Tryz.sizeOf5
 v5:=Tryz.zeroValue5
 t9:=Tryz.underlying9
 a9:=Tryz.isAgg9
 z9:=Tryz.sizeOf9
 v9:=Tryz.zeroValue9
 t22:=Tryz.underlying103
 a22:=Tryz.isAgg103
 z22:=Tryz.sizeOf103
 v22:=Tryz.zeroValue103
 t25:=Tryz.underlying128
 a25:=Tryz.isAgg128
 z25:=Tryz.sizeOf128
 v25:=Tryz.zeroValue128
 t39:=Tryz.underlying188
 a39:=Tryz.isAgg188
 z39:=Tryz.sizeOf188
 v39:=Tryz.zeroValue188
 t45:=Tryz.underlying215
 a45:=Tryz.isAgg215
 z45:=Tryz.sizeOf215
 v45:=Tryz.zeroValue215
 t46:=Tryz.underlying216
 a46:=Tryz.isAgg216
 z46:=Tryz.sizeOf216
 v46:=Tryz.zeroValue216
 t50:=Tryz.underlying93
 a50:=Tryz.isAgg93
 z50:=Tryz.sizeOf93
 v50:=Tryz.zeroValue93
 t53:=Tryz.underlying222
 a53:=Tryz.isAgg222
 z53:=Tryz.sizeOf222
 v53:=Tryz.zeroValue222
 t55:=Tryz.underlying224
 a55:=Tryz.isAgg224
 z55:=Tryz.sizeOf224
 v55:=Tryz.zeroValue224
 t66:=Tryz.underlying258
 a66:=Tryz.isAgg258
 z66:=Tryz.sizeOf258
 v66:=Tryz.zeroValue258
 t70:=Tryz.underlying262
 a70:=Tryz.isAgg262
 z70:=Tryz.sizeOf262
 v70:=Tryz.zeroValue262
 t76:=Tryz.underlying281
 a76:=Tryz.isAgg281
 z76:=Tryz.sizeOf281
 v76:=Tryz.zeroValue281
 t77:=Tryz.underlying282
 a77:=Tryz.isAgg282
 z77:=Tryz.sizeOf282
 v77:=Tryz.zeroValue282
def Iz:Go.Shelf.Ren:=⟨fun|6=>143|15=>147|14=>174|28=>184|29=>185|20=>212|21=>213|22=>214|23=>215|24=>216|25=>217|26=>218|27=>219|46=>235|47=>222|48=>223|49=>236|50=>237|57=>242|n=>n,fun|22=>67|24=>84|25=>185|3=>3|39=>188|0=>0|53=>222|55=>224|4=>4|46=>216|45=>215|50=>93|5=>5|9=>9|66=>258|70=>262|76=>281|77=>282|n=>n,fun n=>n⟩
theorem SC:SlLaysF0.n6 Tryz.prog Iz where
 mixed:=by kernel_rfl
 f6:=⟨"slices.SortFunc[[][2]int,[2]int]",by decide,Tryz.func143.trans (congrArg some kR)⟩
 f14:=⟨"slices.pdqsortCmpFunc[[2]int]",by decide,Tryz.func174.trans (congrArg some kR)⟩
 f15:=Tryz.func147.trans (congrArg some kR)
 f20:=⟨"slices.insertionSortCmpFunc[[2]int]",by decide,Tryz.func212.trans (congrArg some kR)⟩
 f21:=⟨"slices.heapSortCmpFunc[[2]int]",by decide,Tryz.func213.trans (congrArg some kR)⟩
 f22:=⟨"slices.breakPatternsCmpFunc[[2]int]",by decide,Tryz.func214.trans (congrArg some kR)⟩
 f23:=⟨"slices.choosePivotCmpFunc[[2]int]",by decide,Tryz.func215.trans (congrArg some kR)⟩
 f24:=⟨"slices.reverseRangeCmpFunc[[2]int]",by decide,Tryz.func216.trans (congrArg some kR)⟩
 f25:=⟨"slices.partialInsertionSortCmpFunc[[2]int]",by decide,Tryz.func217.trans (congrArg some kR)⟩
 f26:=⟨"slices.partitionEqualCmpFunc[[2]int]",by decide,Tryz.func218.trans (congrArg some kR)⟩
 f27:=⟨"slices.partitionCmpFunc[[2]int]",by decide,Tryz.func219.trans (congrArg some kR)⟩
 f28:=Tryz.func184.trans (congrArg some kR)
 f29:=Tryz.func185.trans (congrArg some kR)
 f46:=⟨"slices.siftDownCmpFunc[[2]int]",by decide,Tryz.func235.trans (congrArg some kR)⟩
 f47:=Tryz.func222.trans (congrArg some kR)
 f48:=Tryz.func223.trans (congrArg some kR)
 f49:=⟨"slices.medianAdjacentCmpFunc[[2]int]",by decide,Tryz.func236.trans (congrArg some kR)⟩
 f50:=⟨"slices.medianCmpFunc[[2]int]",by decide,Tryz.func237.trans (congrArg some kR)⟩
 f57:=⟨"slices.order2CmpFunc[[2]int]",by decide,Tryz.func242.trans (congrArg some kR)⟩
 t0:=Tryz.underlying0
 a0:=Tryz.isAgg0
 z0:=Tryz.sizeOf0
 v0:=Tryz.zeroValue0
 t3:=Tryz.underlying3
 a3:=Tryz.isAgg3
 z3:=Tryz.sizeOf3
 v3:=Tryz.zeroValue3
 t4:=Tryz.underlying4
 a4:=Tryz.isAgg4
 z4:=Tryz.sizeOf4
 v4:=Tryz.zeroValue4
 t5:=Tryz.underlying5
 a5:=Tryz.isAgg5
 z5:=Tryz.sizeOf5
 v5:=Tryz.zeroValue5
 t9:=Tryz.underlying9
 a9:=Tryz.isAgg9
 z9:=Tryz.sizeOf9
 v9:=Tryz.zeroValue9
 t22:=Tryz.underlying67
 a22:=Tryz.isAgg67
 z22:=Tryz.sizeOf67
 v22:=Tryz.zeroValue67
 t25:=Tryz.underlying185
 a25:=Tryz.isAgg185
 z25:=Tryz.sizeOf185
 v25:=Tryz.zeroValue185
 t39:=Tryz.underlying188
 a39:=Tryz.isAgg188
 z39:=Tryz.sizeOf188
 v39:=Tryz.zeroValue188
 t45:=Tryz.underlying215
 a45:=Tryz.isAgg215
 z45:=Tryz.sizeOf215
 v45:=Tryz.zeroValue215
 t46:=Tryz.underlying216
 a46:=Tryz.isAgg216
 z46:=Tryz.sizeOf216
 v46:=Tryz.zeroValue216
 t50:=Tryz.underlying93
 a50:=Tryz.isAgg93
 z50:=Tryz.sizeOf93
 v50:=Tryz.zeroValue93
 t53:=Tryz.underlying222
 a53:=Tryz.isAgg222
 z53:=Tryz.sizeOf222
 v53:=Tryz.zeroValue222
 t55:=Tryz.underlying224
 a55:=Tryz.isAgg224
 z55:=Tryz.sizeOf224
 v55:=Tryz.zeroValue224
 t66:=Tryz.underlying258
 a66:=Tryz.isAgg258
 z66:=Tryz.sizeOf258
 v66:=Tryz.zeroValue258
 t70:=Tryz.underlying262
 a70:=Tryz.isAgg262
 z70:=Tryz.sizeOf262
 v70:=Tryz.zeroValue262
 t76:=Tryz.underlying281
 a76:=Tryz.isAgg281
 z76:=Tryz.sizeOf281
 v76:=Tryz.zeroValue281
 t77:=Tryz.underlying282
 a77:=Tryz.isAgg282
 z77:=Tryz.sizeOf282
 v77:=Tryz.zeroValue282
def cfE (p q:BP):Int:=if p.1.1=q.1.1 then p.1.2- q.1.2 else p.1.1- q.1.1
theorem SD (p q:BP):decide (cfE p q<0)=lexB p.1 q.1:=by
 obtain⟨⟨p1,p2⟩,hp⟩:=p
 obtain⟨⟨q1,q2⟩,hq⟩:=q
 unfold cfE lexB
 dsimp only
 split
 ·next h=>subst h;simp;omega
 ·next h=>simp[h];omega
theorem SE (p q:BP) (W:World):Calls Tryz.prog 128 #[.agg #[.int .i64 p.1.1,.int .i64 p.1.2],.agg #[.int .i64 q.1.1,.int .i64 q.1.2]] W fun en W'=>en= .returned (.int .i64 (cfE p q))∧∃n os,W'=grow (W.drewN n) os:=by
 obtain⟨⟨p1,p2⟩,hp⟩:=p
 obtain⟨⟨q1,q2⟩,hq⟩:=q
 unfold bdP at hp hq
 dsimp only at hp hq ⊢
 go_enter Tryz.func128,Tryz.ntmps128
 go_wp2
 ·rename_i h
  go_ret
  refine⟨?_,0,#[Obj.cells #[Value.int IntKind.i64 p1,Value.int IntKind.i64 p2] 105,Obj.cells #[Value.int IntKind.i64 q1,Value.int IntKind.i64 q2] 105],rfl⟩
  unfold cfE;rw[if_neg (by simpa using h)];rfl
 ·rename_i h
  go_ret
  refine⟨?_,0,#[Obj.cells #[Value.int IntKind.i64 p1,Value.int IntKind.i64 p2] 105,Obj.cells #[Value.int IntKind.i64 q1,Value.int IntKind.i64 q2] 105],rfl⟩
  unfold cfE;rw[if_pos (by simpa using h)];rfl
theorem IA (v:Value) (xs:List (Int × Int)) (hb:∀p∈xs,bdP p):AL.Fn Tryz.prog 97 [osl 5 v,eqv (.func (.func 128) #[] #[])] [(5,own v 105 2 pE xs)] (ι:=Unit) (fun _ _=>tup []) (fun _=> [(5,own v 105 2 pE (gG xs))]):=
 Jl UW rfl (fT kR) (aG kR) cfE SD SE v xs hb
def cfI (x y:Int):Int:=if x<y then-1 else if y<x then 1 else 0
def cfL (p1 p2 q1 q2:Int):Int:=if cfI p1 q1=0 then cfI p2 q2 else cfI p1 q1
def cfP (p q:BP):Int:=cfL p.1.1 p.1.2 q.1.1 q.1.2
theorem SF (p q:BP):decide (cfP p q<0)=lexB p.1 q.1:=by
 obtain⟨⟨p1,p2⟩,hp⟩:=p
 obtain⟨⟨q1,q2⟩,hq⟩:=q
 unfold cfP cfL cfI lexB
 dsimp only
 by_cases h1:p1<q1
 ·simp[h1]
 ·by_cases h2:q1<p1
  ·simp[h1,h2];omega
  ·have h3:p1=q1:=by omega
   subst h3
   by_cases g1:p2<q2
   ·simp[g1]
   ·by_cases g2:q2<p2<;>simp[g1,g2]
theorem Jm (x y:Int) (W:World):Calls Tryz.prog 175 #[.int .i64 x,.int .i64 y] W fun en W'=>en= .returned (.int .i64 (cfI x y))∧W'=W:=by
 go_enter Tryz.func175,Tryz.ntmps175
 go_wp2
 all_goals go_ret
 all_goals refine⟨?_,rfl⟩
 all_goals simp_all [cfI]
 all_goals try omega
theorem SG (p1 p2 q1 q2:Int) (W:World) (b c:Nat) (h1:W.cell? ⟨b,0,none⟩=some (.int .i64 p1)) (h2:W.cell? ⟨b,1,none⟩=some (.int .i64 p2)) (h3:W.cell? ⟨c,0,none⟩=some (.int .i64 q1)) (h4:W.cell? ⟨c,1,none⟩=some (.int .i64 q2)):
 Calls Tryz.prog 145 #[.slice (some ⟨b,0,none⟩) 2 2,.slice (some ⟨c,0,none⟩) 2 2] W fun en W'=>en= .returned (.int .i64 (cfL p1 p2 q1 q2))∧W'=W:=by
 unfold cfL
 generalize hr:(if cfI p1 q1=0 then cfI p2 q2 else cfI p1 q1)=r
 generalize hu:cfI p1 q1=u at hr
 generalize hv:cfI p2 q2=v at hr
 go_enter Tryz.func145,Tryz.ntmps145
 go_wp2
 refine wp_loop_rounds 3 ?_
 rw[rounds_succ]
 go_wp2_with (first|(go_at_call 175;refine(Jm _ _ _).mono ?_;rintro e w' ⟨rfl,rfl⟩;rw[hu]))
 ·rename_i h
  go_ret;refine⟨?_,rfl⟩;rw[←hr,if_neg (by simpa using h)];rfl
 ·rename_i h
  rw[rounds_succ]
  go_wp2_with (first|(go_at_call 175;refine(Jm _ _ _).mono ?_;rintro e w' ⟨rfl,rfl⟩;rw[hv]))
  ·go_ret;refine⟨?_,rfl⟩;rw[←hr,if_pos (by simpa using h)];rfl
  ·rename_i h2
   rw[rounds_succ]
   go_wp2
   go_ret;refine⟨?_,rfl⟩;rw[←hr,if_pos (by simpa using h)]
   have:v=0:=by simpa using h2
   rw[this];rfl
theorem SH (p q:BP) (W:World):Calls Tryz.prog 144 #[.agg #[.int .i64 p.1.1,.int .i64 p.1.2],.agg #[.int .i64 q.1.1,.int .i64 q.1.2]] W fun en W'=>en= .returned (.int .i64 (cfP p q))∧∃n os,W'=grow (W.drewN n) os:=by
 obtain⟨⟨p1,p2⟩,hp⟩:=p
 obtain⟨⟨q1,q2⟩,hq⟩:=q
 show Calls Tryz.prog 144 #[.agg #[.int .i64 p1,.int .i64 p2],.agg #[.int .i64 q1,.int .i64 q2]] W fun en W'=>en= .returned (.int .i64 (cfL p1 p2 q1 q2))∧∃n os,W'=grow (W.drewN n) os
 have mixed:Tryz.prog.follows .mixedOrders=true:=by kernel_rfl
 go_enter Tryz.func144,Tryz.ntmps144
 go_wp2
 generalize hW:(W.alloc (Obj.cells #[Value.int IntKind.i64 p1,Value.int IntKind.i64 p2] 84)).alloc (Obj.cells #[Value.int IntKind.i64 q1,Value.int IntKind.i64 q2] 84)=W2
 have g1:∀n os,(grow (W2.drewN n) os).cell? ⟨W.heap.size,0,none⟩=some (.int .i64 p1):=cell_grown (by rw[←hW];simp;omega) (by rw[←hW];simp)
 have g2:∀n os,(grow (W2.drewN n) os).cell? ⟨W.heap.size,1,none⟩=some (.int .i64 p2):=cell_grown (by rw[←hW];simp;omega) (by rw[←hW];simp)
 have g3:∀n os,(grow (W2.drewN n) os).cell? ⟨W.heap.size+1,0,none⟩=some (.int .i64 q1):=cell_grown (by rw[←hW];simp) (by rw[←hW];simp)
 have g4:∀n os,(grow (W2.drewN n) os).cell? ⟨W.heap.size+1,1,none⟩=some (.int .i64 q2):=cell_grown (by rw[←hW];simp) (by rw[←hW];simp)
 go_quiet_grown (first|(go_at_call 145;refine Calls.grown_of ((SG p1 p2 q1 q2 _ _ _ (g1 _ _) (g2 _ _) (g3 _ _) (g4 _ _)).mono fun _ _ h=>⟨h.1,0,#[],by rw[h.2,grow_empty];rfl⟩)))
 go_wp2
 go_ret
 refine⟨rfl,nq,#[Obj.cells #[Value.int IntKind.i64 p1,Value.int IntKind.i64 p2] 84,Obj.cells #[Value.int IntKind.i64 q1,Value.int IntKind.i64 q2] 84]++osq,?_⟩
 rw[←hW]
 show grow (grow (W.drewN nq) #[_,_]) osq=_
 rw[grow_grow]
theorem IB (v:Value) (xs:List (Int × Int)) (hb:∀p∈xs,bdP p):AL.Fn Tryz.prog 143 [osl 5 v,eqv (.func (.func 144) #[] #[])] [(5,own v 84 2 pE xs)] (ι:=Unit) (fun _ _=>tup []) (fun _=> [(5,own v 84 2 pE (gG xs))]):=
 Jl SC rfl (fT kR) (aG kR) cfP SF SH v xs hb
end sortE
end
section
open ref01 ref03 ref04 ref06 prog prog2 prog3 prog4 prog5 prog6 prog13 prog15 starts search Part Rungs LeftM TrimM RoundM BisM BisM5 WalkM StepM WitM refw judg
def gE:List (Int × Int)→List AV:=fun l=> [sl 2 pE l]
def kC (N:Nat):List (Int × Int)→List AV:=fun l=> [fre N (sl 2 pE l)]
instance (l:List (Int × Int)):OneAll (gE l):=inferInstanceAs (OneAll [sl 2 pE l])
instance (N:Nat) (l:List (Int × Int)):OneAll (kC N l):=inferInstanceAs (OneAll [fre N (sl 2 pE l)])
abbrev sys (m:aI):AV:=agg [strs m.aC,sl 1 gE m.sT]
abbrev UX (N:Nat) (m:aI):AV:=agg [fre N (strs m.aC),fre N (sl 1 gE m.sT)]
instance:FlatE pE:=Wo (f:=fun p:Int × Int=> .int .i64 p.1) (g:=fun p=> .int .i64 p.2)
def wD (x:Int):AV:=int x
def mV (T:SS) (k:Nat):List (List Int):=(mT T).take k++List.replicate (T.sT.length- k) []
theorem Px {T:SS} {k:Nat} (h:k≤T.sT.length):(mV T k).length=T.sT.length:=by simp[mV,mT];omega
theorem MS (T:SS):List.replicate T.sT.length []=mV T 0:=by simp[mV]
theorem Py {T:SS} {k:Nat} (h:k=T.sT.length):mV T k=mT T:=by
 subst h;unfold mV
 rw[Nat.sub_self,List.replicate_zero,List.append_nil,List.take_of_length_le (by simp[mT])]
theorem MT {T:SS} {k:Nat} (h:k<T.sT.length):(mV T k).set k [ix (ix T.sT k).aP 0]=mV T (k+1):=by
 have hl:(mT T).length=T.sT.length:=by simp[mT]
 have e:ix (mT T) k= [ix (ix T.sT k).aP 0]:=by unfold mT;rw[TurnM.Dp h]
 unfold mV
 rw[bL O,e,List.set_append_right _ _ (by simp;omega),List.append_assoc]
 congr 1
 have:T.sT.length- k=(T.sT.length- (k+1))+1:=by omega
 rw[this,List.replicate_succ,show k- ((mT T).take k).length=0 by simp;omega];rfl
namespace T
theorem GP:pL Tryz.prog 165 162 3 dL fB:=Ep Tryz.underlying165 Tryz.underlying162 kR (by decide+kernel) kR kR ⟨rfl,rfl,by kernel_rfl,by kernel_rfl⟩ ⟨rfl,rfl,by kernel_rfl,by kernel_rfl⟩ kR kR
theorem Xr:∀w F,∃u,(zeroValue 3).run Tryz.prog w= .ok u w∧(wD 0).p w F u:=AA (v:= .int .i64 0) kR _ (fun _ _=>Dg)
theorem z43:dM Tryz.prog 43 [.slice none 0 0,.slice none 0 0]:=cC kR
theorem Ww:eG Tryz.prog 108 36 1 24 [.slice none 0 0]:=fU kR kR
theorem Xs:dM Tryz.prog 108 [.slice none 0 0]:=cC kR
theorem vG:dF Tryz.prog 108:=dH kR
theorem CK:IsSlice Tryz.prog 108 36 1:=dW kR
theorem yA:IsSlice Tryz.prog 95 162 2:=dW kR
theorem tG:fH Tryz.prog 162 2:=fT kR
theorem UY:dM Tryz.prog 162 [.int .i64 0,.int .i64 0]:=cC kR
theorem wE:cW Tryz.prog 162 0 0:=cB kR
theorem Bj:cW Tryz.prog 162 1 1:=cB kR
theorem UZ:Ent Tryz.prog 127:=aG kR
theorem Xt:dM Tryz.prog 165 [.map none]:=cC kR
theorem GQ:dF Tryz.prog 165:=dH kR
theorem z95:dM Tryz.prog 95 [.slice none 0 0]:=cC kR
theorem wF:dF Tryz.prog 95:=dH kR
theorem uO:fW Tryz.prog 43 [(0,1),(1,1)] [.slice none 0 0,.slice none 0 0]:=fI kR kR
theorem cD:fH Tryz.prog 43 2:=fT kR
theorem Xu:dM Tryz.prog 103 [.slice none 0 0]:=cC kR
theorem iL:dF Tryz.prog 103:=dH kR
theorem Rl:fW Tryz.prog 105 [(0,1),(1,1)] [.int .i64 0,.int .i64 0]:=fI kR kR
theorem CL:eG Tryz.prog 103 105 2 16 [.int .i64 0,.int .i64 0]:=fU kR kR
theorem Wx:Ent Tryz.prog 97:=aG kR
theorem dS:cW Tryz.prog 43 1 1:=cB kR
theorem gH:dF Tryz.prog 41:=dH kR
theorem KG:eG Tryz.prog 41 103 1 24 [.slice none 0 0]:=fU kR kR
end T
namespace wit
theorem CM (s:SS) (hT:oK s) (want:List (Int × Int)) (hw:jF s want):
 AL.Fn Tryz.prog 71 [spec s,sl 2 pE want] [] (ι:= { m:aI//lX s want m }) (fun N i=>UX N i.1) (fun _=> []):=by
 refine fnI Tryz.func71 rfl rfl (fun w0 F0=> ?_)
 have hf0:=hT.few0;have hf1:=hT.few1;have hn8:=hT.n8;have hwl:=hw.few
 refine fcC (bO 0 J) (fun hS0=> ?_)
 obtain⟨hsa0,hss0,hse0⟩:=sLn hS0
 refine fcC (aL 1 J) (fun hm1=> ?_)
 refine sq (rg (bx (key:=2) (cs:= [sl 1 rE_ s.aC,sl 2 sE s.sT]) J fun b2=>(al (key:=4) T.z43 (eC (eC eZ)) fun b4=>(nl (th (sq (rg (fP J T.aY (lP J J J T.bI (fc (aL 23 J) fun hm23=>(lnF J T.bU (mk (key:=25) (m:=s.sT.length) (enc:=cF) (y:=(.slice none 0 0:Value)) J J T.Ww (eC eZ) mL mL fun v25=>(al (key:=5) T.Xs (eC eZ) fun b5=>(bY J J J J T.vG J (nl (th (sq (sq (rg (nbB 251 s.sT.length 3 1 nE (fP J T.aY (lP J J J T.bI (lnF J T.bU (mv (nl (th (bk ?_)))))))))))))))))))))))))))
 have hI0_0:0≤s.sT.length:=by
  first|omega|simp
 have hI0_1:(List.replicate s.sT.length (.slice none 0 0:Value)).length=s.sT.length∧(List.replicate s.sT.length [])=mV s 0:=by
  exact⟨by simp,MS s⟩
 refine lp (κ:=Nat × (List Value) × (List (List Int))) (fun p=> [(1,sl 2 pE want),(2,ptr 2 b2 0),(4,ptr 4 b4 0),(5,ptr 5 b5 0),(27,sl 2 sE s.sT),(28,int (s.sT.length:Int)),(29,int (p.1:Int))]) (fun p=> [(2,cell b2 [sl 1 rE_ s.aC,sl 2 sE s.sT]),(4,cell b4 [eqv (.slice none 0 0),eqv (.slice none 0 0)]),(5,cell b5 [osl 25 v25]),(25,own v25 36 1 cF p.2.1),(251,aW p.2.1 3 1 nE p.2.2 none)]) (fun p=>(p.1≤s.sT.length)∧(p.2.1.length=s.sT.length∧p.2.2=mV s p.1)) (fun p=>s.sT.length- p.1) ⟨0,List.replicate s.sT.length (.slice none 0 0:Value),List.replicate s.sT.length []⟩ ⟨hI0_0,hI0_1⟩ ⟨id,id,id,id,id,id,id,tV⟩ ⟨rI,rI,rI,rI,rI,tV⟩ ?_
 intro⟨k,us,xss⟩ hG0
 obtain⟨hk0,⟨hul,hxs⟩⟩:(k≤s.sT.length)∧(us.length=s.sT.length∧xss=mV s k):=hG0
 show Ct _ _ _ _ [(1,sl 2 pE want),(2,ptr 2 b2 0),(4,ptr 4 b4 0),(5,ptr 5 b5 0),(27,sl 2 sE s.sT),(28,int (s.sT.length:Int)),(29,int (k:Int))] [(2,cell b2 [sl 1 rE_ s.aC,sl 2 sE s.sT]),(4,cell b4 [eqv (.slice none 0 0),eqv (.slice none 0 0)]),(5,cell b5 [osl 25 v25]),(25,own v25 36 1 cF us),(251,aW us 3 1 nE xss none)] _
 have hxl:xss.length=s.sT.length:=by rw[hxs];exact Px O
 refine sq (rg (bi J J aN (nl (th (sq ?_)))))
 refine cd J (fun hc0=> ?_) (fun hc0=> ?_)
 ·try simp at hc0
  have hne:0<(ix s.sT k).aP.length:=hw.ne k O
  refine sk (th (sq (bk (sq (rg (mv (iF J J T.bU O gB (lFA J T.cP (Nat.le_of_ble_eq_true J) (al (key:=7) T.z81 (eC (eC eZ)) fun b7=>(ag (sPA (cs':= [sl 1 nE (ix s.sT k).aP,sl 1 nE (ix s.sT k).next]) J J J T.cP J J (nl (th (AE 251 99 k J J (by decide) (gK O) (gK O) ?_))))))))))))))
  refine drH (nh:=9) [0,0,0,4,12,28,60,127,255] [(none,[5]),(none,[]),(none,[]),(none,[7]),(none,[]),(none,[]),(some 40,[]),(none,[25]),(some 25,[25])] T.mixed kR kR ?_
  refine stv (d:=34) (fun β0=>osl 25 v25) [5] J bH (fun β0 _ _ _ _ gq gh kq=>lP (gq.1.trans J) (gh.1.trans J) J T.vG kq) ?_
  refine stv (d:=35) (fun β0=>int (k:Int)) [] J bH (fun β0 _ _ _ _ gq gh kq=>mv' (gq.1.trans J) kq) ?_
  refine stv (d:=36) (fun β0=>ptr 7 b7 0) [] J bH (fun β0 _ _ _ _ gq gh kq=>fP (gq.1.trans J) T.cM kq) ?_
  refine stv (d:=37) (fun β0=>sl 1 nE (ix s.sT k).aP) [7] J bH (fun β0 _ _ _ _ gq gh kq=>lP (gq.1.trans J) (gh.1.trans J) J T.aV kq) ?_
  refine stv (d:=38) (fun β0=>fp [int (ix (ix s.sT k).aP 0)]) [] J bH (fun β0 _ _ _ _ gq gh kq=>iF (gq.1.trans J) J T.aM O (gI O O) kq) ?_
  refine stv (d:=39) (fun β0=>int (ix (ix s.sT k).aP 0)) [] J bH (fun β0 _ _ _ _ gq gh kq=>lF (gq.1.trans J) J T.aF kq) ?_
  refine stc (d:=40) (e:=3) (n:=1) (enc:=nE) (xs:= [(ix (ix s.sT k).aP 0)]) 40 [] rfl (fun β0 _ _ _ _ gq gh kq=>bsO 40 (enc:=nE) (xs:= [(ix (ix s.sT k).aP 0)]) (css:= [[int (ix (ix s.sT k).aP 0)]]) T.cE ⟨rfl,rfl,p1 (φ:=int (ix (ix s.sT k).aP 0)) (by exact(gq.1.trans rfl)),tV⟩ rfl rfl rfl rfl fun v=>kq v) ?_
  refine stv (d:=41) (fun β0=>eK 25 v25 1 k 0) [25] J bH (fun β0 _ _ _ _ gq gh kq=>iO (gq.1.trans J) (gh.1.trans J) (gq.2.1.trans J) T.CK O O kq) ?_
  refine stw 25 (fun β0=>own v25 36 1 cF (us.set k (sv (β0 6)))) [25] J (fun β β' hb=>by first|rw[hb 6 J]|(dsimp only;rw[hb 6 J])) (fun β0 _ _ _ _ gq gh kq=>sO (φ:=eqv (sv (β0 6))) (gq.1.trans J) (gh.1.trans J) ((gq.2.1.trans J).trans gZ) T.aV gB J (y':=(sv (β0 6))) J kq) ?_
  refine pnH fun β0=>(nl (eb (th (rg (gvB (us:=us) 251 40 k J J (by decide) O (bi J J (aK i6) (mv (nl ?_))))))))
  have hN0:(k+1)≤s.sT.length:=by
   first|omega|simp_all
  have hN1:(us.set k (sv (β0 6))).length=s.sT.length∧(xss.set k [(ix (ix s.sT k).aP 0)])=mV s (k+1):=by
   exact⟨by simpa using hul,by rw[hxs];exact MT hc0⟩
  exact ln (⟨k+1,us.set k (sv (β0 6)),xss.set k [(ix (ix s.sT k).aP 0)]⟩:Nat × (List Value) × (List (List Int))) ⟨hN0,hN1⟩ dO ⟨id,id,id,id,id,id,id,tV⟩ ⟨rI,rI,rI,rI,rI,tV⟩
 ·try simp at hc0
  refine ex (xt_ (xt_ (xb (th (sq (sq (rg (mv (lnF J T.yA (mv (nl (th (bk ?_)))))))))))))
  have hI1_0:0≤want.length:=by
   first|omega|simp
  have hI1_1:us.length=s.sT.length∧eU s (want.take 0) xss:=by
   exact⟨hul,by rw[hxs,Py O];exact MN s⟩
  refine lp (κ:=Nat × (List Value) × (List (List Int))) (fun p=> [(1,sl 2 pE want),(2,ptr 2 b2 0),(4,ptr 4 b4 0),(5,ptr 5 b5 0),(43,sl 2 pE want),(44,int (want.length:Int)),(45,int (p.1:Int))]) (fun p=> [(2,cell b2 [sl 1 rE_ s.aC,sl 2 sE s.sT]),(4,cell b4 [eqv (.slice none 0 0),eqv (.slice none 0 0)]),(5,cell b5 [osl 25 v25]),(25,own v25 36 1 cF p.2.1),(251,aW p.2.1 3 1 nE p.2.2 none)]) (fun p=>(p.1≤want.length)∧(p.2.1.length=s.sT.length∧eU s (want.take p.1) p.2.2)) (fun p=>want.length- p.1) ⟨0,us,xss⟩ ⟨hI1_0,hI1_1⟩ ⟨id,id,id,id,id,id,id,tV⟩ ⟨rI,rI,rI,rI,rI,tV⟩ ?_
  intro⟨k1,us2,xss2⟩ hG1
  obtain⟨hk1,⟨hul2,hS⟩⟩:(k1≤want.length)∧(us2.length=s.sT.length∧eU s (want.take k1) xss2):=hG1
  show Ct _ _ _ _ [(1,sl 2 pE want),(2,ptr 2 b2 0),(4,ptr 4 b4 0),(5,ptr 5 b5 0),(43,sl 2 pE want),(44,int (want.length:Int)),(45,int (k1:Int))] [(2,cell b2 [sl 1 rE_ s.aC,sl 2 sE s.sT]),(4,cell b4 [eqv (.slice none 0 0),eqv (.slice none 0 0)]),(5,cell b5 [osl 25 v25]),(25,own v25 36 1 cF us2),(251,aW us2 3 1 nE xss2 none)] _
  have hxl2:=hS.len
  refine sq (rg (bi J J aN (nl (th (sq ?_)))))
  refine cd J (fun hc1=> ?_) (fun hc1=> ?_)
  ·try simp at hc1
   obtain⟨hw0,hw1,hw2⟩:=hw.ok _ (aZ hc1)
   refine sk (th (sq (bk (sq (rg (iF J J T.yA O gB (lFA J T.tG (Nat.le_of_ble_eq_true J) (al (key:=9) T.UY (eC (eC eZ)) fun b9=>(sPA (cs':= [int ((ix want k1).1),int ((ix want k1).2)]) J J J T.tG J J (nl (th (sq (AE 251 99 ((ix want k1).1).toNat J J (by decide) (gK O) (gK O) (dr (nh:=9) [0,0,2,7,15,0,32,127,255] T.mixed kR ?_))))))))))))))
   refine st_ J (fun _ _ _ gq kq=>lP (gq.1.trans J) J J T.vG kq) ?_
   refine st_ J (fun _ _ _ gq kq=>fP (gq.1.trans J) T.wE kq) ?_
   refine st_ J (fun _ _ _ gq kq=>lP (gq.1.trans J) J J T.aF kq) ?_
   refine st_ J (fun _ _ _ gq kq=>iO (gq.1.trans J) J (gq.2.1.trans J) T.CK O O kq) ?_
   refine st_ J (fun _ _ _ gq kq=>lO (gq.1.trans J) J gB J T.aV kq) ?_
   refine st_ J (fun _ _ _ gq kq=>fP (gq.1.trans J) T.Bj kq) ?_
   refine st_ J (fun _ _ _ gq kq=>lP (gq.1.trans J) J J T.aF kq) ?_
   refine st_ J (fun _ _ _ gq kq=>Uc (φs:= [sl 1 nE (ix xss2 ((ix want k1).1).toNat),int ((ix want k1).2)]) ⟨.own 99 ((gq.1.trans J).trans gZ.symm) J,.here (gq.2.1.trans J),tV⟩ (judg.Iy _ _) T.UZ kq) ?_
   refine st_ J (fun _ _ _ gq kq=>no (gq.1.trans J) kq) ?_
   refine pn (nl (th ?_))
   refine cd J (fun hc2=> ?_) (fun hc2=> ?_)
   ·try simp at hc2
    have hsl:=Bg hT hw hS (fun p hp=>List.mem_of_mem_take hp) (x:=((ix want k1).1).toNat) O
    refine drH (nh:=14) [0,0,2,0,0,16,56,120,0,256,768,2040,4095,8191] [(none,[5]),(none,[]),(none,[9]),(none,[5]),(none,[]),(none,[9]),(none,[25]),(none,[25]),(none,[]),(none,[9]),(none,[]),(some 99,[99]),(none,[25]),(some 25,[25])] T.mixed kR kR ?_
    refine stv (d:=58) (fun β1=>osl 25 v25) [5] J bH (fun β1 _ _ _ _ gq gh kq=>lP (gq.1.trans J) (gh.1.trans J) J T.vG kq) ?_
    refine stv (d:=59) (fun β1=>ptr 9 b9 0) [] J bH (fun β1 _ _ _ _ gq gh kq=>fP (gq.1.trans J) T.wE kq) ?_
    refine stv (d:=60) (fun β1=>int ((ix want k1).1)) [9] J bH (fun β1 _ _ _ _ gq gh kq=>lP (gq.1.trans J) (gh.1.trans J) J T.aF kq) ?_
    refine stv (d:=61) (fun β1=>osl 25 v25) [5] J bH (fun β1 _ _ _ _ gq gh kq=>lP (gq.1.trans J) (gh.1.trans J) J T.vG kq) ?_
    refine stv (d:=62) (fun β1=>ptr 9 b9 0) [] J bH (fun β1 _ _ _ _ gq gh kq=>fP (gq.1.trans J) T.wE kq) ?_
    refine stv (d:=63) (fun β1=>int ((ix want k1).1)) [9] J bH (fun β1 _ _ _ _ gq gh kq=>lP (gq.1.trans J) (gh.1.trans J) J T.aF kq) ?_
    refine stv (d:=64) (fun β1=>eK 25 v25 1 ((ix want k1).1).toNat 0) [25] J bH (fun β1 _ _ _ _ gq gh kq=>iO (gq.1.trans J) (gh.1.trans J) (gq.2.1.trans J) T.CK O O kq) ?_
    refine stv (d:=65) (fun β1=>eqv (ix us2 ((ix want k1).1).toNat)) [25] J bH (fun β1 _ _ _ _ gq gh kq=>lO (gq.1.trans J) (gh.1.trans J) gB J T.aV kq) ?_
    refine stv (d:=66) (fun β1=>ptr 9 b9 1) [] J bH (fun β1 _ _ _ _ gq gh kq=>fP (gq.1.trans J) T.Bj kq) ?_
    refine stv (d:=67) (fun β1=>int ((ix want k1).2)) [9] J bH (fun β1 _ _ _ _ gq gh kq=>lP (gq.1.trans J) (gh.1.trans J) J T.aF kq) ?_
    refine stv (d:=68) (fun β1=>sl 1 nE [((ix want k1).2)]) [] J bH (fun β1 _ _ _ _ gq gh kq=>bsE (enc:=nE) (xs:= [((ix want k1).2)]) (css:= [[int ((ix want k1).2)]]) T.cE ⟨J,J,p1 (φ:=int ((ix want k1).2)) (by exact(gq.1.trans J)),tV⟩ J J J J kq) ?_
    refine stc (d:=69) (e:=3) (n:=1) (enc:=nE) (xs:=(ix xss2 ((ix want k1).1).toNat)++ [((ix want k1).2)]) 99 [99] rfl (fun β1 _ _ _ _ gq gh kq=>ap (key:=99) (zs:= [((ix want k1).2)]) (fun h=>GA (gq.1.trans rfl) h) (gh.1.trans rfl) (gq.2.1.trans rfl) rfl T.cE (by unfold aU at*;simp;omega) (by unfold aU at*;simp;omega) fun v=>kq v) ?_
    refine stv (d:=70) (fun β1=>eK 25 v25 1 ((ix want k1).1).toNat 0) [25] J bH (fun β1 _ _ _ _ gq gh kq=>iO (gq.1.trans J) (gh.1.trans J) (gq.2.1.trans J) T.CK O O kq) ?_
    refine stw 25 (fun β1=>own v25 36 1 cF (us2.set ((ix want k1).1).toNat (sv (β1 11)))) [25] J (fun β β' hb=>by first|rw[hb 11 J]|(dsimp only;rw[hb 11 J])) (fun β1 _ _ _ _ gq gh kq=>sO (φ:=eqv (sv (β1 11))) (gq.1.trans J) (gh.1.trans J) ((gq.2.1.trans J).trans gZ) T.aV gB J (y':=(sv (β1 11))) J kq) ?_
    refine pnH fun β1=>(nl (eb (th (rg (gvB (us:=us2) 251 99 ((ix want k1).1).toNat J J (by decide) O (bi J J (aK i6) (mv (nl ?_))))))))
    have hN0:(k1+1)≤want.length:=by
     first|omega|simp_all
    have hN1:(us2.set ((ix want k1).1).toNat (sv (β1 11))).length=s.sT.length∧eU s (want.take (k1+1)) (xss2.set ((ix want k1).1).toNat ((ix xss2 ((ix want k1).1).toNat)++ [((ix want k1).2)])):=by
     refine⟨by simpa using hul2,?_⟩
     rw[bL hc1]
     have:=GK hS hw0 hw1
     unfold zF at this
     rw[if_neg hc2] at this
     exact this
    exact ln (⟨k1+1,us2.set ((ix want k1).1).toNat (sv (β1 11)),xss2.set ((ix want k1).1).toNat ((ix xss2 ((ix want k1).1).toNat)++ [((ix want k1).2)])⟩:Nat × (List Value) × (List (List Int))) ⟨hN0,hN1⟩ dO ⟨id,id,id,id,id,id,id,tV⟩ ⟨rI,rI,rI,rI,rI,tV⟩
   ·try simp at hc2
    refine Oz 251 99 ((ix want k1).1).toNat rfl rfl (by decide) (gK O) (gK O) (sk (eb (th (rg (bi rfl rfl (aK i6) (mv (nl ?_)))))))
    have hN0:(k1+1)≤want.length:=by
     first|omega|simp_all
    have hN1:us2.length=s.sT.length∧eU s (want.take (k1+1)) xss2:=by
     refine⟨hul2,?_⟩
     rw[bL hc1]
     have:=GK hS hw0 hw1
     unfold zF at this
     rw[if_pos hc2] at this
     exact this
    exact ln (⟨k1+1,us2,xss2⟩:Nat × (List Value) × (List (List Int))) ⟨hN0,hN1⟩ dO ⟨id,id,id,id,id,id,id,tV⟩ ⟨rI,rI,rI,rI,rI,tV⟩
  ·try simp at hc1
   have hSE:eU s want xss2:=by rw[show k1=want.length by omega,List.take_length] at hS;exact hS
   have hne0:0<(ix s.sT 0).aP.length:=hw.ne 0 O
   refine ex (xt_ (xt_ (xb (th (sq (rg (fP J T.aY (lP J J J T.bI (iF J J T.bU O (gK (k:=0) O) (fF J T.cM (lF J J T.aV (iF J J T.aM O (gK (k:=0) O) (lF J J T.aF (bd (css:= [(0,_),(1,_)]) T.zE (eC (eC eZ)) ⟨J,J,p1 (φ:=int 0) J,⟨J,J,p1 (φ:=int (ix (ix s.sT 0).aP 0)) J,tV⟩⟩ (al (key:=10) T.UY (eC (eC eZ)) fun b10=>(sPA (cs':= [int 0,int (ix (ix s.sT 0).aP 0)]) J J J T.tG J J (nl (th (sq (sq (rg (mv (lnF J T.yA (bi J J gW (nl (th ?_))))))))))))))))))))))))))
   refine jn (κ:=Int × Int) (fun p=> [(2,ptr 2 b2 0),(4,ptr 4 b4 0),(5,ptr 5 b5 0),(10,ptr 10 b10 0)]) (fun p=> [(2,cell b2 [sl 1 rE_ s.aC,sl 2 sE s.sT]),(4,cell b4 [eqv (.slice none 0 0),eqv (.slice none 0 0)]),(5,cell b5 [osl 25 v25]),(10,cell b10 [int p.1,int p.2]),(25,own v25 36 1 cF us2),(251,aW us2 3 1 nE xss2 none)]) (fun p=>(p.1,p.2)=eM s want) ?_ ?_
   ·
    refine cd J (fun hc3=> ?_) (fun hc3=> ?_)
    ·try simp at hc3
     refine rg (mv (iF J J T.yA O (gK (k:=0) O) (lFA J T.tG (Nat.le_of_ble_eq_true J) (sPA (cs':= [int ((ix want 0).1),int ((ix want 0).2)]) J J J T.tG J J (nl ?_)))))
     have hN0:(((ix want 0).1),((ix want 0).2))=eM s want:=by
      unfold eM;rw[if_pos O]
     exact jx ⟨(ix want 0).1,(ix want 0).2⟩ hN0 ⟨id,id,id,id,tV⟩ ⟨rI,rI,rI,rI,rI,rI,tV⟩
    ·try simp at hc3
     refine sk ?_
     have hN0:((0:Int),(ix (ix s.sT 0).aP 0))=eM s want:=by
      unfold eM;rw[if_neg (by simp[hc3])]
     exact jx ⟨(0:Int),ix (ix s.sT 0).aP 0⟩ hN0 ⟨id,id,id,id,tV⟩ ⟨rI,rI,rI,rI,rI,rI,tV⟩
   ·intro⟨f1,f2⟩ hG
    have hJ3:(f1,f2)=eM s want:=hG
    have hfo:=Pu hT hw hSE
    rw[←hJ3] at hfo
    obtain⟨hfo0,hfo1,hfo2⟩:=hfo
    dsimp only at hfo0 hfo1 hfo2
    have hfb:=oV (hT.st f1.toNat O) (pU hw hSE (fun _ h=>h) O hfo2)
    skip
    show At _ _ _ [(2,ptr 2 b2 0),(4,ptr 4 b4 0),(5,ptr 5 b5 0),(10,ptr 10 b10 0)] [(2,cell b2 [sl 1 rE_ s.aC,sl 2 sE s.sT]),(4,cell b4 [eqv (.slice none 0 0),eqv (.slice none 0 0)]),(5,cell b5 [osl 25 v25]),(10,cell b10 [int f1,int f2]),(25,own v25 36 1 cF us2),(251,aW us2 3 1 nE xss2 none)]
    refine th (sq (rg (mkm (key:=86) (kE:=dL) (dom:=fB) (vE:=wD) fun b86=>(lPA rfl rfl T.tG rfl (AL.insert (q:=(f1,f2)) (u:=0) rfl rfl lH rfl T.GP ⟨⟨O,O⟩,⟨O,O⟩⟩ (mv (al (key:=11) T.Xt (eC eZ) fun b11=>(sP (φ:=mpv 86 b86) rfl rfl rfl T.GQ rfl (nl (th (sq (rg (lPA rfl rfl T.tG rfl (bsO 90 (enc:=pE) (xs:= [(f1,f2)]) (css:= [[int f1,int f2]]) T.Bf ⟨rfl,rfl,pA (cs:= [int f1,int f2]) rfl,tV⟩ rfl rfl rfl rfl fun v90=>(al (key:=12) T.z95 (eC eZ) fun b12=>(bY rfl rfl rfl rfl T.wF rfl (nl (th (sq (rg (fP rfl T.cR (lP rfl rfl rfl T.cV (dU (φs:= [sl 1 rE_ s.aC]) (φ:=fre w0.heap.size (sl 1 rE_ s.aC)) ⟨rfl,tV⟩ (prog.jV _ O) T.yX (fun N hN=>fun h=>vA hN h) (bd (css:= [(0,_)]) T.uO (eC (eC eZ)) ⟨rfl,rfl,p1 (φ:=fre w0.heap.size (sl 1 rE_ s.aC)) rfl,tV⟩ (al (key:=13) T.z43 (eC (eC eZ)) fun b13=>(sPA (cs':= [fre w0.heap.size (sl 1 rE_ s.aC),eqv (.slice none 0 0)]) rfl rfl rfl T.cD rfl rfl (nl (th (sq (sq (rg (al (key:=14) T.z3 (eC eZ) fun b14=>(sP (φ:=int 0) rfl rfl rfl T.aF rfl (nl (th (bk ?_))))))))))))))))))))))))))))))))))))
    refine nwC 130 103 1 (kC w0.heap.size) (oJ 13 1 (osl 130 (.slice none 0 0)) rfl rfl dY ?_)
    have hI2_0:WI s xss2 (f1,f2) 0 ([(f1,f2)]:List (Int × Int)) (dI ([]:List ((Int × Int) × Int)) (f1,f2) 0) ([]:List (List (Int × Int))):=by
     exact Sw ⟨hfo0,hfo1,hfo2⟩
    refine lp (κ:=Nat × Nat × Value × (List (Int × Int)) × (List ((Int × Int) × Int)) × Value × (List (List (Int × Int)))) (fun p=> [(2,ptr 2 b2 0),(4,ptr 4 b4 0),(5,ptr 5 b5 0),(11,ptr 11 b11 0),(12,ptr 12 b12 0),(13,ptr 13 b13 0),(14,ptr 14 p.2.1 0)]) (fun p=> [(2,cell b2 [sl 1 rE_ s.aC,sl 2 sE s.sT]),(4,cell b4 [eqv (.slice none 0 0),eqv (.slice none 0 0)]),(5,cell b5 [osl 25 v25]),(10,cell b10 [int f1,int f2]),(11,cell b11 [mpv 86 b86]),(12,cell b12 [osl 90 p.2.2.1]),(13,cell b13 [fre w0.heap.size (sl 1 rE_ s.aC),osl 130 p.2.2.2.2.2.1]),(14,cell p.2.1 [int (p.1:Int)]),(25,own v25 36 1 cF us2),(86,mp b86 dL fB wD p.2.2.2.2.1),(90,own p.2.2.1 162 2 pE p.2.2.2.1),(130,own p.2.2.2.2.2.1 103 1 (kC w0.heap.size) p.2.2.2.2.2.2),(251,aW us2 3 1 nE xss2 none)]) (fun p=>WI s xss2 (f1,f2) p.1 p.2.2.2.1 p.2.2.2.2.1 p.2.2.2.2.2.2) (fun p=>s.sT.length+want.length- p.1) ⟨0,b14,v90,([(f1,f2)]:List (Int × Int)),dI ([]:List ((Int × Int) × Int)) (f1,f2) 0,(.slice none 0 0),([]:List (List (Int × Int)))⟩ hI2_0 ⟨id,id,id,id,id,id,id,tV⟩ ⟨rI,rI,rI,rI,rI,rI,rI,rI,rI,rI,rI,rI,rI,tV⟩ ?_
    intro⟨i,c14,v,q,mm,u130,bA⟩ hG2
    have hWI:WI s xss2 (f1,f2) i q mm bA:=hG2
    show Ct _ _ _ _ [(2,ptr 2 b2 0),(4,ptr 4 b4 0),(5,ptr 5 b5 0),(11,ptr 11 b11 0),(12,ptr 12 b12 0),(13,ptr 13 b13 0),(14,ptr 14 c14 0)] [(2,cell b2 [sl 1 rE_ s.aC,sl 2 sE s.sT]),(4,cell b4 [eqv (.slice none 0 0),eqv (.slice none 0 0)]),(5,cell b5 [osl 25 v25]),(10,cell b10 [int f1,int f2]),(11,cell b11 [mpv 86 b86]),(12,cell b12 [osl 90 v]),(13,cell b13 [fre w0.heap.size (sl 1 rE_ s.aC),osl 130 u130]),(14,cell c14 [int (i:Int)]),(25,own v25 36 1 cF us2),(86,mp b86 dL fB wD mm),(90,own v 162 2 pE q),(130,own u130 103 1 (kC w0.heap.size) bA),(251,aW us2 3 1 nE xss2 none)] _
    have hql:=CI hWI.wq hSE
    have hoi:=hWI.il
    have hol:bA.length=i:=by rw[hWI.out];simp
    refine sq (sq (rg (lP J J J T.aF (lP J J J T.wF (lnO J J T.yA (bi J J aN (nl (th ?_))))))))
    refine cd J (fun hc4=> ?_) (fun hc4=> ?_)
    ·try simp at hc4
     obtain⟨hq0,hq1,hq2⟩:=hWI.wq.bd _ (aZ hc4)
     have hqb:=oV (hT.st ((ix q i).1).toNat O) (pU hw hSE (fun _ h=>h) O hq2)
     refine sk (th (sq (bk (sq (rg (al (key:=15) T.Xu (eC eZ) fun b15=>(nl (th (sq (sq (rg (nw 150 105 2 pE (knc 15 0 (osl 150 (.slice none 0 0)) J J dY (lP J J J T.wF (lP J J J T.aF (iO J J J T.yA O O (fO J T.Bj (lO J J gB J T.aF (aO (φs:= [int ((ix q i).2)]) (φ:=clo 162 [fp [int ((ix q i).2)]]) ⟨J,tV⟩ (prog3.qI ((ix q i).2)) T.tA (nl (th (bk ?_))))))))))))))))))))))
     have hR0:WN s xss2 (f1,f2) i (ix q i) q mm bA 0 ([]:List (Int × Int)):=by
      exact Sy hWI O
     refine rf (κ:=Value × (List (Int × Int)) × (List ((Int × Int) × Int)) × Value × (List (Int × Int))) 900 (fun p=> [(2,cell b2 [sl 1 rE_ s.aC,sl 2 sE s.sT]),(4,cell b4 [eqv (.slice none 0 0),eqv (.slice none 0 0)]),(5,cell b5 [osl 25 v25]),(10,cell b10 [int f1,int f2]),(11,cell b11 [mpv 86 b86]),(12,cell b12 [osl 90 p.1]),(13,cell b13 [fre w0.heap.size (sl 1 rE_ s.aC),osl 130 u130]),(14,cell c14 [int (i:Int)]),(15,cell b15 [osl 150 p.2.2.2.1]),(25,own v25 36 1 cF us2),(86,mp b86 dL fB wD p.2.2.1),(90,own p.1 162 2 pE p.2.1),(130,own u130 103 1 (kC w0.heap.size) bA),(150,own p.2.2.2.1 105 2 pE p.2.2.2.2),(251,aW us2 3 1 nE xss2 none)]) (fun iR p=>WN s xss2 (f1,f2) i (ix q i) p.2.1 p.2.2.1 bA iR p.2.2.2.2) (fun c p=>False) J (AK (ix q i).2 O O) T.tB J (fun _=>J) (fun _=>J) ⟨v,q,mm,(.slice none 0 0),([]:List (Int × Int))⟩ hR0 ⟨rI,rI,rI,rI,rI,rI,rI,rI,rI,rI,rI,rI,rI,rI,rI,tV⟩ ?_ ?_ (fun k h=>h.elim) (fun id k h=>h.elim) (fun c k h=>h.elim)
     ·intro m0 ⟨v2,q2,mm2,v150,es⟩ x0 hG0 hx0 l R w1 M1 F1 hRd
      have hR0:WN s xss2 (f1,f2) i (ix q i) q2 mm2 bA m0 es:=hG0
      show Ct _ _ _ _ _ ((900,obj l (.loop R)):: [(2,cell b2 [sl 1 rE_ s.aC,sl 2 sE s.sT]),(4,cell b4 [eqv (.slice none 0 0),eqv (.slice none 0 0)]),(5,cell b5 [osl 25 v25]),(10,cell b10 [int f1,int f2]),(11,cell b11 [mpv 86 b86]),(12,cell b12 [osl 90 v2]),(13,cell b13 [fre w0.heap.size (sl 1 rE_ s.aC),osl 130 u130]),(14,cell c14 [int (i:Int)]),(15,cell b15 [osl 150 v150]),(25,own v25 36 1 cF us2),(86,mp b86 dL fB wD mm2),(90,own v2 162 2 pE q2),(130,own u130 103 1 (kC w0.heap.size) bA),(150,own v150 105 2 pE es),(251,aW us2 3 1 nE xss2 none)]) _
      obtain⟨a,rfl,ha63,hha⟩:=listOf_get hx0
      have hql2:=CI hR0.wi.wq hSE
      have hi2:=hR0.hi
      have hpe1:(ix q2 i).1=(ix q i).1:=by rw[hR0.pe]
      have hix:=hT.st ((ix q i).1).toNat O
      have hxl:=hix.len
      have hxl2:(ix s.sT ((ix q2 i).1).toNat).next.length=s.aC.length:=by rw[hpe1];exact hxl
      have hgo:=jR hT (x:=((ix q i).1).toNat) O ((bR _ _).2 ⟨_,pU hw hSE (fun _ h=>h) O hq2,hha⟩)
      have hto:tgt s (ix q i) (a:Int)=ix (ix s.sT ((ix q2 i).1).toNat).next a:=by unfold tgt;rw[hpe1];rfl
      have htg:tgt s (ix q i) (a:Int)=ix (nxt s ((ix q i).1).toNat) a:=rfl
      have hg0:0≤tgt s (ix q i) (a:Int):=by omega
      have hg1:tgt s (ix q i) (a:Int)<(s.sT.length:Int):=by omega
      have hxs2:=hSE.len
      have hS2:=Bg hT hw hSE (fun _ h=>h) (x:=(tgt s (ix q i) (a:Int)).toNat) O
      refine rg (ag (nl (aq hRd J (bk (sq (dr (nh:=14) [0,1,0,0,12,28,60,127,255,511,0,2047,4095,8191] T.mixed kR ?_))))))
      refine st_ J (fun _ _ _ gq kq=>fP (gq.1.trans J) T.aY kq) ?_
      refine st_ J (fun _ _ _ gq kq=>lP (gq.1.trans J) J J T.bI kq) ?_
      refine st_ J (fun _ _ _ gq kq=>lP (gq.1.trans J) J J T.wF kq) ?_
      refine st_ J (fun _ _ _ gq kq=>lP (gq.1.trans J) J J T.aF kq) ?_
      refine st_ J (fun _ _ _ gq kq=>iO (gq.1.trans J) J (gq.2.1.trans J) T.yA O O kq) ?_
      refine st_ J (fun _ _ _ gq kq=>fO (gq.1.trans J) T.wE kq) ?_
      refine st_ J (fun _ _ _ gq kq=>lO (gq.1.trans J) J gB J T.aF kq) ?_
      refine st_ J (fun _ _ _ gq kq=>iF (gq.1.trans J) (gq.2.1.trans J) T.bU O gB kq) ?_
      refine st_ J (fun _ _ _ gq kq=>fF (gq.1.trans J) T.bQ kq) ?_
      refine st_ J (fun _ _ _ gq kq=>lF (gq.1.trans J) J T.aV kq) ?_
      refine st_ J (fun _ _ _ gq kq=>mv' (gq.1.trans J) kq) ?_
      refine st_ J (fun _ _ _ gq kq=>iF (gq.1.trans J) (gq.2.1.trans J) T.aM O gB kq) ?_
      refine st_ J (fun _ _ _ gq kq=>lF (gq.1.trans J) J T.aF kq) ?_
      refine st_ J (fun _ _ _ gq kq=>ag' (gq.1.trans J) kq) ?_
      refine pn (nl (th (sq (rg (kn 17 (int (tgt s (ix q i) (a:Int))) J (by rw[hto];exact fun h=>h) (lP J J J T.vG (mv (iO J J J T.CK O O (lO J J gB J T.aV (tkB 251 98 (tgt s (ix q i) (a:Int)).toNat J J (by decide) (gK O) (gK O) (kn 124 (osl 98 (ix us2 (tgt s (ix q i) (a:Int)).toNat)) J dY (lnO J J T.aM (mv (nl (th (bk ?_))))))))))))))))
      have hI3_0:0≤(ix xss2 (tgt s (ix q i) (a:Int)).toNat).length:=by
       first|omega|simp
      have hI3_1:WK s xss2 (f1,f2) i (ix q i) q2 mm2 bA m0 (a:Int) 0 es:=by
       exact Sz hR0 (a:Int)
      refine lp (κ:=Nat × Value × (List (Int × Int)) × (List ((Int × Int) × Int)) × Value × (List (Int × Int))) (fun p=> [(4,ptr 4 b4 0),(11,ptr 11 b11 0),(12,ptr 12 b12 0),(15,ptr 15 b15 0),(16,int (a:Int)),(17,int (tgt s (ix q i) (a:Int))),(124,osl 98 (ix us2 (tgt s (ix q i) (a:Int)).toNat)),(125,int ((ix xss2 (tgt s (ix q i) (a:Int)).toNat).length:Int)),(126,int (p.1:Int))]) (fun p=> [(2,cell b2 [sl 1 rE_ s.aC,sl 2 sE s.sT]),(4,cell b4 [eqv (.slice none 0 0),eqv (.slice none 0 0)]),(5,cell b5 [osl 25 v25]),(10,cell b10 [int f1,int f2]),(11,cell b11 [mpv 86 b86]),(12,cell b12 [osl 90 p.2.1]),(13,cell b13 [fre w0.heap.size (sl 1 rE_ s.aC),osl 130 u130]),(14,cell c14 [int (i:Int)]),(15,cell b15 [osl 150 p.2.2.2.2.1]),(25,own v25 36 1 cF us2),(86,mp b86 dL fB wD p.2.2.2.1),(90,own p.2.1 162 2 pE p.2.2.1),(98,own (ix us2 (tgt s (ix q i) (a:Int)).toNat) 3 1 nE (ix xss2 (tgt s (ix q i) (a:Int)).toNat)),(130,own u130 103 1 (kC w0.heap.size) bA),(150,own p.2.2.2.2.1 105 2 pE p.2.2.2.2.2),(251,aW us2 3 1 nE xss2 (some (tgt s (ix q i) (a:Int)).toNat)),(900,obj l (.loop { R with state:= .busy }))]) (fun p=>(p.1≤(ix xss2 (tgt s (ix q i) (a:Int)).toNat).length)∧(WK s xss2 (f1,f2) i (ix q i) p.2.2.1 p.2.2.2.1 bA m0 (a:Int) p.1 p.2.2.2.2.2)) (fun p=>(ix xss2 (tgt s (ix q i) (a:Int)).toNat).length- p.1) ⟨0,v2,q2,mm2,v150,es⟩ ⟨hI3_0,hI3_1⟩ ⟨id,id,id,id,id,id,id,id,id,tV⟩ ⟨rI,rI,rI,rI,rI,rI,rI,rI,rI,rI,rI,rI,rI,rI,rI,rI,rI,tV⟩ ?_
      intro⟨k3,v3,q3,mm3,v153,es3⟩ hG3
      obtain⟨hk3,hWK⟩:(k3≤(ix xss2 (tgt s (ix q i) (a:Int)).toNat).length)∧(WK s xss2 (f1,f2) i (ix q i) q3 mm3 bA m0 (a:Int) k3 es3):=hG3
      show Ct _ _ _ _ [(4,ptr 4 b4 0),(11,ptr 11 b11 0),(12,ptr 12 b12 0),(15,ptr 15 b15 0),(16,int (a:Int)),(17,int (tgt s (ix q i) (a:Int))),(124,osl 98 (ix us2 (tgt s (ix q i) (a:Int)).toNat)),(125,int ((ix xss2 (tgt s (ix q i) (a:Int)).toNat).length:Int)),(126,int (k3:Int))] [(2,cell b2 [sl 1 rE_ s.aC,sl 2 sE s.sT]),(4,cell b4 [eqv (.slice none 0 0),eqv (.slice none 0 0)]),(5,cell b5 [osl 25 v25]),(10,cell b10 [int f1,int f2]),(11,cell b11 [mpv 86 b86]),(12,cell b12 [osl 90 v3]),(13,cell b13 [fre w0.heap.size (sl 1 rE_ s.aC),osl 130 u130]),(14,cell c14 [int (i:Int)]),(15,cell b15 [osl 150 v153]),(25,own v25 36 1 cF us2),(86,mp b86 dL fB wD mm3),(90,own v3 162 2 pE q3),(98,own (ix us2 (tgt s (ix q i) (a:Int)).toNat) 3 1 nE (ix xss2 (tgt s (ix q i) (a:Int)).toNat)),(130,own u130 103 1 (kC w0.heap.size) bA),(150,own v153 105 2 pE es3),(251,aW us2 3 1 nE xss2 (some (tgt s (ix q i) (a:Int)).toNat)),(900,obj l (.loop { R with state:= .busy }))] _
      refine sq (rg (bi J J aN (nl (th (sq ?_)))))
      refine cd J (fun hc5=> ?_) (fun hc5=> ?_)
      ·try simp at hc5
       have hub:=oV (hT.st (tgt s (ix q i) (a:Int)).toNat O) (pU hw hSE (fun _ h=>h) O (gA hc5))
       have hq3l:=CI hWK.wi.wq hSE
       have hesl:=UV hT hw hSE hWK
       refine sk (th (sq (bk (sq (rg (iO J J J T.aM O O (lO J J gB J T.aF (ag (nl (th (sq (rg (lP J J J T.GQ (mv (mv (bd (css:= [(0,_),(1,_)]) T.zE (eC (eC eZ)) ⟨J,J,p1 (φ:=int (tgt s (ix q i) (a:Int))) J,⟨J,J,p1 (φ:=int (ix (ix xss2 (tgt s (ix q i) (a:Int)).toNat) k3)) J,tV⟩⟩ (Dd (z:=(0:Int)) (q:=(tgt s (ix q i) (a:Int),ix (ix xss2 (tgt s (ix q i) (a:Int)).toNat) k3)) J J lH T.GP ⟨⟨O,O⟩,⟨O,O⟩⟩ T.Xr (mv (xt J J (xt J J (ag (ag (nl (th (sq (sq (rg (mv (no J (nl (th ?_)))))))))))))))))))))))))))))))
       refine cd J (fun hc6=> ?_) (fun hc6=> ?_)
       ·try simp at hc6
        refine sq (rg (lP J J J T.wF (lnO J J T.yA (ag (nl (th (sq (rg (lP J J J T.GQ (mv (mv (bd (css:= [(0,_),(1,_)]) T.zE (eC (eC eZ)) ⟨J,J,p1 (φ:=int (tgt s (ix q i) (a:Int))) J,⟨J,J,p1 (φ:=int (ix (ix xss2 (tgt s (ix q i) (a:Int)).toNat) k3)) J,tV⟩⟩ (mv (mapUpdate (q:=(tgt s (ix q i) (a:Int),ix (ix xss2 (tgt s (ix q i) (a:Int)).toNat) k3)) (u:=(q3.length:Int)) J J lH J T.GP ⟨⟨O,O⟩,⟨O,O⟩⟩ (nl (th (rg (lP J J J T.wF (mv (mv (bd (css:= [(0,_),(1,_)]) T.zE (eC (eC eZ)) ⟨J,J,p1 (φ:=int (tgt s (ix q i) (a:Int))) J,⟨J,J,p1 (φ:=int (ix (ix xss2 (tgt s (ix q i) (a:Int)).toNat) k3)) J,tV⟩⟩ (bsE (enc:=pE) (xs:= [(tgt s (ix q i) (a:Int),ix (ix xss2 (tgt s (ix q i) (a:Int)).toNat) k3)]) (css:= [[int (tgt s (ix q i) (a:Int)),int (ix (ix xss2 (tgt s (ix q i) (a:Int)).toNat) k3)]]) T.Bf ⟨J,J,pA (cs:= [int (tgt s (ix q i) (a:Int)),int (ix (ix xss2 (tgt s (ix q i) (a:Int)).toNat) k3)]) J,tV⟩ J J J J (ap (key:=90) (zs:= [(tgt s (ix q i) (a:Int),ix (ix xss2 (tgt s (ix q i) (a:Int)).toNat) k3)]) cH J J J T.Bf (by unfold aU at*;simp;omega) (by unfold aU at*;simp;omega) fun v152=>(bY J J J J T.wF J (nl (th (rg (lP J J J T.iL (mv (mv (bd (css:= [(0,_),(1,_)]) T.Rl (eC (eC eZ)) ⟨J,J,p1 (φ:=int (a:Int)) J,⟨J,J,p1 (φ:=int (q3.length:Int)) J,tV⟩⟩ (bsE (enc:=pE) (xs:= [((a:Int),(q3.length:Int))]) (css:= [[int (a:Int),int (q3.length:Int)]]) T.CL ⟨J,J,pA (cs:= [int (a:Int),int (q3.length:Int)]) J,tV⟩ J J J J (ap (key:=150) (zs:= [((a:Int),(q3.length:Int))]) cH J J J T.CL (by unfold aU at*;simp;omega) (by unfold aU at*;simp;omega) fun v158=>(bY J J J J T.iL J (nl (eb (th (rg (bi J J (aK i6) (mv (nl ?_)))))))))))))))))))))))))))))))))))))))))
        have hN0:(k3+1)≤(ix xss2 ((tgt s (ix q i) (a:Int)).toNat)).length:=by
           first|omega|simp_all
        have hN1:WK s xss2 (f1,f2) i (ix q i) (q3++ [(tgt s (ix q i) (a:Int),ix (ix xss2 ((tgt s (ix q i) (a:Int)).toNat)) k3)]) (dI mm3 (tgt s (ix q i) (a:Int),ix (ix xss2 ((tgt s (ix q i) (a:Int)).toNat)) k3) (q3.length:Int)) bA m0 (a:Int) (k3+1) (es3++ [((a:Int),(q3.length:Int))]):=by
           exact UR hWK hc5 hg0 hg1 (by simpa using hc6)
        exact ln (⟨k3+1,v152,q3++ [(tgt s (ix q i) (a:Int),ix (ix xss2 (tgt s (ix q i) (a:Int)).toNat) k3)],dI mm3 (tgt s (ix q i) (a:Int),ix (ix xss2 (tgt s (ix q i) (a:Int)).toNat) k3) (q3.length:Int),v158,es3++ [((a:Int),(q3.length:Int))]⟩:Nat × Value × (List (Int × Int)) × (List ((Int × Int) × Int)) × Value × (List (Int × Int))) ⟨hN0,hN1⟩ dO ⟨id,id,id,id,id,id,id,id,id,tV⟩ ⟨rI,rI,rI,rI,rI,rI,rI,rI,rI,rI,rI,rI,rI,rI,rI,rI,rI,tV⟩
       ·try simp at hc6
        refine sk (th (rg (lP J J J T.iL (mv (mv (bd (css:= [(0,_),(1,_)]) T.Rl (eC (eC eZ)) ⟨J,J,p1 (φ:=int (a:Int)) J,⟨J,J,p1 (φ:=int ((cX mm3 (tgt s (ix q i) (a:Int),ix (ix xss2 (tgt s (ix q i) (a:Int)).toNat) k3)).getD (0:Int))) J,tV⟩⟩ (bsE (enc:=pE) (xs:= [((a:Int),(cX mm3 (tgt s (ix q i) (a:Int),ix (ix xss2 (tgt s (ix q i) (a:Int)).toNat) k3)).getD (0:Int))]) (css:= [[int (a:Int),int ((cX mm3 (tgt s (ix q i) (a:Int),ix (ix xss2 (tgt s (ix q i) (a:Int)).toNat) k3)).getD (0:Int))]]) T.CL ⟨J,J,pA (cs:= [int (a:Int),int ((cX mm3 (tgt s (ix q i) (a:Int),ix (ix xss2 (tgt s (ix q i) (a:Int)).toNat) k3)).getD (0:Int))]) J,tV⟩ J J J J (ap (key:=150) (zs:= [((a:Int),(cX mm3 (tgt s (ix q i) (a:Int),ix (ix xss2 (tgt s (ix q i) (a:Int)).toNat) k3)).getD (0:Int))]) cH J J J T.CL (by unfold aU at*;simp;omega) (by unfold aU at*;simp;omega) fun v158=>(bY J J J J T.iL J (nl (eb (th (rg (bi J J (aK i6) (mv (nl ?_))))))))))))))))
        have hN0:(k3+1)≤(ix xss2 ((tgt s (ix q i) (a:Int)).toNat)).length:=by
           first|omega|simp_all
        have hN1:WK s xss2 (f1,f2) i (ix q i) q3 mm3 bA m0 (a:Int) (k3+1) (es3++ [((a:Int),(cX mm3 (tgt s (ix q i) (a:Int),ix (ix xss2 ((tgt s (ix q i) (a:Int)).toNat)) k3)).getD (0:Int))]):=by
           exact US hWK hc5 (by simpa using hc6)
        exact ln (⟨k3+1,v3,q3,mm3,v158,es3++ [((a:Int),(cX mm3 (tgt s (ix q i) (a:Int),ix (ix xss2 (tgt s (ix q i) (a:Int)).toNat) k3)).getD (0:Int))]⟩:Nat × Value × (List (Int × Int)) × (List ((Int × Int) × Int)) × Value × (List (Int × Int))) ⟨hN0,hN1⟩ dO ⟨id,id,id,id,id,id,id,id,id,tV⟩ ⟨rI,rI,rI,rI,rI,rI,rI,rI,rI,rI,rI,rI,rI,rI,rI,rI,rI,tV⟩
      ·try simp at hc5
       refine ex (xt_ (xt_ (xb (eb (Xq 251 98 (tgt s (ix q i) (a:Int)).toNat J J (by decide) (gK O) (gK O) ?_)))))
       have hN0:WN s xss2 (f1,f2) i (ix q i) q3 mm3 bA (m0+1) es3:=by
           exact UT hWK O hx0
       exact rqN ⟨v3,q3,mm3,v153,es3⟩ hN0 ⟨rI,rI,rI,rI,rI,rI,rI,rI,rI,rI,rI,rI,rI,rI,rI,rI,tV⟩
     ·intro⟨v2,q2,mm2,v150,es⟩ hG0
      have hR0:WN s xss2 (f1,f2) i (ix q i) q2 mm2 bA (listOf 63 (ix q i).2).length es:=hG0
      show At _ _ _ _ [(2,cell b2 [sl 1 rE_ s.aC,sl 2 sE s.sT]),(4,cell b4 [eqv (.slice none 0 0),eqv (.slice none 0 0)]),(5,cell b5 [osl 25 v25]),(10,cell b10 [int f1,int f2]),(11,cell b11 [mpv 86 b86]),(12,cell b12 [osl 90 v2]),(13,cell b13 [fre w0.heap.size (sl 1 rE_ s.aC),osl 130 u130]),(14,cell c14 [int (i:Int)]),(15,cell b15 [osl 150 v150]),(25,own v25 36 1 cF us2),(86,mp b86 dL fB wD mm2),(90,own v2 162 2 pE q2),(130,own u130 103 1 (kC w0.heap.size) bA),(150,own v150 105 2 pE es),(251,aW us2 3 1 nE xss2 none)]
      refine eb (th (sq (rg (lP rfl rfl rfl T.iL ?_))))
      have hql3:=CI hR0.wi.wq hSE
      have hes:=Wv hR0 O
      refine cal (Hi:= [(150,own v150 105 2 pE es)]) (φs:= [osl 5 v150,eqv (.func (.func 128) #[] #[])]) ⟨gZ.trans gZ.symm,rfl,tV⟩ (zG 5 150 (sortE.IA v150 es aS)) T.Wx ⟨rI,tV⟩ fun _ _=>(nl (th (rg (fP rfl T.dS (lP rfl rfl rfl T.gH (lP rfl rfl rfl T.iL (fzN pE 150 164 noM flat rfl rfl (bsE (enc:=kC w0.heap.size) (xs:= [(gG es)]) (css:= [[fre w0.heap.size (sl 2 pE (gG es))]]) T.KG ⟨rfl,rfl,p1 (φ:=fre w0.heap.size (sl 2 pE (gG es))) rfl,tV⟩ rfl rfl rfl rfl (ap (key:=130) (zs:= [(gG es)]) cH rfl rfl rfl T.KG (by unfold aU at*;simp;omega) (by unfold aU at*;simp;omega) fun v166=>(fP rfl T.dS (bY rfl rfl rfl rfl T.gH rfl (nl (eb (th (sq (sq (rg (lP rfl rfl rfl T.aF (nl (th (rg (al (key:=14) T.z3 (eC eZ) fun b14=>(sP (φ:=int (i:Int)) rfl rfl rfl T.aF rfl (nl (th (rg (lP rfl rfl rfl T.aF (bi rfl rfl (aK i6) (sP (φ:=int ((i+1:Nat):Int)) rfl rfl rfl T.aF rfl (nl ?_))))))))))))))))))))))))))))))
      have hN0:WI s xss2 (f1,f2) (i+1) q2 mm2 (bA++ [(gG es)]):=by
       exact UU hR0
      exact ln (⟨i+1,b14,v2,q2,mm2,v166,bA++ [(gG es)]⟩:Nat × Nat × Value × (List (Int × Int)) × (List ((Int × Int) × Int)) × Value × (List (List (Int × Int)))) hN0 dO ⟨id,id,id,id,id,id,id,tV⟩ ⟨rI,rI,rI,rI,rI,rI,rI,rI,rI,rI,rI,rI,rI,tV⟩
    ·try simp at hc4
     refine ex (xt_ (xt_ (xb (th (sq (rg (OG gE 13 130 1 noM (fun _=>J) J J J (by decide) (lPA J J T.cD J (sPA (cs':= [fre w0.heap.size (sl 1 rE_ s.aC),fre w0.heap.size (sl 1 gE bA)]) J J J T.cD J J (nl (th (rt ?_))))))))))))
     exact rE ⟨⟨s.aC,bA⟩,xss2,q,mm,hSE,by rw[←hJ3,show q.length=i by omega];exact hWI,J⟩ [.cell 4 43] J [agg [fre w0.heap.size (sl 1 rE_ s.aC),fre w0.heap.size (sl 1 gE bA)]] ⟨.agg J J T.cD J J,tV⟩ J trivial eX
end wit
end
end Go.Proofs.YtcjemmihcplgdaaGreatDoor
