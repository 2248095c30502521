/- The walks of the functions and the plain laws. Own texts of this claim, packed: ZdsortE, Zdwit. -/
import Derived.Test.YtcjemmihcplgdaaGreatDoorX04
import Derived.Test.YtcjemmihcplgdaaGreatDoorX12
import Derived.Test.YtcjemmihcplgdaaGreatDoorX09
import Derived.Test.YtcjemmihcplgdaaGreatDoorX11
import Derived.Test.YtcjemmihcplgdaaGreatDoorX08
set_option linter.all false
namespace Go.Proofs.YtcjemmihcplgdaaGreatDoor
open AL Go
set_option maxRecDepth 100000
section
open Go.Sort
namespace sortE
def lays97_ren:Go.Shelf.Ren:=⟨fun|6=>97|15=>147|14=>146|28=>184|29=>185|20=>176|21=>177|22=>178|23=>179|24=>180|25=>181|26=>182|27=>183|46=>221|47=>222|48=>223|49=>224|50=>225|57=>238|n=>n,fun|22=>103|24=>105|25=>128|3=>3|39=>188|0=>0|53=>222|55=>224|4=>4|46=>216|45=>215|50=>93|5=>5|9=>9|66=>258|70=>262|76=>281|77=>282|n=>n,fun n=>n⟩
theorem lays97:SlLaysF0.n6 Tryz.prog lays97_ren where
 mixed:=by kernel_rfl
 f6:=⟨"slices.SortFunc[[]makeweight/api.Edge,makeweight/api.Edge]",by decide,Tryz.func97.trans (congrArg some kR)⟩
 f14:=⟨"slices.pdqsortCmpFunc[makeweight/api.Edge]",by decide,Tryz.func146.trans (congrArg some kR)⟩
 f15:=Tryz.func147.trans (congrArg some kR)
 f20:=⟨"slices.insertionSortCmpFunc[makeweight/api.Edge]",by decide,Tryz.func176.trans (congrArg some kR)⟩
 f21:=⟨"slices.heapSortCmpFunc[makeweight/api.Edge]",by decide,Tryz.func177.trans (congrArg some kR)⟩
 f22:=⟨"slices.breakPatternsCmpFunc[makeweight/api.Edge]",by decide,Tryz.func178.trans (congrArg some kR)⟩
 f23:=⟨"slices.choosePivotCmpFunc[makeweight/api.Edge]",by decide,Tryz.func179.trans (congrArg some kR)⟩
 f24:=⟨"slices.reverseRangeCmpFunc[makeweight/api.Edge]",by decide,Tryz.func180.trans (congrArg some kR)⟩
 f25:=⟨"slices.partialInsertionSortCmpFunc[makeweight/api.Edge]",by decide,Tryz.func181.trans (congrArg some kR)⟩
 f26:=⟨"slices.partitionEqualCmpFunc[makeweight/api.Edge]",by decide,Tryz.func182.trans (congrArg some kR)⟩
 f27:=⟨"slices.partitionCmpFunc[makeweight/api.Edge]",by decide,Tryz.func183.trans (congrArg some kR)⟩
 f28:=Tryz.func184.trans (congrArg some kR)
 f29:=Tryz.func185.trans (congrArg some kR)
 f46:=⟨"slices.siftDownCmpFunc[makeweight/api.Edge]",by decide,Tryz.func221.trans (congrArg some kR)⟩
 f47:=Tryz.func222.trans (congrArg some kR)
 f48:=Tryz.func223.trans (congrArg some kR)
 f49:=⟨"slices.medianAdjacentCmpFunc[makeweight/api.Edge]",by decide,Tryz.func224.trans (congrArg some kR)⟩
 f50:=⟨"slices.medianCmpFunc[makeweight/api.Edge]",by decide,Tryz.func225.trans (congrArg some kR)⟩
 f57:=⟨"slices.order2CmpFunc[makeweight/api.Edge]",by decide,Tryz.func238.trans (congrArg some kR)⟩
 t0:=Tryz.underlying0
 a0:=Tryz.isAgg0
 z0:=Tryz.sizeOf0
 v0:=Tryz.zeroValue0
 t3:=Tryz.underlying3
 a3:=Tryz.isAgg3
 z3:=Tryz.sizeOf3
 v3:=Tryz.zeroValue3
 t4:=Tryz.underlying4
 a4:=Tryz.isAgg4
 z4:=Tryz.sizeOf4
 v4:=Tryz.zeroValue4
 t5:=Tryz.underlying5
 a5:=Tryz.isAgg5
 z5:=Tryz.sizeOf5
 v5:=Tryz.zeroValue5
 t9:=Tryz.underlying9
 a9:=Tryz.isAgg9
 z9:=Tryz.sizeOf9
 v9:=Tryz.zeroValue9
 t22:=Tryz.underlying103
 a22:=Tryz.isAgg103
 z22:=Tryz.sizeOf103
 v22:=Tryz.zeroValue103
 t25:=Tryz.underlying128
 a25:=Tryz.isAgg128
 z25:=Tryz.sizeOf128
 v25:=Tryz.zeroValue128
 t39:=Tryz.underlying188
 a39:=Tryz.isAgg188
 z39:=Tryz.sizeOf188
 v39:=Tryz.zeroValue188
 t45:=Tryz.underlying215
 a45:=Tryz.isAgg215
 z45:=Tryz.sizeOf215
 v45:=Tryz.zeroValue215
 t46:=Tryz.underlying216
 a46:=Tryz.isAgg216
 z46:=Tryz.sizeOf216
 v46:=Tryz.zeroValue216
 t50:=Tryz.underlying93
 a50:=Tryz.isAgg93
 z50:=Tryz.sizeOf93
 v50:=Tryz.zeroValue93
 t53:=Tryz.underlying222
 a53:=Tryz.isAgg222
 z53:=Tryz.sizeOf222
 v53:=Tryz.zeroValue222
 t55:=Tryz.underlying224
 a55:=Tryz.isAgg224
 z55:=Tryz.sizeOf224
 v55:=Tryz.zeroValue224
 t66:=Tryz.underlying258
 a66:=Tryz.isAgg258
 z66:=Tryz.sizeOf258
 v66:=Tryz.zeroValue258
 t70:=Tryz.underlying262
 a70:=Tryz.isAgg262
 z70:=Tryz.sizeOf262
 v70:=Tryz.zeroValue262
 t76:=Tryz.underlying281
 a76:=Tryz.isAgg281
 z76:=Tryz.sizeOf281
 v76:=Tryz.zeroValue281
 t77:=Tryz.underlying282
 a77:=Tryz.isAgg282
 z77:=Tryz.sizeOf282
 v77:=Tryz.zeroValue282
def cfE (p q:BP):Int:=if p.1.1=q.1.1 then p.1.2- q.1.2 else p.1.1- q.1.1
theorem cfE_lex (p q:BP):decide (cfE p q<0)=lexB p.1 q.1:=by
 obtain⟨⟨p1,p2⟩,hp⟩:=p
 obtain⟨⟨q1,q2⟩,hq⟩:=q
 unfold cfE lexB
 dsimp only
 split
 ·next h=>subst h;simp;omega
 ·next h=>simp[h];omega
theorem cmpW_ok (p q:BP) (W:World):Calls Tryz.prog 128 #[.agg #[.int .i64 p.1.1,.int .i64 p.1.2],.agg #[.int .i64 q.1.1,.int .i64 q.1.2]] W fun en W'=>en= .returned (.int .i64 (cfE p q))∧∃n os,W'=grow (W.drewN n) os:=by
 obtain⟨⟨p1,p2⟩,hp⟩:=p
 obtain⟨⟨q1,q2⟩,hq⟩:=q
 unfold bdP at hp hq
 dsimp only at hp hq ⊢
 go_enter Tryz.func128,Tryz.ntmps128
 go_wp2
 ·rename_i h
  go_ret
  refine⟨?_,0,#[Obj.cells #[Value.int IntKind.i64 p1,Value.int IntKind.i64 p2] 105,Obj.cells #[Value.int IntKind.i64 q1,Value.int IntKind.i64 q2] 105],rfl⟩
  unfold cfE;rw[if_neg (by simpa using h)];rfl
 ·rename_i h
  go_ret
  refine⟨?_,0,#[Obj.cells #[Value.int IntKind.i64 p1,Value.int IntKind.i64 p2] 105,Obj.cells #[Value.int IntKind.i64 q1,Value.int IntKind.i64 q2] 105],rfl⟩
  unfold cfE;rw[if_pos (by simpa using h)];rfl
theorem SortcmpW_ok (v:Value) (xs:List (Int × Int)) (hb:∀p∈xs,bdP p):AL.Fn Tryz.prog 97 [osl 5 v,eqv (.func (.func 128) #[] #[])] [(5,own v 105 2 pE xs)] (ι:=Unit) (fun _ _=>tup []) (fun _=> [(5,own v 105 2 pE (sortP xs))]):=
 sort_ok lays97 rfl (isAgg_of kR) (ent_of kR) cfE cfE_lex cmpW_ok v xs hb
end sortE
end
section
open ref01 ref03 ref04 ref06 prog prog2 prog3 prog4 prog5 prog6 prog13 prog15 starts search Part Rungs LeftM TrimM RoundM BisM BisM5 WalkM StepM WitM refw judg
def gE:List (Int × Int)→List AV:=fun l=> [sl 2 pE l]
def edgesN (N:Nat):List (Int × Int)→List AV:=fun l=> [fre N (sl 2 pE l)]
instance (l:List (Int × Int)):OneAll (gE l):=inferInstanceAs (OneAll [sl 2 pE l])
instance (N:Nat) (l:List (Int × Int)):OneAll (edgesN N l):=inferInstanceAs (OneAll [fre N (sl 2 pE l)])
abbrev sys (m:SSys):AV:=agg [strs m.aC,sl 1 gE m.sT]
abbrev nsys (N:Nat) (m:SSys):AV:=agg [fre N (strs m.aC),fre N (sl 1 gE m.sT)]
instance:FlatE pE:=flat2 (f:=fun p:Int × Int=> .int .i64 p.1) (g:=fun p=> .int .i64 p.2)
def intV (x:Int):AV:=int x
def halfS (T:SS) (k:Nat):List (List Int):=(sets0 T).take k++List.replicate (T.sT.length- k) []
theorem half_len {T:SS} {k:Nat} (h:k≤T.sT.length):(halfS T k).length=T.sT.length:=by simp[halfS,sets0];omega
theorem half_zero (T:SS):List.replicate T.sT.length []=halfS T 0:=by simp[halfS]
theorem half_end {T:SS} {k:Nat} (h:k=T.sT.length):halfS T k=sets0 T:=by
 subst h;unfold halfS
 rw[Nat.sub_self,List.replicate_zero,List.append_nil,List.take_of_length_le (by simp[sets0])]
theorem half_step {T:SS} {k:Nat} (h:k<T.sT.length):(halfS T k).set k [ix (ix T.sT k).aP 0]=halfS T (k+1):=by
 have hl:(sets0 T).length=T.sT.length:=by simp[sets0]
 have e:ix (sets0 T) k= [ix (ix T.sT k).aP 0]:=by unfold sets0;rw[TurnM.ix_mapS h]
 unfold halfS
 rw[take_s O,e,List.set_append_right _ _ (by simp;omega),List.append_assoc]
 congr 1
 have:T.sT.length- k=(T.sT.length- (k+1))+1:=by omega
 rw[this,List.replicate_succ,show k- ((sets0 T).take k).length=0 by simp;omega];rfl
namespace T
theorem map165:MapT Tryz.prog 165 162 3 pairV pairD:=mapT_pair Tryz.underlying165 Tryz.underlying162 kR (by decide+kernel) kR kR ⟨rfl,rfl,by kernel_rfl,by kernel_rfl⟩ ⟨rfl,rfl,by kernel_rfl,by kernel_rfl⟩ kR kR
theorem zvi3:∀w F,∃u,(zeroValue 3).run Tryz.prog w= .ok u w∧(intV 0).p w F u:=zeroV_of (v:= .int .i64 0) kR _ (fun _ _=>eqv_rfl)
theorem z43:ZeroIs Tryz.prog 43 [.slice none 0 0,.slice none 0 0]:=zeroIs_of kR
theorem mk108:MakeT Tryz.prog 108 36 1 24 [.slice none 0 0]:=makeT_of kR kR
theorem z108:ZeroIs Tryz.prog 108 [.slice none 0 0]:=zeroIs_of kR
theorem one108:IsOne Tryz.prog 108:=isOne_of kR
theorem sl108:IsSlice Tryz.prog 108 36 1:=isSlice_of kR
theorem sl95:IsSlice Tryz.prog 95 162 2:=isSlice_of kR
theorem agg162:IsAgg Tryz.prog 162 2:=isAgg_of kR
theorem z162:ZeroIs Tryz.prog 162 [.int .i64 0,.int .i64 0]:=zeroIs_of kR
theorem fld162_0:FieldAt Tryz.prog 162 0 0:=fieldAt_of kR
theorem fld162_1:FieldAt Tryz.prog 162 1 1:=fieldAt_of kR
theorem ent127:Ent Tryz.prog 127:=ent_of kR
theorem z165:ZeroIs Tryz.prog 165 [.map none]:=zeroIs_of kR
theorem one165:IsOne Tryz.prog 165:=isOne_of kR
theorem z95:ZeroIs Tryz.prog 95 [.slice none 0 0]:=zeroIs_of kR
theorem one95:IsOne Tryz.prog 95:=isOne_of kR
theorem st43:StructT Tryz.prog 43 [(0,1),(1,1)] [.slice none 0 0,.slice none 0 0]:=structT_of kR kR
theorem agg43:IsAgg Tryz.prog 43 2:=isAgg_of kR
theorem z103:ZeroIs Tryz.prog 103 [.slice none 0 0]:=zeroIs_of kR
theorem one103:IsOne Tryz.prog 103:=isOne_of kR
theorem st105:StructT Tryz.prog 105 [(0,1),(1,1)] [.int .i64 0,.int .i64 0]:=structT_of kR kR
theorem mk103:MakeT Tryz.prog 103 105 2 16 [.int .i64 0,.int .i64 0]:=makeT_of kR kR
theorem ent97:Ent Tryz.prog 97:=ent_of kR
theorem fld43_1:FieldAt Tryz.prog 43 1 1:=fieldAt_of kR
theorem one41:IsOne Tryz.prog 41:=isOne_of kR
theorem mk41:MakeT Tryz.prog 41 103 1 24 [.slice none 0 0]:=makeT_of kR kR
end T
namespace wit
theorem Witness_ok (s:SS) (hT:oK s) (want:List (Int × Int)) (hw:Wants s want):
 AL.Fn Tryz.prog 71 [spec s,sl 2 pE want] [] (ι:= { m:SSys//WitOK s want m }) (fun N i=>nsys N i.1) (fun _=> []):=by
 refine fnI Tryz.func71 rfl rfl (fun w0 F0=> ?_)
 have hf0:=hT.few0;have hf1:=hT.few1;have hn8:=hT.n8;have hwl:=hw.few
 refine fcC (inhS 0 J) (fun hS0=> ?_)
 obtain⟨hsa0,hss0,hse0⟩:=sLn hS0
 refine fcC (slenI 1 J) (fun hm1=> ?_)
 refine sq (rg (bx (key:=2) (cs:= [sl 1 rE_ s.aC,sl 2 sE s.sT]) J fun b2=>(al (key:=4) T.z43 (eC (eC eZ)) fun b4=>(nl (th (sq (rg (fP J T.fld25_1 (lP J J J T.one23 (fc (slenI 23 J) fun hm23=>(lnF J T.sl23 (mk (key:=25) (m:=s.sT.length) (enc:=eqvE) (y:=(.slice none 0 0:Value)) J J T.mk108 (eC eZ) mL mL fun v25=>(al (key:=5) T.z108 (eC eZ) fun b5=>(storePO J J J J T.one108 J (nl (th (sq (sq (rg (nbB 251 s.sT.length 3 1 nE (fP J T.fld25_1 (lP J J J T.one23 (lnF J T.sl23 (mv (nl (th (bk ?_)))))))))))))))))))))))))))
 have hI0_0:0≤s.sT.length:=by
  first|omega|simp
 have hI0_1:(List.replicate s.sT.length (.slice none 0 0:Value)).length=s.sT.length∧(List.replicate s.sT.length [])=halfS s 0:=by
  exact⟨by simp,half_zero s⟩
 refine lp (κ:=Nat × (List Value) × (List (List Int))) (fun p=> [(1,sl 2 pE want),(2,ptr 2 b2 0),(4,ptr 4 b4 0),(5,ptr 5 b5 0),(27,sl 2 sE s.sT),(28,int (s.sT.length:Int)),(29,int (p.1:Int))]) (fun p=> [(2,cell b2 [sl 1 rE_ s.aC,sl 2 sE s.sT]),(4,cell b4 [eqv (.slice none 0 0),eqv (.slice none 0 0)]),(5,cell b5 [osl 25 v25]),(25,own v25 36 1 eqvE p.2.1),(251,bigown p.2.1 3 1 nE p.2.2 none)]) (fun p=>(p.1≤s.sT.length)∧(p.2.1.length=s.sT.length∧p.2.2=halfS s p.1)) (fun p=>s.sT.length- p.1) ⟨0,List.replicate s.sT.length (.slice none 0 0:Value),List.replicate s.sT.length []⟩ ⟨hI0_0,hI0_1⟩ ⟨id,id,id,id,id,id,id,tV⟩ ⟨rI,rI,rI,rI,rI,tV⟩ ?_
 intro⟨k,us,xss⟩ hG0
 obtain⟨hk0,⟨hul,hxs⟩⟩:(k≤s.sT.length)∧(us.length=s.sT.length∧xss=halfS s k):=hG0
 show Ct _ _ _ _ [(1,sl 2 pE want),(2,ptr 2 b2 0),(4,ptr 4 b4 0),(5,ptr 5 b5 0),(27,sl 2 sE s.sT),(28,int (s.sT.length:Int)),(29,int (k:Int))] [(2,cell b2 [sl 1 rE_ s.aC,sl 2 sE s.sT]),(4,cell b4 [eqv (.slice none 0 0),eqv (.slice none 0 0)]),(5,cell b5 [osl 25 v25]),(25,own v25 36 1 eqvE us),(251,bigown us 3 1 nE xss none)] _
 have hxl:xss.length=s.sT.length:=by rw[hxs];exact half_len O
 refine sq (rg (bi J J b_lss (nl (th (sq ?_)))))
 refine cd J (fun hc0=> ?_) (fun hc0=> ?_)
 ·try simp at hc0
  have hne:0<(ix s.sT k).aP.length:=hw.ne k O
  refine sk (th (sq (bk (sq (rg (mv (iF J J T.sl23 O gB (lFA J T.agg81 (Nat.le_of_ble_eq_true J) (al (key:=7) T.z81 (eC (eC eZ)) fun b7=>(ag (sPA (cs':= [sl 1 nE (ix s.sT k).aP,sl 1 nE (ix s.sT k).next]) J J J T.agg81 J J (nl (th (tkBC 251 99 k J J (by decide) (gK O) (gK O) ?_))))))))))))))
  refine drH (nh:=9) [0,0,0,4,12,28,60,127,255] [(none,[5]),(none,[]),(none,[]),(none,[7]),(none,[]),(none,[]),(some 40,[]),(none,[25]),(some 25,[25])] T.mixed kR kR ?_
  refine stv (d:=34) (fun β0=>osl 25 v25) [5] J (fun β β' hb=>J) (fun β0 _ _ _ _ gq gh kq=>lP (gq.1.trans J) (gh.1.trans J) J T.one108 kq) ?_
  refine stv (d:=35) (fun β0=>int (k:Int)) [] J (fun β β' hb=>J) (fun β0 _ _ _ _ gq gh kq=>mv' (gq.1.trans J) kq) ?_
  refine stv (d:=36) (fun β0=>ptr 7 b7 0) [] J (fun β β' hb=>J) (fun β0 _ _ _ _ gq gh kq=>fP (gq.1.trans J) T.fld81_0 kq) ?_
  refine stv (d:=37) (fun β0=>sl 1 nE (ix s.sT k).aP) [7] J (fun β β' hb=>J) (fun β0 _ _ _ _ gq gh kq=>lP (gq.1.trans J) (gh.1.trans J) J T.one36 kq) ?_
  refine stv (d:=38) (fun β0=>fp [int (ix (ix s.sT k).aP 0)]) [] J (fun β β' hb=>J) (fun β0 _ _ _ _ gq gh kq=>iF (gq.1.trans J) J T.sl36 O (gI O O) kq) ?_
  refine stv (d:=39) (fun β0=>int (ix (ix s.sT k).aP 0)) [] J (fun β β' hb=>J) (fun β0 _ _ _ _ gq gh kq=>lF (gq.1.trans J) J T.one3 kq) ?_
  refine stc (d:=40) (e:=3) (n:=1) (enc:=nE) (xs:= [(ix (ix s.sT k).aP 0)]) 40 [] rfl (fun β0 _ _ _ _ gq gh kq=>bsO 40 (enc:=nE) (xs:= [(ix (ix s.sT k).aP 0)]) (css:= [[int (ix (ix s.sT k).aP 0)]]) T.mk36 ⟨rfl,rfl,p1 (φ:=int (ix (ix s.sT k).aP 0)) (by exact(gq.1.trans rfl)),tV⟩ rfl rfl rfl rfl fun v=>kq v) ?_
  refine stv (d:=41) (fun β0=>eptr 25 v25 1 k 0) [25] J (fun β β' hb=>J) (fun β0 _ _ _ _ gq gh kq=>iO (gq.1.trans J) (gh.1.trans J) (gq.2.1.trans J) T.sl108 O O kq) ?_
  refine stw 25 (fun β0=>own v25 36 1 eqvE (us.set k (sv (β0 6)))) [25] J (fun β β' hb=>by first|rw[hb 6 J]|(dsimp only;rw[hb 6 J])) (fun β0 _ _ _ _ gq gh kq=>sO (φ:=eqv (sv (β0 6))) (gq.1.trans J) (gh.1.trans J) ((gq.2.1.trans J).trans osl_is) T.one36 gB J (y':=(sv (β0 6))) J kq) ?_
  refine pnH fun β0=>(nl (eb (th (rg (gvB (us:=us) 251 40 k J J (by decide) O (bi J J (b_add i6) (mv (nl ?_))))))))
  have hN0:(k+1)≤s.sT.length:=by
   first|omega|simp_all
  have hN1:(us.set k (sv (β0 6))).length=s.sT.length∧(xss.set k [(ix (ix s.sT k).aP 0)])=halfS s (k+1):=by
   exact⟨by simpa using hul,by rw[hxs];exact half_step hc0⟩
  exact ln (⟨k+1,us.set k (sv (β0 6)),xss.set k [(ix (ix s.sT k).aP 0)]⟩:Nat × (List Value) × (List (List Int))) ⟨hN0,hN1⟩ dO ⟨id,id,id,id,id,id,id,tV⟩ ⟨rI,rI,rI,rI,rI,tV⟩
 ·try simp at hc0
  refine ex (xt_ (xt_ (xb (th (sq (sq (rg (mv (lnF J T.sl95 (mv (nl (th (bk ?_)))))))))))))
  have hI1_0:0≤want.length:=by
   first|omega|simp
  have hI1_1:us.length=s.sT.length∧SetsOK s (want.take 0) xss:=by
   exact⟨hul,by rw[hxs,half_end O];exact sets_zero s⟩
  refine lp (κ:=Nat × (List Value) × (List (List Int))) (fun p=> [(1,sl 2 pE want),(2,ptr 2 b2 0),(4,ptr 4 b4 0),(5,ptr 5 b5 0),(43,sl 2 pE want),(44,int (want.length:Int)),(45,int (p.1:Int))]) (fun p=> [(2,cell b2 [sl 1 rE_ s.aC,sl 2 sE s.sT]),(4,cell b4 [eqv (.slice none 0 0),eqv (.slice none 0 0)]),(5,cell b5 [osl 25 v25]),(25,own v25 36 1 eqvE p.2.1),(251,bigown p.2.1 3 1 nE p.2.2 none)]) (fun p=>(p.1≤want.length)∧(p.2.1.length=s.sT.length∧SetsOK s (want.take p.1) p.2.2)) (fun p=>want.length- p.1) ⟨0,us,xss⟩ ⟨hI1_0,hI1_1⟩ ⟨id,id,id,id,id,id,id,tV⟩ ⟨rI,rI,rI,rI,rI,tV⟩ ?_
  intro⟨k1,us2,xss2⟩ hG1
  obtain⟨hk1,⟨hul2,hS⟩⟩:(k1≤want.length)∧(us2.length=s.sT.length∧SetsOK s (want.take k1) xss2):=hG1
  show Ct _ _ _ _ [(1,sl 2 pE want),(2,ptr 2 b2 0),(4,ptr 4 b4 0),(5,ptr 5 b5 0),(43,sl 2 pE want),(44,int (want.length:Int)),(45,int (k1:Int))] [(2,cell b2 [sl 1 rE_ s.aC,sl 2 sE s.sT]),(4,cell b4 [eqv (.slice none 0 0),eqv (.slice none 0 0)]),(5,cell b5 [osl 25 v25]),(25,own v25 36 1 eqvE us2),(251,bigown us2 3 1 nE xss2 none)] _
  have hxl2:=hS.len
  refine sq (rg (bi J J b_lss (nl (th (sq ?_)))))
  refine cd J (fun hc1=> ?_) (fun hc1=> ?_)
  ·try simp at hc1
   obtain⟨hw0,hw1,hw2⟩:=hw.ok _ (ix_memS hc1)
   refine sk (th (sq (bk (sq (rg (iF J J T.sl95 O gB (lFA J T.agg162 (Nat.le_of_ble_eq_true J) (al (key:=9) T.z162 (eC (eC eZ)) fun b9=>(sPA (cs':= [int ((ix want k1).1),int ((ix want k1).2)]) J J J T.agg162 J J (nl (th (sq (tkBC 251 99 ((ix want k1).1).toNat J J (by decide) (gK O) (gK O) (dr (nh:=9) [0,0,2,7,15,0,32,127,255] T.mixed kR ?_))))))))))))))
   refine st_ J (fun _ _ _ gq kq=>lP (gq.1.trans J) J J T.one108 kq) ?_
   refine st_ J (fun _ _ _ gq kq=>fP (gq.1.trans J) T.fld162_0 kq) ?_
   refine st_ J (fun _ _ _ gq kq=>lP (gq.1.trans J) J J T.one3 kq) ?_
   refine st_ J (fun _ _ _ gq kq=>iO (gq.1.trans J) J (gq.2.1.trans J) T.sl108 O O kq) ?_
   refine st_ J (fun _ _ _ gq kq=>lO (gq.1.trans J) J gB J T.one36 kq) ?_
   refine st_ J (fun _ _ _ gq kq=>fP (gq.1.trans J) T.fld162_1 kq) ?_
   refine st_ J (fun _ _ _ gq kq=>lP (gq.1.trans J) J J T.one3 kq) ?_
   refine st_ J (fun _ _ _ gq kq=>calB (φs:= [sl 1 nE (ix xss2 ((ix want k1).1).toNat),int ((ix want k1).2)]) ⟨.own 99 ((gq.1.trans J).trans osl_is.symm) J,.here (gq.2.1.trans J),tV⟩ (judg.Contains_ok _ _) T.ent127 kq) ?_
   refine st_ J (fun _ _ _ gq kq=>no (gq.1.trans J) kq) ?_
   refine pn (nl (th ?_))
   refine cd J (fun hc2=> ?_) (fun hc2=> ?_)
   ·try simp at hc2
    have hsl:=sets_len hT hw hS (fun p hp=>List.mem_of_mem_take hp) (x:=((ix want k1).1).toNat) O
    refine drH (nh:=14) [0,0,2,0,0,16,56,120,0,256,768,2040,4095,8191] [(none,[5]),(none,[]),(none,[9]),(none,[5]),(none,[]),(none,[9]),(none,[25]),(none,[25]),(none,[]),(none,[9]),(none,[]),(some 99,[99]),(none,[25]),(some 25,[25])] T.mixed kR kR ?_
    refine stv (d:=58) (fun β1=>osl 25 v25) [5] J (fun β β' hb=>J) (fun β1 _ _ _ _ gq gh kq=>lP (gq.1.trans J) (gh.1.trans J) J T.one108 kq) ?_
    refine stv (d:=59) (fun β1=>ptr 9 b9 0) [] J (fun β β' hb=>J) (fun β1 _ _ _ _ gq gh kq=>fP (gq.1.trans J) T.fld162_0 kq) ?_
    refine stv (d:=60) (fun β1=>int ((ix want k1).1)) [9] J (fun β β' hb=>J) (fun β1 _ _ _ _ gq gh kq=>lP (gq.1.trans J) (gh.1.trans J) J T.one3 kq) ?_
    refine stv (d:=61) (fun β1=>osl 25 v25) [5] J (fun β β' hb=>J) (fun β1 _ _ _ _ gq gh kq=>lP (gq.1.trans J) (gh.1.trans J) J T.one108 kq) ?_
    refine stv (d:=62) (fun β1=>ptr 9 b9 0) [] J (fun β β' hb=>J) (fun β1 _ _ _ _ gq gh kq=>fP (gq.1.trans J) T.fld162_0 kq) ?_
    refine stv (d:=63) (fun β1=>int ((ix want k1).1)) [9] J (fun β β' hb=>J) (fun β1 _ _ _ _ gq gh kq=>lP (gq.1.trans J) (gh.1.trans J) J T.one3 kq) ?_
    refine stv (d:=64) (fun β1=>eptr 25 v25 1 ((ix want k1).1).toNat 0) [25] J (fun β β' hb=>J) (fun β1 _ _ _ _ gq gh kq=>iO (gq.1.trans J) (gh.1.trans J) (gq.2.1.trans J) T.sl108 O O kq) ?_
    refine stv (d:=65) (fun β1=>eqv (ix us2 ((ix want k1).1).toNat)) [25] J (fun β β' hb=>J) (fun β1 _ _ _ _ gq gh kq=>lO (gq.1.trans J) (gh.1.trans J) gB J T.one36 kq) ?_
    refine stv (d:=66) (fun β1=>ptr 9 b9 1) [] J (fun β β' hb=>J) (fun β1 _ _ _ _ gq gh kq=>fP (gq.1.trans J) T.fld162_1 kq) ?_
    refine stv (d:=67) (fun β1=>int ((ix want k1).2)) [9] J (fun β β' hb=>J) (fun β1 _ _ _ _ gq gh kq=>lP (gq.1.trans J) (gh.1.trans J) J T.one3 kq) ?_
    refine stv (d:=68) (fun β1=>sl 1 nE [((ix want k1).2)]) [] J (fun β β' hb=>J) (fun β1 _ _ _ _ gq gh kq=>bsE (enc:=nE) (xs:= [((ix want k1).2)]) (css:= [[int ((ix want k1).2)]]) T.mk36 ⟨J,J,p1 (φ:=int ((ix want k1).2)) (by exact(gq.1.trans J)),tV⟩ J J J J kq) ?_
    refine stc (d:=69) (e:=3) (n:=1) (enc:=nE) (xs:=(ix xss2 ((ix want k1).1).toNat)++ [((ix want k1).2)]) 99 [99] rfl (fun β1 _ _ _ _ gq gh kq=>ap (key:=99) (zs:= [((ix want k1).2)]) (fun h=>eqv_of (gq.1.trans rfl) h) (gh.1.trans rfl) (gq.2.1.trans rfl) rfl T.mk36 (by unfold maxL at*;simp;omega) (by unfold maxL at*;simp;omega) fun v=>kq v) ?_
    refine stv (d:=70) (fun β1=>eptr 25 v25 1 ((ix want k1).1).toNat 0) [25] J (fun β β' hb=>J) (fun β1 _ _ _ _ gq gh kq=>iO (gq.1.trans J) (gh.1.trans J) (gq.2.1.trans J) T.sl108 O O kq) ?_
    refine stw 25 (fun β1=>own v25 36 1 eqvE (us2.set ((ix want k1).1).toNat (sv (β1 11)))) [25] J (fun β β' hb=>by first|rw[hb 11 J]|(dsimp only;rw[hb 11 J])) (fun β1 _ _ _ _ gq gh kq=>sO (φ:=eqv (sv (β1 11))) (gq.1.trans J) (gh.1.trans J) ((gq.2.1.trans J).trans osl_is) T.one36 gB J (y':=(sv (β1 11))) J kq) ?_
    refine pnH fun β1=>(nl (eb (th (rg (gvB (us:=us2) 251 99 ((ix want k1).1).toNat J J (by decide) O (bi J J (b_add i6) (mv (nl ?_))))))))
    have hN0:(k1+1)≤want.length:=by
     first|omega|simp_all
    have hN1:(us2.set ((ix want k1).1).toNat (sv (β1 11))).length=s.sT.length∧SetsOK s (want.take (k1+1)) (xss2.set ((ix want k1).1).toNat ((ix xss2 ((ix want k1).1).toNat)++ [((ix want k1).2)])):=by
     refine⟨by simpa using hul2,?_⟩
     rw[take_s hc1]
     have:=sets_add hS hw0 hw1
     unfold setsAdd at this
     rw[if_neg hc2] at this
     exact this
    exact ln (⟨k1+1,us2.set ((ix want k1).1).toNat (sv (β1 11)),xss2.set ((ix want k1).1).toNat ((ix xss2 ((ix want k1).1).toNat)++ [((ix want k1).2)])⟩:Nat × (List Value) × (List (List Int))) ⟨hN0,hN1⟩ dO ⟨id,id,id,id,id,id,id,tV⟩ ⟨rI,rI,rI,rI,rI,tV⟩
   ·try simp at hc2
    refine gvSC 251 99 ((ix want k1).1).toNat rfl rfl (by decide) (gK O) (gK O) (sk (eb (th (rg (bi rfl rfl (b_add i6) (mv (nl ?_)))))))
    have hN0:(k1+1)≤want.length:=by
     first|omega|simp_all
    have hN1:us2.length=s.sT.length∧SetsOK s (want.take (k1+1)) xss2:=by
     refine⟨hul2,?_⟩
     rw[take_s hc1]
     have:=sets_add hS hw0 hw1
     unfold setsAdd at this
     rw[if_pos hc2] at this
     exact this
    exact ln (⟨k1+1,us2,xss2⟩:Nat × (List Value) × (List (List Int))) ⟨hN0,hN1⟩ dO ⟨id,id,id,id,id,id,id,tV⟩ ⟨rI,rI,rI,rI,rI,tV⟩
  ·try simp at hc1
   have hSE:SetsOK s want xss2:=by rw[show k1=want.length by omega,List.take_length] at hS;exact hS
   have hne0:0<(ix s.sT 0).aP.length:=hw.ne 0 O
   refine ex (xt_ (xt_ (xb (th (sq (rg (fP J T.fld25_1 (lP J J J T.one23 (iF J J T.sl23 O (gK (k:=0) O) (fF J T.fld81_0 (lF J J T.one36 (iF J J T.sl36 O (gK (k:=0) O) (lF J J T.one3 (bd (css:= [(0,_),(1,_)]) T.st162 (eC (eC eZ)) ⟨J,J,p1 (φ:=int 0) J,⟨J,J,p1 (φ:=int (ix (ix s.sT 0).aP 0)) J,tV⟩⟩ (al (key:=10) T.z162 (eC (eC eZ)) fun b10=>(sPA (cs':= [int 0,int (ix (ix s.sT 0).aP 0)]) J J J T.agg162 J J (nl (th (sq (sq (rg (mv (lnF J T.sl95 (bi J J b_gtr (nl (th ?_))))))))))))))))))))))))))
   refine jn (κ:=Int × Int) (fun p=> [(2,ptr 2 b2 0),(4,ptr 4 b4 0),(5,ptr 5 b5 0),(10,ptr 10 b10 0)]) (fun p=> [(2,cell b2 [sl 1 rE_ s.aC,sl 2 sE s.sT]),(4,cell b4 [eqv (.slice none 0 0),eqv (.slice none 0 0)]),(5,cell b5 [osl 25 v25]),(10,cell b10 [int p.1,int p.2]),(25,own v25 36 1 eqvE us2),(251,bigown us2 3 1 nE xss2 none)]) (fun p=>(p.1,p.2)=firstW s want) ?_ ?_
   ·
    refine cd J (fun hc3=> ?_) (fun hc3=> ?_)
    ·try simp at hc3
     refine rg (mv (iF J J T.sl95 O (gK (k:=0) O) (lFA J T.agg162 (Nat.le_of_ble_eq_true J) (sPA (cs':= [int ((ix want 0).1),int ((ix want 0).2)]) J J J T.agg162 J J (nl ?_)))))
     have hN0:(((ix want 0).1),((ix want 0).2))=firstW s want:=by
      unfold firstW;rw[if_pos O]
     exact jx ⟨(ix want 0).1,(ix want 0).2⟩ hN0 ⟨id,id,id,id,tV⟩ ⟨rI,rI,rI,rI,rI,rI,tV⟩
    ·try simp at hc3
     refine sk ?_
     have hN0:((0:Int),(ix (ix s.sT 0).aP 0))=firstW s want:=by
      unfold firstW;rw[if_neg (by simp[hc3])]
     exact jx ⟨(0:Int),ix (ix s.sT 0).aP 0⟩ hN0 ⟨id,id,id,id,tV⟩ ⟨rI,rI,rI,rI,rI,rI,tV⟩
   ·intro⟨f1,f2⟩ hG
    have hJ3:(f1,f2)=firstW s want:=hG
    have hfo:=first_ok hT hw hSE
    rw[←hJ3] at hfo
    obtain⟨hfo0,hfo1,hfo2⟩:=hfo
    dsimp only at hfo0 hfo1 hfo2
    have hfb:=acc_bd (hT.st f1.toNat O) (sets_acc hw hSE (fun _ h=>h) O hfo2)
    skip
    show At _ _ _ [(2,ptr 2 b2 0),(4,ptr 4 b4 0),(5,ptr 5 b5 0),(10,ptr 10 b10 0)] [(2,cell b2 [sl 1 rE_ s.aC,sl 2 sE s.sT]),(4,cell b4 [eqv (.slice none 0 0),eqv (.slice none 0 0)]),(5,cell b5 [osl 25 v25]),(10,cell b10 [int f1,int f2]),(25,own v25 36 1 eqvE us2),(251,bigown us2 3 1 nE xss2 none)]
    refine th (sq (rg (mkm (key:=86) (kE:=pairV) (dom:=pairD) (vE:=intV) fun b86=>(lPA rfl rfl T.agg162 rfl (AL.insert (q:=(f1,f2)) (u:=0) rfl rfl agg_pair rfl T.map165 ⟨⟨O,O⟩,⟨O,O⟩⟩ (mv (al (key:=11) T.z165 (eC eZ) fun b11=>(sP (φ:=mpv 86 b86) rfl rfl rfl T.one165 rfl (nl (th (sq (rg (lPA rfl rfl T.agg162 rfl (bsO 90 (enc:=pE) (xs:= [(f1,f2)]) (css:= [[int f1,int f2]]) T.mk95 ⟨rfl,rfl,pA (cs:= [int f1,int f2]) rfl,tV⟩ rfl rfl rfl rfl fun v90=>(al (key:=12) T.z95 (eC eZ) fun b12=>(storePO rfl rfl rfl rfl T.one95 rfl (nl (th (sq (rg (fP rfl T.fld25_0 (lP rfl rfl rfl T.one22 (calW (φs:= [sl 1 rE_ s.aC]) (φ:=fre w0.heap.size (sl 1 rE_ s.aC)) ⟨rfl,tV⟩ (prog.sClonestrE_ok _ O) T.ent78 (fun N hN=>fun h=>nw_mono hN h) (bd (css:= [(0,_)]) T.st43 (eC (eC eZ)) ⟨rfl,rfl,p1 (φ:=fre w0.heap.size (sl 1 rE_ s.aC)) rfl,tV⟩ (al (key:=13) T.z43 (eC (eC eZ)) fun b13=>(sPA (cs':= [fre w0.heap.size (sl 1 rE_ s.aC),eqv (.slice none 0 0)]) rfl rfl rfl T.agg43 rfl rfl (nl (th (sq (sq (rg (al (key:=14) T.z3 (eC eZ) fun b14=>(sP (φ:=int 0) rfl rfl rfl T.one3 rfl (nl (th (bk ?_))))))))))))))))))))))))))))))))))))
    refine nwC 130 103 1 (edgesN w0.heap.size) (kncC 13 1 (osl 130 (.slice none 0 0)) rfl rfl eq_osl ?_)
    have hI2_0:WI s xss2 (f1,f2) 0 ([(f1,f2)]:List (Int × Int)) (mset ([]:List ((Int × Int) × Int)) (f1,f2) 0) ([]:List (List (Int × Int))):=by
     exact wi_zero ⟨hfo0,hfo1,hfo2⟩
    refine lp (κ:=Nat × Nat × Value × (List (Int × Int)) × (List ((Int × Int) × Int)) × Value × (List (List (Int × Int)))) (fun p=> [(2,ptr 2 b2 0),(4,ptr 4 b4 0),(5,ptr 5 b5 0),(11,ptr 11 b11 0),(12,ptr 12 b12 0),(13,ptr 13 b13 0),(14,ptr 14 p.2.1 0)]) (fun p=> [(2,cell b2 [sl 1 rE_ s.aC,sl 2 sE s.sT]),(4,cell b4 [eqv (.slice none 0 0),eqv (.slice none 0 0)]),(5,cell b5 [osl 25 v25]),(10,cell b10 [int f1,int f2]),(11,cell b11 [mpv 86 b86]),(12,cell b12 [osl 90 p.2.2.1]),(13,cell b13 [fre w0.heap.size (sl 1 rE_ s.aC),osl 130 p.2.2.2.2.2.1]),(14,cell p.2.1 [int (p.1:Int)]),(25,own v25 36 1 eqvE us2),(86,mp b86 pairV pairD intV p.2.2.2.2.1),(90,own p.2.2.1 162 2 pE p.2.2.2.1),(130,own p.2.2.2.2.2.1 103 1 (edgesN w0.heap.size) p.2.2.2.2.2.2),(251,bigown us2 3 1 nE xss2 none)]) (fun p=>WI s xss2 (f1,f2) p.1 p.2.2.2.1 p.2.2.2.2.1 p.2.2.2.2.2.2) (fun p=>s.sT.length+want.length- p.1) ⟨0,b14,v90,([(f1,f2)]:List (Int × Int)),mset ([]:List ((Int × Int) × Int)) (f1,f2) 0,(.slice none 0 0),([]:List (List (Int × Int)))⟩ hI2_0 ⟨id,id,id,id,id,id,id,tV⟩ ⟨rI,rI,rI,rI,rI,rI,rI,rI,rI,rI,rI,rI,rI,tV⟩ ?_
    intro⟨i,c14,v,q,mm,u130,outs⟩ hG2
    have hWI:WI s xss2 (f1,f2) i q mm outs:=hG2
    show Ct _ _ _ _ [(2,ptr 2 b2 0),(4,ptr 4 b4 0),(5,ptr 5 b5 0),(11,ptr 11 b11 0),(12,ptr 12 b12 0),(13,ptr 13 b13 0),(14,ptr 14 c14 0)] [(2,cell b2 [sl 1 rE_ s.aC,sl 2 sE s.sT]),(4,cell b4 [eqv (.slice none 0 0),eqv (.slice none 0 0)]),(5,cell b5 [osl 25 v25]),(10,cell b10 [int f1,int f2]),(11,cell b11 [mpv 86 b86]),(12,cell b12 [osl 90 v]),(13,cell b13 [fre w0.heap.size (sl 1 rE_ s.aC),osl 130 u130]),(14,cell c14 [int (i:Int)]),(25,own v25 36 1 eqvE us2),(86,mp b86 pairV pairD intV mm),(90,own v 162 2 pE q),(130,own u130 103 1 (edgesN w0.heap.size) outs),(251,bigown us2 3 1 nE xss2 none)] _
    have hql:=wq_len hWI.wq hSE
    have hoi:=hWI.il
    have hol:outs.length=i:=by rw[hWI.out];simp
    refine sq (sq (rg (lP J J J T.one3 (lP J J J T.one95 (lnO J J T.sl95 (bi J J b_lss (nl (th ?_))))))))
    refine cd J (fun hc4=> ?_) (fun hc4=> ?_)
    ·try simp at hc4
     obtain⟨hq0,hq1,hq2⟩:=hWI.wq.bd _ (ix_memS hc4)
     have hqb:=acc_bd (hT.st ((ix q i).1).toNat O) (sets_acc hw hSE (fun _ h=>h) O hq2)
     refine sk (th (sq (bk (sq (rg (al (key:=15) T.z103 (eC eZ) fun b15=>(nl (th (sq (sq (rg (nw 150 105 2 pE (knc 15 0 (osl 150 (.slice none 0 0)) J J eq_osl (lP J J J T.one95 (lP J J J T.one3 (iO J J J T.sl95 O O (fO J T.fld162_1 (lO J J gB J T.one3 (cal0 (φs:= [int ((ix q i).2)]) (φ:=clo 162 [fp [int ((ix q i).2)]]) ⟨J,tV⟩ (prog3.In_ok ((ix q i).2)) T.ent124 (nl (th (bk ?_))))))))))))))))))))))
     have hR0:WN s xss2 (f1,f2) i (ix q i) q mm outs 0 ([]:List (Int × Int)):=by
      exact wn_zero hWI O
     refine rf (κ:=Value × (List (Int × Int)) × (List ((Int × Int) × Int)) × Value × (List (Int × Int))) 900 (fun p=> [(2,cell b2 [sl 1 rE_ s.aC,sl 2 sE s.sT]),(4,cell b4 [eqv (.slice none 0 0),eqv (.slice none 0 0)]),(5,cell b5 [osl 25 v25]),(10,cell b10 [int f1,int f2]),(11,cell b11 [mpv 86 b86]),(12,cell b12 [osl 90 p.1]),(13,cell b13 [fre w0.heap.size (sl 1 rE_ s.aC),osl 130 u130]),(14,cell c14 [int (i:Int)]),(15,cell b15 [osl 150 p.2.2.2.1]),(25,own v25 36 1 eqvE us2),(86,mp b86 pairV pairD intV p.2.2.1),(90,own p.1 162 2 pE p.2.1),(130,own u130 103 1 (edgesN w0.heap.size) outs),(150,own p.2.2.2.1 105 2 pE p.2.2.2.2),(251,bigown us2 3 1 nE xss2 none)]) (fun iR p=>WN s xss2 (f1,f2) i (ix q i) p.2.1 p.2.2.1 outs iR p.2.2.2.2) (fun c p=>False) J (InIt (ix q i).2 O O) T.ent162 J (fun _=>J) (fun _=>J) ⟨v,q,mm,(.slice none 0 0),([]:List (Int × Int))⟩ hR0 ⟨rI,rI,rI,rI,rI,rI,rI,rI,rI,rI,rI,rI,rI,rI,rI,tV⟩ ?_ ?_ (fun k h=>h.elim) (fun id k h=>h.elim) (fun c k h=>h.elim)
     ·intro m0 ⟨v2,q2,mm2,v150,es⟩ x0 hG0 hx0 l R w1 M1 F1 hRd
      have hR0:WN s xss2 (f1,f2) i (ix q i) q2 mm2 outs m0 es:=hG0
      show Ct _ _ _ _ _ ((900,obj l (.loop R)):: [(2,cell b2 [sl 1 rE_ s.aC,sl 2 sE s.sT]),(4,cell b4 [eqv (.slice none 0 0),eqv (.slice none 0 0)]),(5,cell b5 [osl 25 v25]),(10,cell b10 [int f1,int f2]),(11,cell b11 [mpv 86 b86]),(12,cell b12 [osl 90 v2]),(13,cell b13 [fre w0.heap.size (sl 1 rE_ s.aC),osl 130 u130]),(14,cell c14 [int (i:Int)]),(15,cell b15 [osl 150 v150]),(25,own v25 36 1 eqvE us2),(86,mp b86 pairV pairD intV mm2),(90,own v2 162 2 pE q2),(130,own u130 103 1 (edgesN w0.heap.size) outs),(150,own v150 105 2 pE es),(251,bigown us2 3 1 nE xss2 none)]) _
      obtain⟨a,rfl,ha63,hha⟩:=listOf_get hx0
      have hql2:=wq_len hR0.wi.wq hSE
      have hi2:=hR0.hi
      have hpe1:(ix q2 i).1=(ix q i).1:=by rw[hR0.pe]
      have hix:=hT.st ((ix q i).1).toNat O
      have hxl:=hix.len
      have hxl2:(ix s.sT ((ix q2 i).1).toNat).next.length=s.aC.length:=by rw[hpe1];exact hxl
      have hgo:=or_go hT (x:=((ix q i).1).toNat) O ((orAll_has _ _).2 ⟨_,sets_acc hw hSE (fun _ h=>h) O hq2,hha⟩)
      have hto:tgt s (ix q i) (a:Int)=ix (ix s.sT ((ix q2 i).1).toNat).next a:=by unfold tgt;rw[hpe1];rfl
      have htg:tgt s (ix q i) (a:Int)=ix (nxt s ((ix q i).1).toNat) a:=rfl
      have hg0:0≤tgt s (ix q i) (a:Int):=by omega
      have hg1:tgt s (ix q i) (a:Int)<(s.sT.length:Int):=by omega
      have hxs2:=hSE.len
      have hS2:=sets_len hT hw hSE (fun _ h=>h) (x:=(tgt s (ix q i) (a:Int)).toNat) O
      refine rg (ag (nl (aq hRd J (bk (sq (dr (nh:=14) [0,1,0,0,12,28,60,127,255,511,0,2047,4095,8191] T.mixed kR ?_))))))
      refine st_ J (fun _ _ _ gq kq=>fP (gq.1.trans J) T.fld25_1 kq) ?_
      refine st_ J (fun _ _ _ gq kq=>lP (gq.1.trans J) J J T.one23 kq) ?_
      refine st_ J (fun _ _ _ gq kq=>lP (gq.1.trans J) J J T.one95 kq) ?_
      refine st_ J (fun _ _ _ gq kq=>lP (gq.1.trans J) J J T.one3 kq) ?_
      refine st_ J (fun _ _ _ gq kq=>iO (gq.1.trans J) J (gq.2.1.trans J) T.sl95 O O kq) ?_
      refine st_ J (fun _ _ _ gq kq=>fO (gq.1.trans J) T.fld162_0 kq) ?_
      refine st_ J (fun _ _ _ gq kq=>lO (gq.1.trans J) J gB J T.one3 kq) ?_
      refine st_ J (fun _ _ _ gq kq=>iF (gq.1.trans J) (gq.2.1.trans J) T.sl23 O gB kq) ?_
      refine st_ J (fun _ _ _ gq kq=>fF (gq.1.trans J) T.fld81_1 kq) ?_
      refine st_ J (fun _ _ _ gq kq=>lF (gq.1.trans J) J T.one36 kq) ?_
      refine st_ J (fun _ _ _ gq kq=>mv' (gq.1.trans J) kq) ?_
      refine st_ J (fun _ _ _ gq kq=>iF (gq.1.trans J) (gq.2.1.trans J) T.sl36 O gB kq) ?_
      refine st_ J (fun _ _ _ gq kq=>lF (gq.1.trans J) J T.one3 kq) ?_
      refine st_ J (fun _ _ _ gq kq=>ag' (gq.1.trans J) kq) ?_
      refine pn (nl (th (sq (rg (kn 17 (int (tgt s (ix q i) (a:Int))) J (by rw[hto];exact fun h=>h) (lP J J J T.one108 (mv (iO J J J T.sl108 O O (lO J J gB J T.one36 (tkB 251 98 (tgt s (ix q i) (a:Int)).toNat J J (by decide) (gK O) (gK O) (kn 124 (osl 98 (ix us2 (tgt s (ix q i) (a:Int)).toNat)) J eq_osl (lnO J J T.sl36 (mv (nl (th (bk ?_))))))))))))))))
      have hI3_0:0≤(ix xss2 (tgt s (ix q i) (a:Int)).toNat).length:=by
       first|omega|simp
      have hI3_1:WK s xss2 (f1,f2) i (ix q i) q2 mm2 outs m0 (a:Int) 0 es:=by
       exact wk_zero hR0 (a:Int)
      refine lp (κ:=Nat × Value × (List (Int × Int)) × (List ((Int × Int) × Int)) × Value × (List (Int × Int))) (fun p=> [(4,ptr 4 b4 0),(11,ptr 11 b11 0),(12,ptr 12 b12 0),(15,ptr 15 b15 0),(16,int (a:Int)),(17,int (tgt s (ix q i) (a:Int))),(124,osl 98 (ix us2 (tgt s (ix q i) (a:Int)).toNat)),(125,int ((ix xss2 (tgt s (ix q i) (a:Int)).toNat).length:Int)),(126,int (p.1:Int))]) (fun p=> [(2,cell b2 [sl 1 rE_ s.aC,sl 2 sE s.sT]),(4,cell b4 [eqv (.slice none 0 0),eqv (.slice none 0 0)]),(5,cell b5 [osl 25 v25]),(10,cell b10 [int f1,int f2]),(11,cell b11 [mpv 86 b86]),(12,cell b12 [osl 90 p.2.1]),(13,cell b13 [fre w0.heap.size (sl 1 rE_ s.aC),osl 130 u130]),(14,cell c14 [int (i:Int)]),(15,cell b15 [osl 150 p.2.2.2.2.1]),(25,own v25 36 1 eqvE us2),(86,mp b86 pairV pairD intV p.2.2.2.1),(90,own p.2.1 162 2 pE p.2.2.1),(98,own (ix us2 (tgt s (ix q i) (a:Int)).toNat) 3 1 nE (ix xss2 (tgt s (ix q i) (a:Int)).toNat)),(130,own u130 103 1 (edgesN w0.heap.size) outs),(150,own p.2.2.2.2.1 105 2 pE p.2.2.2.2.2),(251,bigown us2 3 1 nE xss2 (some (tgt s (ix q i) (a:Int)).toNat)),(900,obj l (.loop { R with state:= .busy }))]) (fun p=>(p.1≤(ix xss2 (tgt s (ix q i) (a:Int)).toNat).length)∧(WK s xss2 (f1,f2) i (ix q i) p.2.2.1 p.2.2.2.1 outs m0 (a:Int) p.1 p.2.2.2.2.2)) (fun p=>(ix xss2 (tgt s (ix q i) (a:Int)).toNat).length- p.1) ⟨0,v2,q2,mm2,v150,es⟩ ⟨hI3_0,hI3_1⟩ ⟨id,id,id,id,id,id,id,id,id,tV⟩ ⟨rI,rI,rI,rI,rI,rI,rI,rI,rI,rI,rI,rI,rI,rI,rI,rI,rI,tV⟩ ?_
      intro⟨k3,v3,q3,mm3,v153,es3⟩ hG3
      obtain⟨hk3,hWK⟩:(k3≤(ix xss2 (tgt s (ix q i) (a:Int)).toNat).length)∧(WK s xss2 (f1,f2) i (ix q i) q3 mm3 outs m0 (a:Int) k3 es3):=hG3
      show Ct _ _ _ _ [(4,ptr 4 b4 0),(11,ptr 11 b11 0),(12,ptr 12 b12 0),(15,ptr 15 b15 0),(16,int (a:Int)),(17,int (tgt s (ix q i) (a:Int))),(124,osl 98 (ix us2 (tgt s (ix q i) (a:Int)).toNat)),(125,int ((ix xss2 (tgt s (ix q i) (a:Int)).toNat).length:Int)),(126,int (k3:Int))] [(2,cell b2 [sl 1 rE_ s.aC,sl 2 sE s.sT]),(4,cell b4 [eqv (.slice none 0 0),eqv (.slice none 0 0)]),(5,cell b5 [osl 25 v25]),(10,cell b10 [int f1,int f2]),(11,cell b11 [mpv 86 b86]),(12,cell b12 [osl 90 v3]),(13,cell b13 [fre w0.heap.size (sl 1 rE_ s.aC),osl 130 u130]),(14,cell c14 [int (i:Int)]),(15,cell b15 [osl 150 v153]),(25,own v25 36 1 eqvE us2),(86,mp b86 pairV pairD intV mm3),(90,own v3 162 2 pE q3),(98,own (ix us2 (tgt s (ix q i) (a:Int)).toNat) 3 1 nE (ix xss2 (tgt s (ix q i) (a:Int)).toNat)),(130,own u130 103 1 (edgesN w0.heap.size) outs),(150,own v153 105 2 pE es3),(251,bigown us2 3 1 nE xss2 (some (tgt s (ix q i) (a:Int)).toNat)),(900,obj l (.loop { R with state:= .busy }))] _
      refine sq (rg (bi J J b_lss (nl (th (sq ?_)))))
      refine cd J (fun hc5=> ?_) (fun hc5=> ?_)
      ·try simp at hc5
       have hub:=acc_bd (hT.st (tgt s (ix q i) (a:Int)).toNat O) (sets_acc hw hSE (fun _ h=>h) O (ix_mem hc5))
       have hq3l:=wq_len hWK.wi.wq hSE
       have hesl:=wk_len hT hw hSE hWK
       refine sk (th (sq (bk (sq (rg (iO J J J T.sl36 O O (lO J J gB J T.one3 (ag (nl (th (sq (rg (lP J J J T.one165 (mv (mv (bd (css:= [(0,_),(1,_)]) T.st162 (eC (eC eZ)) ⟨J,J,p1 (φ:=int (tgt s (ix q i) (a:Int))) J,⟨J,J,p1 (φ:=int (ix (ix xss2 (tgt s (ix q i) (a:Int)).toNat) k3)) J,tV⟩⟩ (lookup2 (z:=(0:Int)) (q:=(tgt s (ix q i) (a:Int),ix (ix xss2 (tgt s (ix q i) (a:Int)).toNat) k3)) J J agg_pair T.map165 ⟨⟨O,O⟩,⟨O,O⟩⟩ T.zvi3 (mv (xt J J (xt J J (ag (ag (nl (th (sq (sq (rg (mv (no J (nl (th ?_)))))))))))))))))))))))))))))))
       refine cd J (fun hc6=> ?_) (fun hc6=> ?_)
       ·try simp at hc6
        refine sq (rg (lP J J J T.one95 (lnO J J T.sl95 (ag (nl (th (sq (rg (lP J J J T.one165 (mv (mv (bd (css:= [(0,_),(1,_)]) T.st162 (eC (eC eZ)) ⟨J,J,p1 (φ:=int (tgt s (ix q i) (a:Int))) J,⟨J,J,p1 (φ:=int (ix (ix xss2 (tgt s (ix q i) (a:Int)).toNat) k3)) J,tV⟩⟩ (mv (mapUpdate (q:=(tgt s (ix q i) (a:Int),ix (ix xss2 (tgt s (ix q i) (a:Int)).toNat) k3)) (u:=(q3.length:Int)) J J agg_pair J T.map165 ⟨⟨O,O⟩,⟨O,O⟩⟩ (nl (th (rg (lP J J J T.one95 (mv (mv (bd (css:= [(0,_),(1,_)]) T.st162 (eC (eC eZ)) ⟨J,J,p1 (φ:=int (tgt s (ix q i) (a:Int))) J,⟨J,J,p1 (φ:=int (ix (ix xss2 (tgt s (ix q i) (a:Int)).toNat) k3)) J,tV⟩⟩ (bsE (enc:=pE) (xs:= [(tgt s (ix q i) (a:Int),ix (ix xss2 (tgt s (ix q i) (a:Int)).toNat) k3)]) (css:= [[int (tgt s (ix q i) (a:Int)),int (ix (ix xss2 (tgt s (ix q i) (a:Int)).toNat) k3)]]) T.mk95 ⟨J,J,pA (cs:= [int (tgt s (ix q i) (a:Int)),int (ix (ix xss2 (tgt s (ix q i) (a:Int)).toNat) k3)]) J,tV⟩ J J J J (ap (key:=90) (zs:= [(tgt s (ix q i) (a:Int),ix (ix xss2 (tgt s (ix q i) (a:Int)).toNat) k3)]) osl_eq J J J T.mk95 (by unfold maxL at*;simp;omega) (by unfold maxL at*;simp;omega) fun v152=>(storePO J J J J T.one95 J (nl (th (rg (lP J J J T.one103 (mv (mv (bd (css:= [(0,_),(1,_)]) T.st105 (eC (eC eZ)) ⟨J,J,p1 (φ:=int (a:Int)) J,⟨J,J,p1 (φ:=int (q3.length:Int)) J,tV⟩⟩ (bsE (enc:=pE) (xs:= [((a:Int),(q3.length:Int))]) (css:= [[int (a:Int),int (q3.length:Int)]]) T.mk103 ⟨J,J,pA (cs:= [int (a:Int),int (q3.length:Int)]) J,tV⟩ J J J J (ap (key:=150) (zs:= [((a:Int),(q3.length:Int))]) osl_eq J J J T.mk103 (by unfold maxL at*;simp;omega) (by unfold maxL at*;simp;omega) fun v158=>(storePO J J J J T.one103 J (nl (eb (th (rg (bi J J (b_add i6) (mv (nl ?_)))))))))))))))))))))))))))))))))))))))))
        have hN0:(k3+1)≤(ix xss2 ((tgt s (ix q i) (a:Int)).toNat)).length:=by
           first|omega|simp_all
        have hN1:WK s xss2 (f1,f2) i (ix q i) (q3++ [(tgt s (ix q i) (a:Int),ix (ix xss2 ((tgt s (ix q i) (a:Int)).toNat)) k3)]) (mset mm3 (tgt s (ix q i) (a:Int),ix (ix xss2 ((tgt s (ix q i) (a:Int)).toNat)) k3) (q3.length:Int)) outs m0 (a:Int) (k3+1) (es3++ [((a:Int),(q3.length:Int))]):=by
           exact wk_new hWK hc5 hg0 hg1 (by simpa using hc6)
        exact ln (⟨k3+1,v152,q3++ [(tgt s (ix q i) (a:Int),ix (ix xss2 (tgt s (ix q i) (a:Int)).toNat) k3)],mset mm3 (tgt s (ix q i) (a:Int),ix (ix xss2 (tgt s (ix q i) (a:Int)).toNat) k3) (q3.length:Int),v158,es3++ [((a:Int),(q3.length:Int))]⟩:Nat × Value × (List (Int × Int)) × (List ((Int × Int) × Int)) × Value × (List (Int × Int))) ⟨hN0,hN1⟩ dO ⟨id,id,id,id,id,id,id,id,id,tV⟩ ⟨rI,rI,rI,rI,rI,rI,rI,rI,rI,rI,rI,rI,rI,rI,rI,rI,rI,tV⟩
       ·try simp at hc6
        refine sk (th (rg (lP J J J T.one103 (mv (mv (bd (css:= [(0,_),(1,_)]) T.st105 (eC (eC eZ)) ⟨J,J,p1 (φ:=int (a:Int)) J,⟨J,J,p1 (φ:=int ((mget mm3 (tgt s (ix q i) (a:Int),ix (ix xss2 (tgt s (ix q i) (a:Int)).toNat) k3)).getD (0:Int))) J,tV⟩⟩ (bsE (enc:=pE) (xs:= [((a:Int),(mget mm3 (tgt s (ix q i) (a:Int),ix (ix xss2 (tgt s (ix q i) (a:Int)).toNat) k3)).getD (0:Int))]) (css:= [[int (a:Int),int ((mget mm3 (tgt s (ix q i) (a:Int),ix (ix xss2 (tgt s (ix q i) (a:Int)).toNat) k3)).getD (0:Int))]]) T.mk103 ⟨J,J,pA (cs:= [int (a:Int),int ((mget mm3 (tgt s (ix q i) (a:Int),ix (ix xss2 (tgt s (ix q i) (a:Int)).toNat) k3)).getD (0:Int))]) J,tV⟩ J J J J (ap (key:=150) (zs:= [((a:Int),(mget mm3 (tgt s (ix q i) (a:Int),ix (ix xss2 (tgt s (ix q i) (a:Int)).toNat) k3)).getD (0:Int))]) osl_eq J J J T.mk103 (by unfold maxL at*;simp;omega) (by unfold maxL at*;simp;omega) fun v158=>(storePO J J J J T.one103 J (nl (eb (th (rg (bi J J (b_add i6) (mv (nl ?_))))))))))))))))
        have hN0:(k3+1)≤(ix xss2 ((tgt s (ix q i) (a:Int)).toNat)).length:=by
           first|omega|simp_all
        have hN1:WK s xss2 (f1,f2) i (ix q i) q3 mm3 outs m0 (a:Int) (k3+1) (es3++ [((a:Int),(mget mm3 (tgt s (ix q i) (a:Int),ix (ix xss2 ((tgt s (ix q i) (a:Int)).toNat)) k3)).getD (0:Int))]):=by
           exact wk_old hWK hc5 (by simpa using hc6)
        exact ln (⟨k3+1,v3,q3,mm3,v158,es3++ [((a:Int),(mget mm3 (tgt s (ix q i) (a:Int),ix (ix xss2 (tgt s (ix q i) (a:Int)).toNat) k3)).getD (0:Int))]⟩:Nat × Value × (List (Int × Int)) × (List ((Int × Int) × Int)) × Value × (List (Int × Int))) ⟨hN0,hN1⟩ dO ⟨id,id,id,id,id,id,id,id,id,tV⟩ ⟨rI,rI,rI,rI,rI,rI,rI,rI,rI,rI,rI,rI,rI,rI,rI,rI,rI,tV⟩
      ·try simp at hc5
       refine ex (xt_ (xt_ (xb (eb (gvSA 251 98 (tgt s (ix q i) (a:Int)).toNat J J (by decide) (gK O) (gK O) ?_)))))
       have hN0:WN s xss2 (f1,f2) i (ix q i) q3 mm3 outs (m0+1) es3:=by
           exact wk_end hWK O hx0
       exact rqN ⟨v3,q3,mm3,v153,es3⟩ hN0 ⟨rI,rI,rI,rI,rI,rI,rI,rI,rI,rI,rI,rI,rI,rI,rI,rI,tV⟩
     ·intro⟨v2,q2,mm2,v150,es⟩ hG0
      have hR0:WN s xss2 (f1,f2) i (ix q i) q2 mm2 outs (listOf 63 (ix q i).2).length es:=hG0
      show At _ _ _ _ [(2,cell b2 [sl 1 rE_ s.aC,sl 2 sE s.sT]),(4,cell b4 [eqv (.slice none 0 0),eqv (.slice none 0 0)]),(5,cell b5 [osl 25 v25]),(10,cell b10 [int f1,int f2]),(11,cell b11 [mpv 86 b86]),(12,cell b12 [osl 90 v2]),(13,cell b13 [fre w0.heap.size (sl 1 rE_ s.aC),osl 130 u130]),(14,cell c14 [int (i:Int)]),(15,cell b15 [osl 150 v150]),(25,own v25 36 1 eqvE us2),(86,mp b86 pairV pairD intV mm2),(90,own v2 162 2 pE q2),(130,own u130 103 1 (edgesN w0.heap.size) outs),(150,own v150 105 2 pE es),(251,bigown us2 3 1 nE xss2 none)]
      refine eb (th (sq (rg (lP rfl rfl rfl T.one103 ?_))))
      have hql3:=wq_len hR0.wi.wq hSE
      have hes:=es_bd hR0 O
      refine cal (Hi:= [(150,own v150 105 2 pE es)]) (φs:= [osl 5 v150,eqv (.func (.func 128) #[] #[])]) ⟨osl_is.trans osl_is.symm,rfl,tV⟩ (rekeyIO 5 150 (sortE.SortcmpW_ok v150 es aS)) T.ent97 ⟨rI,tV⟩ fun _ _=>(nl (th (rg (fP rfl T.fld43_1 (lP rfl rfl rfl T.one41 (lP rfl rfl rfl T.one103 (fzN pE 150 164 noM flat rfl rfl (bsE (enc:=edgesN w0.heap.size) (xs:= [(sortP es)]) (css:= [[fre w0.heap.size (sl 2 pE (sortP es))]]) T.mk41 ⟨rfl,rfl,p1 (φ:=fre w0.heap.size (sl 2 pE (sortP es))) rfl,tV⟩ rfl rfl rfl rfl (ap (key:=130) (zs:= [(sortP es)]) osl_eq rfl rfl rfl T.mk41 (by unfold maxL at*;simp;omega) (by unfold maxL at*;simp;omega) fun v166=>(fP rfl T.fld43_1 (storePO rfl rfl rfl rfl T.one41 rfl (nl (eb (th (sq (sq (rg (lP rfl rfl rfl T.one3 (nl (th (rg (al (key:=14) T.z3 (eC eZ) fun b14=>(sP (φ:=int (i:Int)) rfl rfl rfl T.one3 rfl (nl (th (rg (lP rfl rfl rfl T.one3 (bi rfl rfl (b_add i6) (sP (φ:=int ((i+1:Nat):Int)) rfl rfl rfl T.one3 rfl (nl ?_))))))))))))))))))))))))))))))
      have hN0:WI s xss2 (f1,f2) (i+1) q2 mm2 (outs++ [(sortP es)]):=by
       exact wn_end hR0
      exact ln (⟨i+1,b14,v2,q2,mm2,v166,outs++ [(sortP es)]⟩:Nat × Nat × Value × (List (Int × Int)) × (List ((Int × Int) × Int)) × Value × (List (List (Int × Int)))) hN0 dO ⟨id,id,id,id,id,id,id,tV⟩ ⟨rI,rI,rI,rI,rI,rI,rI,rI,rI,rI,rI,rI,rI,tV⟩
    ·try simp at hc4
     refine ex (xt_ (xt_ (xb (th (sq (rg (fzcN gE 13 130 1 noM (fun _=>J) J J J (by decide) (lPA J J T.agg43 J (sPA (cs':= [fre w0.heap.size (sl 1 rE_ s.aC),fre w0.heap.size (sl 1 gE outs)]) J J J T.agg43 J J (nl (th (rt ?_))))))))))))
     exact rE ⟨⟨s.aC,outs⟩,xss2,q,mm,hSE,by rw[←hJ3,show q.length=i by omega];exact hWI,J⟩ [.cell 4 43] J [agg [fre w0.heap.size (sl 1 rE_ s.aC),fre w0.heap.size (sl 1 gE outs)]] ⟨.agg J J T.agg43 J J,tV⟩ J trivial eX
end wit
end
end Go.Proofs.YtcjemmihcplgdaaGreatDoor
