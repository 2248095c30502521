/- The walks of the functions and the plain laws. Own texts of this claim, packed: ZzsortE, Zzwit. -/
import Derived.Test.YtcjemmihcplgdaaGreatX06
import Derived.Test.YtcjemmihcplgdaaGreatX12
import Derived.Test.YtcjemmihcplgdaaGreatX09
import Derived.Test.YtcjemmihcplgdaaGreatX11
import Derived.Test.YtcjemmihcplgdaaGreatX08
set_option linter.all false
namespace Go.Proofs.YtcjemmihcplgdaaGreat
open AL Go Go.Sort
set_option maxRecDepth 100000
set_option linter.all false
namespace sortE
def lays68_ren:Go.Shelf.Ren:=⟨fun|6=>68|15=>99|14=>98|28=>133|29=>134|20=>125|21=>126|22=>127|23=>128|24=>129|25=>130|26=>131|27=>132|46=>157|47=>158|48=>159|49=>160|50=>161|57=>167|n=>n,fun|22=>88|24=>94|25=>101|3=>3|39=>144|0=>0|53=>184|55=>186|4=>4|46=>178|45=>177|50=>99|5=>5|9=>9|66=>201|70=>205|76=>210|77=>211|n=>n,fun n=>n⟩
theorem lays68:SlLaysF0.n6 Tryz.prog lays68_ren where
 mixed:=by kernel_rfl
 f6:=⟨"slices.SortFunc[[]makeweight/api.Edge,makeweight/api.Edge]",by decide,Tryz.func68.trans (congrArg some (by kernel_rfl))⟩
 f14:=⟨"slices.pdqsortCmpFunc[makeweight/api.Edge]",by decide,Tryz.func98.trans (congrArg some (by kernel_rfl))⟩
 f15:=Tryz.func99.trans (congrArg some (by kernel_rfl))
 f20:=⟨"slices.insertionSortCmpFunc[makeweight/api.Edge]",by decide,Tryz.func125.trans (congrArg some (by kernel_rfl))⟩
 f21:=⟨"slices.heapSortCmpFunc[makeweight/api.Edge]",by decide,Tryz.func126.trans (congrArg some (by kernel_rfl))⟩
 f22:=⟨"slices.breakPatternsCmpFunc[makeweight/api.Edge]",by decide,Tryz.func127.trans (congrArg some (by kernel_rfl))⟩
 f23:=⟨"slices.choosePivotCmpFunc[makeweight/api.Edge]",by decide,Tryz.func128.trans (congrArg some (by kernel_rfl))⟩
 f24:=⟨"slices.reverseRangeCmpFunc[makeweight/api.Edge]",by decide,Tryz.func129.trans (congrArg some (by kernel_rfl))⟩
 f25:=⟨"slices.partialInsertionSortCmpFunc[makeweight/api.Edge]",by decide,Tryz.func130.trans (congrArg some (by kernel_rfl))⟩
 f26:=⟨"slices.partitionEqualCmpFunc[makeweight/api.Edge]",by decide,Tryz.func131.trans (congrArg some (by kernel_rfl))⟩
 f27:=⟨"slices.partitionCmpFunc[makeweight/api.Edge]",by decide,Tryz.func132.trans (congrArg some (by kernel_rfl))⟩
 f28:=Tryz.func133.trans (congrArg some (by kernel_rfl))
 f29:=Tryz.func134.trans (congrArg some (by kernel_rfl))
 f46:=⟨"slices.siftDownCmpFunc[makeweight/api.Edge]",by decide,Tryz.func157.trans (congrArg some (by kernel_rfl))⟩
 f47:=Tryz.func158.trans (congrArg some (by kernel_rfl))
 f48:=Tryz.func159.trans (congrArg some (by kernel_rfl))
 f49:=⟨"slices.medianAdjacentCmpFunc[makeweight/api.Edge]",by decide,Tryz.func160.trans (congrArg some (by kernel_rfl))⟩
 f50:=⟨"slices.medianCmpFunc[makeweight/api.Edge]",by decide,Tryz.func161.trans (congrArg some (by kernel_rfl))⟩
 f57:=⟨"slices.order2CmpFunc[makeweight/api.Edge]",by decide,Tryz.func167.trans (congrArg some (by kernel_rfl))⟩
 t0:=Tryz.underlying0
 a0:=Tryz.isAgg0
 z0:=Tryz.sizeOf0
 v0:=Tryz.zeroValue0
 t3:=Tryz.underlying3
 a3:=Tryz.isAgg3
 z3:=Tryz.sizeOf3
 v3:=Tryz.zeroValue3
 t4:=Tryz.underlying4
 a4:=Tryz.isAgg4
 z4:=Tryz.sizeOf4
 v4:=Tryz.zeroValue4
 t5:=Tryz.underlying5
 a5:=Tryz.isAgg5
 z5:=Tryz.sizeOf5
 v5:=Tryz.zeroValue5
 t9:=Tryz.underlying9
 a9:=Tryz.isAgg9
 z9:=Tryz.sizeOf9
 v9:=Tryz.zeroValue9
 t22:=Tryz.underlying88
 a22:=Tryz.isAgg88
 z22:=Tryz.sizeOf88
 v22:=Tryz.zeroValue88
 t25:=Tryz.underlying101
 a25:=Tryz.isAgg101
 z25:=Tryz.sizeOf101
 v25:=Tryz.zeroValue101
 t39:=Tryz.underlying144
 a39:=Tryz.isAgg144
 z39:=Tryz.sizeOf144
 v39:=Tryz.zeroValue144
 t45:=Tryz.underlying177
 a45:=Tryz.isAgg177
 z45:=Tryz.sizeOf177
 v45:=Tryz.zeroValue177
 t46:=Tryz.underlying178
 a46:=Tryz.isAgg178
 z46:=Tryz.sizeOf178
 v46:=Tryz.zeroValue178
 t50:=Tryz.underlying99
 a50:=Tryz.isAgg99
 z50:=Tryz.sizeOf99
 v50:=Tryz.zeroValue99
 t53:=Tryz.underlying184
 a53:=Tryz.isAgg184
 z53:=Tryz.sizeOf184
 v53:=Tryz.zeroValue184
 t55:=Tryz.underlying186
 a55:=Tryz.isAgg186
 z55:=Tryz.sizeOf186
 v55:=Tryz.zeroValue186
 t66:=Tryz.underlying201
 a66:=Tryz.isAgg201
 z66:=Tryz.sizeOf201
 v66:=Tryz.zeroValue201
 t70:=Tryz.underlying205
 a70:=Tryz.isAgg205
 z70:=Tryz.sizeOf205
 v70:=Tryz.zeroValue205
 t76:=Tryz.underlying210
 a76:=Tryz.isAgg210
 z76:=Tryz.sizeOf210
 v76:=Tryz.zeroValue210
 t77:=Tryz.underlying211
 a77:=Tryz.isAgg211
 z77:=Tryz.sizeOf211
 v77:=Tryz.zeroValue211
def cfE (p q:BP):Int:=if p.1.1=q.1.1 then p.1.2- q.1.2 else p.1.1- q.1.1
theorem cfE_lex (p q:BP):decide (cfE p q<0)=lexB p.1 q.1:=by
 obtain⟨⟨p1,p2⟩,hp⟩:=p
 obtain⟨⟨q1,q2⟩,hq⟩:=q
 unfold cfE lexB
 dsimp only
 split
 ·next h=>subst h;simp;omega
 ·next h=>simp[h];omega
theorem cmpW_ok (p q:BP) (W:World):Calls Tryz.prog 114 #[.agg #[.int .i64 p.1.1,.int .i64 p.1.2],.agg #[.int .i64 q.1.1,.int .i64 q.1.2]] W fun en W'=>en= .returned (.int .i64 (cfE p q))∧∃n os,W'=grow (W.drewN n) os:=by
 obtain⟨⟨p1,p2⟩,hp⟩:=p
 obtain⟨⟨q1,q2⟩,hq⟩:=q
 unfold bdP at hp hq
 dsimp only at hp hq ⊢
 go_enter Tryz.func114,Tryz.ntmps114
 go_wp2
 ·rename_i h
  go_ret
  refine⟨?_,0,#[Obj.cells #[Value.int IntKind.i64 p1,Value.int IntKind.i64 p2] 94,Obj.cells #[Value.int IntKind.i64 q1,Value.int IntKind.i64 q2] 94],rfl⟩
  unfold cfE;rw[if_neg (by simpa using h)];rfl
 ·rename_i h
  go_ret
  refine⟨?_,0,#[Obj.cells #[Value.int IntKind.i64 p1,Value.int IntKind.i64 p2] 94,Obj.cells #[Value.int IntKind.i64 q1,Value.int IntKind.i64 q2] 94],rfl⟩
  unfold cfE;rw[if_pos (by simpa using h)];rfl
theorem SortcmpW_ok (v:Value) (xs:List (Int × Int)) (hb:∀p∈xs,bdP p):AL.Fn Tryz.prog 68 [osl 5 v,eqv (.func (.func 114) #[] #[])] [(5,own v 94 2 pairE xs)] (ι:=Unit) (fun _ _=>tup []) (fun _=> [(5,own v 94 2 pairE (sortP xs))]):=
 sort_ok lays68 rfl (isAgg_of (by kernel_rfl)) (ent_of (by kernel_rfl)) cfE cfE_lex cmpW_ok v xs hb
end sortE
end Go.Proofs.YtcjemmihcplgdaaGreat
namespace Go.Proofs.YtcjemmihcplgdaaGreat
open AL Go
set_option maxRecDepth 100000
set_option linter.all false
open ref01 ref03 ref04 ref06 prog prog2 prog3 prog4 prog5 prog6 prog13 prog15 starts search Part Rungs LeftM TrimM RoundM BisM BisM5 WalkM StepM WitM refw judg
def edgesE:List (Int × Int)→List AV:=fun l=> [sl 2 pairE l]
def edgesN (N:Nat):List (Int × Int)→List AV:=fun l=> [fre N (sl 2 pairE l)]
instance (l:List (Int × Int)):OneAll (edgesE l):=inferInstanceAs (OneAll [sl 2 pairE l])
instance (N:Nat) (l:List (Int × Int)):OneAll (edgesN N l):=inferInstanceAs (OneAll [fre N (sl 2 pairE l)])
abbrev sys (m:SSys):AV:=agg [strs m.actions,sl 1 edgesE m.states]
abbrev nsys (N:Nat) (m:SSys):AV:=agg [fre N (strs m.actions),fre N (sl 1 edgesE m.states)]
instance:FlatE pairE:=flat2 (f:=fun p:Int × Int=> .int .i64 p.1) (g:=fun p=> .int .i64 p.2)
def intV (x:Int):AV:=int x
def halfS (T:SSpec) (k:Nat):List (List Int):=(sets0 T).take k++List.replicate (T.states.length- k) []
theorem half_len {T:SSpec} {k:Nat} (h:k≤T.states.length):(halfS T k).length=T.states.length:=by simp[halfS,sets0];omega
theorem half_zero (T:SSpec):List.replicate T.states.length []=halfS T 0:=by simp[halfS]
theorem half_end {T:SSpec} {k:Nat} (h:k=T.states.length):halfS T k=sets0 T:=by
 subst h;unfold halfS
 rw[Nat.sub_self,List.replicate_zero,List.append_nil,List.take_of_length_le (by simp[sets0])]
theorem half_step {T:SSpec} {k:Nat} (h:k<T.states.length):(halfS T k).set k [ix (ix T.states k).accept 0]=halfS T (k+1):=by
 have hl:(sets0 T).length=T.states.length:=by simp[sets0]
 have e:ix (sets0 T) k= [ix (ix T.states k).accept 0]:=by unfold sets0;rw[TurnM.ix_mapS h]
 unfold halfS
 rw[take_s (by omega),e,List.set_append_right _ _ (by simp;omega),List.append_assoc]
 congr 1
 have:T.states.length- k=(T.states.length- (k+1))+1:=by omega
 rw[this,List.replicate_succ,show k- ((sets0 T).take k).length=0 by simp;omega];rfl
namespace T
theorem map160:MapT Tryz.prog 160 159 3 pairV pairD:=mapT_pair Tryz.underlying160 Tryz.underlying159 (by kernel_rfl) (by decide+kernel) (by kernel_rfl) (by kernel_rfl) ⟨rfl,rfl,by kernel_rfl,by kernel_rfl⟩ ⟨rfl,rfl,by kernel_rfl,by kernel_rfl⟩ (by kernel_rfl) (by kernel_rfl)
theorem zvi3:∀w F,∃u,(zeroValue 3).run Tryz.prog w= .ok u w∧(intV 0).p w F u:=zeroV_of (v:= .int .i64 0) (by kernel_rfl) _ (fun _ _=>eqv_rfl)
theorem z38:ZeroIs Tryz.prog 38 [.slice none 0 0,.slice none 0 0]:=zeroIs_of (by kernel_rfl)
theorem mk157:MakeT Tryz.prog 157 63 1 24 [.slice none 0 0]:=makeT_of (by kernel_rfl) (by kernel_rfl)
theorem z157:ZeroIs Tryz.prog 157 [.slice none 0 0]:=zeroIs_of (by kernel_rfl)
theorem one157:IsOne Tryz.prog 157:=isOne_of (by kernel_rfl)
theorem sl157:IsSlice Tryz.prog 157 63 1:=isSlice_of (by kernel_rfl)
theorem sl123:IsSlice Tryz.prog 123 159 2:=isSlice_of (by kernel_rfl)
theorem agg159:IsAgg Tryz.prog 159 2:=isAgg_of (by kernel_rfl)
theorem z159:ZeroIs Tryz.prog 159 [.int .i64 0,.int .i64 0]:=zeroIs_of (by kernel_rfl)
theorem fld159_0:FieldAt Tryz.prog 159 0 0:=fieldAt_of (by kernel_rfl)
theorem fld159_1:FieldAt Tryz.prog 159 1 1:=fieldAt_of (by kernel_rfl)
theorem ent113:Ent Tryz.prog 113:=ent_of (by kernel_rfl)
theorem z160:ZeroIs Tryz.prog 160 [.map none]:=zeroIs_of (by kernel_rfl)
theorem one160:IsOne Tryz.prog 160:=isOne_of (by kernel_rfl)
theorem z123:ZeroIs Tryz.prog 123 [.slice none 0 0]:=zeroIs_of (by kernel_rfl)
theorem one123:IsOne Tryz.prog 123:=isOne_of (by kernel_rfl)
theorem st38:StructT Tryz.prog 38 [(0,1),(1,1)] [.slice none 0 0,.slice none 0 0]:=structT_of (by kernel_rfl) (by kernel_rfl)
theorem agg38:IsAgg Tryz.prog 38 2:=isAgg_of (by kernel_rfl)
theorem z88:ZeroIs Tryz.prog 88 [.slice none 0 0]:=zeroIs_of (by kernel_rfl)
theorem one88:IsOne Tryz.prog 88:=isOne_of (by kernel_rfl)
theorem st94:StructT Tryz.prog 94 [(0,1),(1,1)] [.int .i64 0,.int .i64 0]:=structT_of (by kernel_rfl) (by kernel_rfl)
theorem mk88:MakeT Tryz.prog 88 94 2 16 [.int .i64 0,.int .i64 0]:=makeT_of (by kernel_rfl) (by kernel_rfl)
theorem ent68:Ent Tryz.prog 68:=ent_of (by kernel_rfl)
theorem fld38_1:FieldAt Tryz.prog 38 1 1:=fieldAt_of (by kernel_rfl)
theorem one36:IsOne Tryz.prog 36:=isOne_of (by kernel_rfl)
theorem mk36:MakeT Tryz.prog 36 88 1 24 [.slice none 0 0]:=makeT_of (by kernel_rfl) (by kernel_rfl)
end T
namespace wit
theorem Witness_ok (s:SSpec) (hT:okSpec s) (want:List (Int × Int)) (hw:Wants s want):
 AL.Fn Tryz.prog 85 [spec s,sl 2 pairE want] [] (ι:= { m:SSys//WitOK s want m }) (fun N i=>nsys N i.1) (fun _=> []):=by
 refine fnI Tryz.func85 rfl rfl (fun w0 F0=> ?_)
 have hf0:=hT.few0;have hf1:=hT.few1;have hn8:=hT.n8;have hwl:=hw.few
 refine fcC (inhS 0 rfl) (fun hS0=> ?_)
 obtain⟨hsa0,hss0,hse0⟩:=spec_lens hS0
 refine fcC (slenI 1 rfl) (fun hm1=> ?_)
 refine sq (rg (bx (key:=2) (cs:= [sl 1 strE s.actions,sl 2 stateE s.states]) rfl fun b2=>(al (key:=4) T.z38 (ex_cons (ex_cons (ex_nil))) fun b4=>(nl (th (sq (rg (fP rfl T.fld25_1 (lP rfl rfl rfl T.one23 (fc (slenI 23 rfl) fun hm23=>(lnF rfl T.sl23 (mk (key:=25) (m:=s.states.length) (enc:=eqvE) (y:=(.slice none 0 0:Value)) rfl rfl T.mk157 (ex_cons ex_nil) (by unfold maxL;omega) (by unfold maxL;omega) fun v25=>(al (key:=5) T.z157 (ex_cons (ex_nil)) fun b5=>(storePO rfl rfl rfl rfl T.one157 rfl (nl (th (sq (sq (rg (nbB 251 s.states.length 3 1 intE (fP rfl T.fld25_1 (lP rfl rfl rfl T.one23 (lnF rfl T.sl23 (mv (nl (th (bk ?_)))))))))))))))))))))))))))
 have hI0_0:0≤s.states.length:=by
  first|omega|simp
 have hI0_1:(List.replicate s.states.length (.slice none 0 0:Value)).length=s.states.length∧(List.replicate s.states.length [])=halfS s 0:=by
  exact⟨by simp,half_zero s⟩
 refine lp (κ:=Nat × (List Value) × (List (List Int))) (fun p=> [(1,sl 2 pairE want),(2,ptr 2 b2 0),(4,ptr 4 b4 0),(5,ptr 5 b5 0),(27,sl 2 stateE s.states),(28,int (s.states.length:Int)),(29,int (p.1:Int))]) (fun p=> [(2,cell b2 [sl 1 strE s.actions,sl 2 stateE s.states]),(4,cell b4 [eqv (.slice none 0 0),eqv (.slice none 0 0)]),(5,cell b5 [osl 25 v25]),(25,own v25 63 1 eqvE p.2.1),(251,bigown p.2.1 3 1 intE p.2.2 none)]) (fun p=>(p.1≤s.states.length)∧(p.2.1.length=s.states.length∧p.2.2=halfS s p.1)) (fun p=>s.states.length- p.1) ⟨0,List.replicate s.states.length (.slice none 0 0:Value),List.replicate s.states.length []⟩ ⟨hI0_0,hI0_1⟩ ⟨id,id,id,id,id,id,id,trivial⟩ ⟨⟨rfl,id⟩,⟨rfl,id⟩,⟨rfl,id⟩,⟨rfl,id⟩,⟨rfl,id⟩,trivial⟩ ?_
 intro⟨k,us,xss⟩ hG0
 obtain⟨hk0,⟨hul,hxs⟩⟩:(k≤s.states.length)∧(us.length=s.states.length∧xss=halfS s k):=hG0
 show Ct _ _ _ _ [(1,sl 2 pairE want),(2,ptr 2 b2 0),(4,ptr 4 b4 0),(5,ptr 5 b5 0),(27,sl 2 stateE s.states),(28,int (s.states.length:Int)),(29,int (k:Int))] [(2,cell b2 [sl 1 strE s.actions,sl 2 stateE s.states]),(4,cell b4 [eqv (.slice none 0 0),eqv (.slice none 0 0)]),(5,cell b5 [osl 25 v25]),(25,own v25 63 1 eqvE us),(251,bigown us 3 1 intE xss none)] _
 have hxl:xss.length=s.states.length:=by rw[hxs];exact half_len (by omega)
 refine sq (rg (bi rfl rfl b_lss (nl (th (sq ?_)))))
 refine cd rfl (fun hc0=> ?_) (fun hc0=> ?_)
 ·try simp at hc0
  have hne:0<(ix s.states k).accept.length:=hw.ne k (by omega)
  refine sk (th (sq (bk (sq (rg (mv (iF rfl rfl T.sl23 (by omega) (by first|exact gN (by omega)|exact gI (by omega) (by omega)) (lFA rfl T.agg72 (Nat.le_of_ble_eq_true rfl) (al (key:=7) T.z72 (ex_cons (ex_cons (ex_nil))) fun b7=>(ag (sPA (cs':= [sl 1 intE ((ix s.states k).accept),sl 1 intE ((ix s.states k).next)]) rfl rfl rfl T.agg72 rfl rfl (nl (th (tkBC 251 99 k rfl rfl (by decide) (gK (by omega)) (gK (by omega)) ?_))))))))))))))
  refine drH (nh:=9) [0,0,0,4,12,28,60,127,255] [(none,[5]),(none,[]),(none,[]),(none,[7]),(none,[]),(none,[]),(some 40,[]),(none,[25]),(some 25,[25])] T.mixed (by kernel_rfl) (by kernel_rfl) ?_
  refine stv (d:=34) (fun β0=>osl 25 v25) [5] rfl (fun β β' hb=>rfl) (fun β0 _ _ _ _ gq gh kq=>lP (gq.1.trans rfl) (gh.1.trans rfl) rfl T.one157 kq) ?_
  refine stv (d:=35) (fun β0=>int (k:Int)) [] rfl (fun β β' hb=>rfl) (fun β0 _ _ _ _ gq gh kq=>mv' (gq.1.trans rfl) kq) ?_
  refine stv (d:=36) (fun β0=>ptr 7 b7 0) [] rfl (fun β β' hb=>rfl) (fun β0 _ _ _ _ gq gh kq=>fP (gq.1.trans rfl) T.fld72_0 kq) ?_
  refine stv (d:=37) (fun β0=>sl 1 intE ((ix s.states k).accept)) [7] rfl (fun β β' hb=>rfl) (fun β0 _ _ _ _ gq gh kq=>lP (gq.1.trans rfl) (gh.1.trans rfl) rfl T.one63 kq) ?_
  refine stv (d:=38) (fun β0=>fp [int (ix ((ix s.states k).accept) 0)]) [] rfl (fun β β' hb=>rfl) (fun β0 _ _ _ _ gq gh kq=>iF (gq.1.trans rfl) rfl T.sl63 (by omega) (gI (by omega) (by omega)) kq) ?_
  refine stv (d:=39) (fun β0=>int (ix ((ix s.states k).accept) 0)) [] rfl (fun β β' hb=>rfl) (fun β0 _ _ _ _ gq gh kq=>lF (gq.1.trans rfl) rfl T.one3 kq) ?_
  refine stc (d:=40) (e:=3) (n:=1) (enc:=intE) (xs:= [(ix ((ix s.states k).accept) 0)]) 40 [] rfl (fun β0 _ _ _ _ gq gh kq=>bsO 40 (enc:=intE) (xs:= [(ix ((ix s.states k).accept) 0)]) (css:= [[int (ix ((ix s.states k).accept) 0)]]) T.mk63 ⟨rfl,rfl,p1 (φ:=int (ix ((ix s.states k).accept) 0)) (by exact(gq.1.trans rfl)),trivial⟩ rfl rfl rfl rfl fun v=>kq v) ?_
  refine stv (d:=41) (fun β0=>eptr 25 v25 1 k 0) [25] rfl (fun β β' hb=>rfl) (fun β0 _ _ _ _ gq gh kq=>iO (gq.1.trans rfl) (gh.1.trans rfl) (gq.2.1.trans rfl) T.sl157 (by omega) (by omega) kq) ?_
  refine stw 25 (fun β0=>own v25 63 1 eqvE (us.set k (sv (β0 6)))) [25] rfl (fun β β' hb=>by first|rw[hb 6 rfl]|(dsimp only;rw[hb 6 rfl])) (fun β0 _ _ _ _ gq gh kq=>sO (φ:=eqv (sv (β0 6))) (gq.1.trans rfl) (gh.1.trans rfl) ((gq.2.1.trans rfl).trans osl_is) T.one63 (by first|exact gN (by omega)|exact gI (by omega) (by omega)) rfl (y':=(sv (β0 6))) rfl kq) ?_
  refine pnH fun β0=>(nl (eb (th (rg (gvB (us:=us) 251 40 k rfl rfl (by decide) (by omega) (bi rfl rfl (b_add (by unfold I64;omega)) (mv (nl ?_))))))))
  have hN0:(k+1)≤s.states.length:=by
   first|omega|simp_all
  have hN1:(us.set k (sv (β0 6))).length=s.states.length∧(xss.set k [(ix ((ix s.states k).accept) 0)])=halfS s (k+1):=by
   exact⟨by simpa using hul,by rw[hxs];exact half_step hc0⟩
  exact ln (⟨k+1,us.set k (sv (β0 6)),xss.set k [(ix ((ix s.states k).accept) 0)]⟩:Nat × (List Value) × (List (List Int))) ⟨hN0,hN1⟩ (by first|omega|(dsimp only;omega)) ⟨id,id,id,id,id,id,id,trivial⟩ ⟨⟨rfl,id⟩,⟨rfl,id⟩,⟨rfl,id⟩,⟨rfl,id⟩,⟨rfl,id⟩,trivial⟩
 ·try simp at hc0
  refine ex (xt_ (xt_ (xb (th (sq (sq (rg (mv (lnF rfl T.sl123 (mv (nl (th (bk ?_)))))))))))))
  have hI1_0:0≤want.length:=by
   first|omega|simp
  have hI1_1:us.length=s.states.length∧SetsOK s (want.take 0) xss:=by
   exact⟨hul,by rw[hxs,half_end (by omega)];exact sets_zero s⟩
  refine lp (κ:=Nat × (List Value) × (List (List Int))) (fun p=> [(1,sl 2 pairE want),(2,ptr 2 b2 0),(4,ptr 4 b4 0),(5,ptr 5 b5 0),(43,sl 2 pairE want),(44,int (want.length:Int)),(45,int (p.1:Int))]) (fun p=> [(2,cell b2 [sl 1 strE s.actions,sl 2 stateE s.states]),(4,cell b4 [eqv (.slice none 0 0),eqv (.slice none 0 0)]),(5,cell b5 [osl 25 v25]),(25,own v25 63 1 eqvE p.2.1),(251,bigown p.2.1 3 1 intE p.2.2 none)]) (fun p=>(p.1≤want.length)∧(p.2.1.length=s.states.length∧SetsOK s (want.take p.1) p.2.2)) (fun p=>want.length- p.1) ⟨0,us,xss⟩ ⟨hI1_0,hI1_1⟩ ⟨id,id,id,id,id,id,id,trivial⟩ ⟨⟨rfl,id⟩,⟨rfl,id⟩,⟨rfl,id⟩,⟨rfl,id⟩,⟨rfl,id⟩,trivial⟩ ?_
  intro⟨k1,us2,xss2⟩ hG1
  obtain⟨hk1,⟨hul2,hS⟩⟩:(k1≤want.length)∧(us2.length=s.states.length∧SetsOK s (want.take k1) xss2):=hG1
  show Ct _ _ _ _ [(1,sl 2 pairE want),(2,ptr 2 b2 0),(4,ptr 4 b4 0),(5,ptr 5 b5 0),(43,sl 2 pairE want),(44,int (want.length:Int)),(45,int (k1:Int))] [(2,cell b2 [sl 1 strE s.actions,sl 2 stateE s.states]),(4,cell b4 [eqv (.slice none 0 0),eqv (.slice none 0 0)]),(5,cell b5 [osl 25 v25]),(25,own v25 63 1 eqvE us2),(251,bigown us2 3 1 intE xss2 none)] _
  have hxl2:=hS.len
  refine sq (rg (bi rfl rfl b_lss (nl (th (sq ?_)))))
  refine cd rfl (fun hc1=> ?_) (fun hc1=> ?_)
  ·try simp at hc1
   obtain⟨hw0,hw1,hw2⟩:=hw.ok _ (ix_memS hc1)
   refine sk (th (sq (bk (sq (rg (iF rfl rfl T.sl123 (by omega) (by first|exact gN (by omega)|exact gI (by omega) (by omega)) (lFA rfl T.agg159 (Nat.le_of_ble_eq_true rfl) (al (key:=9) T.z159 (ex_cons (ex_cons (ex_nil))) fun b9=>(sPA (cs':= [int ((ix want k1).1),int ((ix want k1).2)]) rfl rfl rfl T.agg159 rfl rfl (nl (th (sq (tkBC 251 99 (((ix want k1).1).toNat) rfl rfl (by decide) (gK (by omega)) (gK (by omega)) (dr (nh:=9) [0,0,2,7,15,0,32,127,255] T.mixed (by kernel_rfl) ?_))))))))))))))
   refine st_ rfl (fun _ _ _ gq kq=>lP (gq.1.trans rfl) rfl rfl T.one157 kq) ?_
   refine st_ rfl (fun _ _ _ gq kq=>fP (gq.1.trans rfl) T.fld159_0 kq) ?_
   refine st_ rfl (fun _ _ _ gq kq=>lP (gq.1.trans rfl) rfl rfl T.one3 kq) ?_
   refine st_ rfl (fun _ _ _ gq kq=>iO (gq.1.trans rfl) rfl (gq.2.1.trans rfl) T.sl157 (by omega) (by omega) kq) ?_
   refine st_ rfl (fun _ _ _ gq kq=>lO (gq.1.trans rfl) rfl (by first|exact gN (by omega)|exact gI (by omega) (by omega)) rfl T.one63 kq) ?_
   refine st_ rfl (fun _ _ _ gq kq=>fP (gq.1.trans rfl) T.fld159_1 kq) ?_
   refine st_ rfl (fun _ _ _ gq kq=>lP (gq.1.trans rfl) rfl rfl T.one3 kq) ?_
   refine st_ rfl (fun _ _ _ gq kq=>calB (φs:= [sl 1 intE (ix xss2 (((ix want k1).1).toNat)),int ((ix want k1).2)]) ⟨.own 99 (((gq.1.trans rfl)).trans osl_is.symm) rfl,.here (gq.2.1.trans rfl),trivial⟩ (judg.Contains_ok _ _) T.ent113 kq) ?_
   refine st_ rfl (fun _ _ _ gq kq=>no (gq.1.trans rfl) kq) ?_
   refine pn (nl (th ?_))
   refine cd rfl (fun hc2=> ?_) (fun hc2=> ?_)
   ·try simp at hc2
    have hsl:=sets_len hT hw hS (fun p hp=>List.mem_of_mem_take hp) (x:=((ix want k1).1).toNat) (by omega)
    refine drH (nh:=14) [0,0,2,0,0,16,56,120,0,256,768,2040,4095,8191] [(none,[5]),(none,[]),(none,[9]),(none,[5]),(none,[]),(none,[9]),(none,[25]),(none,[25]),(none,[]),(none,[9]),(none,[]),(some 99,[99]),(none,[25]),(some 25,[25])] T.mixed (by kernel_rfl) (by kernel_rfl) ?_
    refine stv (d:=58) (fun β1=>osl 25 v25) [5] rfl (fun β β' hb=>rfl) (fun β1 _ _ _ _ gq gh kq=>lP (gq.1.trans rfl) (gh.1.trans rfl) rfl T.one157 kq) ?_
    refine stv (d:=59) (fun β1=>ptr 9 b9 0) [] rfl (fun β β' hb=>rfl) (fun β1 _ _ _ _ gq gh kq=>fP (gq.1.trans rfl) T.fld159_0 kq) ?_
    refine stv (d:=60) (fun β1=>int ((ix want k1).1)) [9] rfl (fun β β' hb=>rfl) (fun β1 _ _ _ _ gq gh kq=>lP (gq.1.trans rfl) (gh.1.trans rfl) rfl T.one3 kq) ?_
    refine stv (d:=61) (fun β1=>osl 25 v25) [5] rfl (fun β β' hb=>rfl) (fun β1 _ _ _ _ gq gh kq=>lP (gq.1.trans rfl) (gh.1.trans rfl) rfl T.one157 kq) ?_
    refine stv (d:=62) (fun β1=>ptr 9 b9 0) [] rfl (fun β β' hb=>rfl) (fun β1 _ _ _ _ gq gh kq=>fP (gq.1.trans rfl) T.fld159_0 kq) ?_
    refine stv (d:=63) (fun β1=>int ((ix want k1).1)) [9] rfl (fun β β' hb=>rfl) (fun β1 _ _ _ _ gq gh kq=>lP (gq.1.trans rfl) (gh.1.trans rfl) rfl T.one3 kq) ?_
    refine stv (d:=64) (fun β1=>eptr 25 v25 1 (((ix want k1).1).toNat) 0) [25] rfl (fun β β' hb=>rfl) (fun β1 _ _ _ _ gq gh kq=>iO (gq.1.trans rfl) (gh.1.trans rfl) (gq.2.1.trans rfl) T.sl157 (by omega) (by omega) kq) ?_
    refine stv (d:=65) (fun β1=>eqv (ix us2 (((ix want k1).1).toNat))) [25] rfl (fun β β' hb=>rfl) (fun β1 _ _ _ _ gq gh kq=>lO (gq.1.trans rfl) (gh.1.trans rfl) (by first|exact gN (by omega)|exact gI (by omega) (by omega)) rfl T.one63 kq) ?_
    refine stv (d:=66) (fun β1=>ptr 9 b9 1) [] rfl (fun β β' hb=>rfl) (fun β1 _ _ _ _ gq gh kq=>fP (gq.1.trans rfl) T.fld159_1 kq) ?_
    refine stv (d:=67) (fun β1=>int ((ix want k1).2)) [9] rfl (fun β β' hb=>rfl) (fun β1 _ _ _ _ gq gh kq=>lP (gq.1.trans rfl) (gh.1.trans rfl) rfl T.one3 kq) ?_
    refine stv (d:=68) (fun β1=>sl 1 intE [((ix want k1).2)]) [] rfl (fun β β' hb=>rfl) (fun β1 _ _ _ _ gq gh kq=>bsE (enc:=intE) (xs:= [((ix want k1).2)]) (css:= [[int ((ix want k1).2)]]) T.mk63 ⟨rfl,rfl,p1 (φ:=int ((ix want k1).2)) (by exact(gq.1.trans rfl)),trivial⟩ rfl rfl rfl rfl kq) ?_
    refine stc (d:=69) (e:=3) (n:=1) (enc:=intE) (xs:=(ix xss2 (((ix want k1).1).toNat))++ [((ix want k1).2)]) 99 [99] rfl (fun β1 _ _ _ _ gq gh kq=>ap (key:=99) (zs:= [((ix want k1).2)]) (fun h=>eqv_of (gq.1.trans rfl) h) (gh.1.trans rfl) (gq.2.1.trans rfl) rfl T.mk63 (by unfold maxL at*;simp;omega) (by unfold maxL at*;simp;omega) fun v=>kq v) ?_
    refine stv (d:=70) (fun β1=>eptr 25 v25 1 (((ix want k1).1).toNat) 0) [25] rfl (fun β β' hb=>rfl) (fun β1 _ _ _ _ gq gh kq=>iO (gq.1.trans rfl) (gh.1.trans rfl) (gq.2.1.trans rfl) T.sl157 (by omega) (by omega) kq) ?_
    refine stw 25 (fun β1=>own v25 63 1 eqvE (us2.set (((ix want k1).1).toNat) (sv (β1 11)))) [25] rfl (fun β β' hb=>by first|rw[hb 11 rfl]|(dsimp only;rw[hb 11 rfl])) (fun β1 _ _ _ _ gq gh kq=>sO (φ:=eqv (sv (β1 11))) (gq.1.trans rfl) (gh.1.trans rfl) ((gq.2.1.trans rfl).trans osl_is) T.one63 (by first|exact gN (by omega)|exact gI (by omega) (by omega)) rfl (y':=(sv (β1 11))) rfl kq) ?_
    refine pnH fun β1=>(nl (eb (th (rg (gvB (us:=us2) 251 99 (((ix want k1).1).toNat) rfl rfl (by decide) (by omega) (bi rfl rfl (b_add (by unfold I64;omega)) (mv (nl ?_))))))))
    have hN0:(k1+1)≤want.length:=by
     first|omega|simp_all
    have hN1:(us2.set (((ix want k1).1).toNat) (sv (β1 11))).length=s.states.length∧SetsOK s (want.take (k1+1)) (xss2.set (((ix want k1).1).toNat) ((ix xss2 (((ix want k1).1).toNat))++ [((ix want k1).2)])):=by
     refine⟨by simpa using hul2,?_⟩
     rw[take_s hc1]
     have:=sets_add hS hw0 hw1
     unfold setsAdd at this
     rw[if_neg hc2] at this
     exact this
    exact ln (⟨k1+1,us2.set (((ix want k1).1).toNat) (sv (β1 11)),xss2.set (((ix want k1).1).toNat) ((ix xss2 (((ix want k1).1).toNat))++ [((ix want k1).2)])⟩:Nat × (List Value) × (List (List Int))) ⟨hN0,hN1⟩ (by first|omega|(dsimp only;omega)) ⟨id,id,id,id,id,id,id,trivial⟩ ⟨⟨rfl,id⟩,⟨rfl,id⟩,⟨rfl,id⟩,⟨rfl,id⟩,⟨rfl,id⟩,trivial⟩
   ·try simp at hc2
    refine gvSC 251 99 (((ix want k1).1).toNat) rfl rfl (by decide) (gK (by omega)) (gK (by omega)) (sk (eb (th (rg (bi rfl rfl (b_add (by unfold I64;omega)) (mv (nl ?_)))))))
    have hN0:(k1+1)≤want.length:=by
     first|omega|simp_all
    have hN1:us2.length=s.states.length∧SetsOK s (want.take (k1+1)) xss2:=by
     refine⟨hul2,?_⟩
     rw[take_s hc1]
     have:=sets_add hS hw0 hw1
     unfold setsAdd at this
     rw[if_pos hc2] at this
     exact this
    exact ln (⟨k1+1,us2,xss2⟩:Nat × (List Value) × (List (List Int))) ⟨hN0,hN1⟩ (by first|omega|(dsimp only;omega)) ⟨id,id,id,id,id,id,id,trivial⟩ ⟨⟨rfl,id⟩,⟨rfl,id⟩,⟨rfl,id⟩,⟨rfl,id⟩,⟨rfl,id⟩,trivial⟩
  ·try simp at hc1
   have hSE:SetsOK s want xss2:=by rw[show k1=want.length by omega,List.take_length] at hS;exact hS
   have hne0:0<(ix s.states 0).accept.length:=hw.ne 0 (by omega)
   refine ex (xt_ (xt_ (xb (th (sq (rg (fP rfl T.fld25_1 (lP rfl rfl rfl T.one23 (iF rfl rfl T.sl23 (by omega) (gK (k:=0) (by omega)) (fF rfl T.fld72_0 (lF rfl rfl T.one63 (iF rfl rfl T.sl63 (by omega) (gK (k:=0) (by omega)) (lF rfl rfl T.one3 (bd (css:= [(0,_),(1,_)]) T.st159 (ex_cons (ex_cons (ex_nil))) ⟨rfl,rfl,p1 (φ:=int 0) rfl,⟨rfl,rfl,p1 (φ:=int (ix ((ix s.states 0).accept) 0)) rfl,trivial⟩⟩ (al (key:=10) T.z159 (ex_cons (ex_cons (ex_nil))) fun b10=>(sPA (cs':= [int 0,int (ix ((ix s.states 0).accept) 0)]) rfl rfl rfl T.agg159 rfl rfl (nl (th (sq (sq (rg (mv (lnF rfl T.sl123 (bi rfl rfl b_gtr (nl (th ?_))))))))))))))))))))))))))
   refine jn (κ:=Int × Int) (fun p=> [(2,ptr 2 b2 0),(4,ptr 4 b4 0),(5,ptr 5 b5 0),(10,ptr 10 b10 0)]) (fun p=> [(2,cell b2 [sl 1 strE s.actions,sl 2 stateE s.states]),(4,cell b4 [eqv (.slice none 0 0),eqv (.slice none 0 0)]),(5,cell b5 [osl 25 v25]),(10,cell b10 [int p.1,int p.2]),(25,own v25 63 1 eqvE us2),(251,bigown us2 3 1 intE xss2 none)]) (fun p=>(p.1,p.2)=firstW s want) ?_ ?_
   ·
    refine cd rfl (fun hc3=> ?_) (fun hc3=> ?_)
    ·try simp at hc3
     refine rg (mv (iF rfl rfl T.sl123 (by omega) (gK (k:=0) (by omega)) (lFA rfl T.agg159 (Nat.le_of_ble_eq_true rfl) (sPA (cs':= [int ((ix want 0).1),int ((ix want 0).2)]) rfl rfl rfl T.agg159 rfl rfl (nl ?_)))))
     have hN0:(((ix want 0).1),((ix want 0).2))=firstW s want:=by
      unfold firstW;rw[if_pos (by omega)]
     exact jx ⟨(ix want 0).1,(ix want 0).2⟩ hN0 ⟨id,id,id,id,trivial⟩ ⟨⟨rfl,id⟩,⟨rfl,id⟩,⟨rfl,id⟩,⟨rfl,id⟩,⟨rfl,id⟩,⟨rfl,id⟩,trivial⟩
    ·try simp at hc3
     refine sk ?_
     have hN0:((0:Int),(ix ((ix s.states 0).accept) 0))=firstW s want:=by
      unfold firstW;rw[if_neg (by simp[hc3])]
     exact jx ⟨(0:Int),ix ((ix s.states 0).accept) 0⟩ hN0 ⟨id,id,id,id,trivial⟩ ⟨⟨rfl,id⟩,⟨rfl,id⟩,⟨rfl,id⟩,⟨rfl,id⟩,⟨rfl,id⟩,⟨rfl,id⟩,trivial⟩
   ·intro⟨f1,f2⟩ hG
    have hJ3:(f1,f2)=firstW s want:=hG
    have hfo:=first_ok hT hw hSE
    rw[←hJ3] at hfo
    obtain⟨hfo0,hfo1,hfo2⟩:=hfo
    dsimp only at hfo0 hfo1 hfo2
    have hfb:=acc_bd (hT.st f1.toNat (by omega)) (sets_acc hw hSE (fun _ h=>h) (by omega) hfo2)
    skip
    show At _ _ _ [(2,ptr 2 b2 0),(4,ptr 4 b4 0),(5,ptr 5 b5 0),(10,ptr 10 b10 0)] [(2,cell b2 [sl 1 strE s.actions,sl 2 stateE s.states]),(4,cell b4 [eqv (.slice none 0 0),eqv (.slice none 0 0)]),(5,cell b5 [osl 25 v25]),(10,cell b10 [int f1,int f2]),(25,own v25 63 1 eqvE us2),(251,bigown us2 3 1 intE xss2 none)]
    refine th (sq (rg (mkm (key:=86) (kE:=pairV) (dom:=pairD) (vE:=intV) fun b86=>(lPA rfl rfl T.agg159 rfl (AL.insert (q:=(f1,f2)) (u:=0) rfl rfl agg_pair rfl T.map160 ⟨⟨by omega,by omega⟩,⟨by omega,by omega⟩⟩ (mv (al (key:=11) T.z160 (ex_cons (ex_nil)) fun b11=>(sP (φ:=mpv 86 b86) rfl rfl rfl T.one160 rfl (nl (th (sq (rg (lPA rfl rfl T.agg159 rfl (bsO 90 (enc:=pairE) (xs:= [(f1,f2)]) (css:= [[int f1,int f2]]) T.mk123 ⟨rfl,rfl,pA (cs:= [int f1,int f2]) rfl,trivial⟩ rfl rfl rfl rfl fun v90=>(al (key:=12) T.z123 (ex_cons (ex_nil)) fun b12=>(storePO rfl rfl rfl rfl T.one123 rfl (nl (th (sq (rg (fP rfl T.fld25_0 (lP rfl rfl rfl T.one22 (calW (φs:= [sl 1 strE s.actions]) (φ:=fre w0.heap.size (sl 1 strE s.actions)) ⟨rfl,trivial⟩ (prog.sClonestrE_ok _ (by omega)) T.ent67 (fun N hN=>fun h=>nw_mono (hN) h) (bd (css:= [(0,_)]) T.st38 (ex_cons (ex_cons (ex_nil))) ⟨rfl,rfl,p1 (φ:=fre w0.heap.size (sl 1 strE s.actions)) rfl,trivial⟩ (al (key:=13) T.z38 (ex_cons (ex_cons (ex_nil))) fun b13=>(sPA (cs':= [fre w0.heap.size (sl 1 strE s.actions),eqv (.slice none 0 0)]) rfl rfl rfl T.agg38 rfl rfl (nl (th (sq (sq (rg (al (key:=14) T.z3 (ex_cons (ex_nil)) fun b14=>(sP (φ:=int 0) rfl rfl rfl T.one3 rfl (nl (th (bk ?_))))))))))))))))))))))))))))))))))))
    refine nwC 130 88 1 (edgesN w0.heap.size) (kncC 13 1 (osl 130 (.slice none 0 0)) rfl rfl eq_osl ?_)
    have hI2_0:WI s xss2 (f1,f2) 0 ([(f1,f2)]:List (Int × Int)) (mset ([]:List ((Int × Int) × Int)) (f1,f2) 0) ([]:List (List (Int × Int))):=by
     exact wi_zero ⟨hfo0,hfo1,hfo2⟩
    refine lp (κ:=Nat × Nat × Value × (List (Int × Int)) × (List ((Int × Int) × Int)) × Value × (List (List (Int × Int)))) (fun p=> [(2,ptr 2 b2 0),(4,ptr 4 b4 0),(5,ptr 5 b5 0),(11,ptr 11 b11 0),(12,ptr 12 b12 0),(13,ptr 13 b13 0),(14,ptr 14 p.2.1 0)]) (fun p=> [(2,cell b2 [sl 1 strE s.actions,sl 2 stateE s.states]),(4,cell b4 [eqv (.slice none 0 0),eqv (.slice none 0 0)]),(5,cell b5 [osl 25 v25]),(10,cell b10 [int f1,int f2]),(11,cell b11 [mpv 86 b86]),(12,cell b12 [osl 90 p.2.2.1]),(13,cell b13 [fre w0.heap.size (sl 1 strE s.actions),osl 130 p.2.2.2.2.2.1]),(14,cell p.2.1 [int (p.1:Int)]),(25,own v25 63 1 eqvE us2),(86,mp b86 pairV pairD intV p.2.2.2.2.1),(90,own p.2.2.1 159 2 pairE p.2.2.2.1),(130,own p.2.2.2.2.2.1 88 1 (edgesN w0.heap.size) p.2.2.2.2.2.2),(251,bigown us2 3 1 intE xss2 none)]) (fun p=>WI s xss2 (f1,f2) p.1 p.2.2.2.1 p.2.2.2.2.1 p.2.2.2.2.2.2) (fun p=>s.states.length+want.length- p.1) ⟨0,b14,v90,([(f1,f2)]:List (Int × Int)),mset ([]:List ((Int × Int) × Int)) (f1,f2) 0,(.slice none 0 0),([]:List (List (Int × Int)))⟩ hI2_0 ⟨id,id,id,id,id,id,id,trivial⟩ ⟨⟨rfl,id⟩,⟨rfl,id⟩,⟨rfl,id⟩,⟨rfl,id⟩,⟨rfl,id⟩,⟨rfl,id⟩,⟨rfl,id⟩,⟨rfl,id⟩,⟨rfl,id⟩,⟨rfl,id⟩,⟨rfl,id⟩,⟨rfl,id⟩,⟨rfl,id⟩,trivial⟩ ?_
    intro⟨i,c14,v,q,mm,u130,outs⟩ hG2
    have hWI:WI s xss2 (f1,f2) i q mm outs:=hG2
    show Ct _ _ _ _ [(2,ptr 2 b2 0),(4,ptr 4 b4 0),(5,ptr 5 b5 0),(11,ptr 11 b11 0),(12,ptr 12 b12 0),(13,ptr 13 b13 0),(14,ptr 14 c14 0)] [(2,cell b2 [sl 1 strE s.actions,sl 2 stateE s.states]),(4,cell b4 [eqv (.slice none 0 0),eqv (.slice none 0 0)]),(5,cell b5 [osl 25 v25]),(10,cell b10 [int f1,int f2]),(11,cell b11 [mpv 86 b86]),(12,cell b12 [osl 90 v]),(13,cell b13 [fre w0.heap.size (sl 1 strE s.actions),osl 130 u130]),(14,cell c14 [int (i:Int)]),(25,own v25 63 1 eqvE us2),(86,mp b86 pairV pairD intV mm),(90,own v 159 2 pairE q),(130,own u130 88 1 (edgesN w0.heap.size) outs),(251,bigown us2 3 1 intE xss2 none)] _
    have hql:=wq_len hWI.wq hSE
    have hoi:=hWI.il
    have hol:outs.length=i:=by rw[hWI.out];simp
    refine sq (sq (rg (lP rfl rfl rfl T.one3 (lP rfl rfl rfl T.one123 (lnO rfl rfl T.sl123 (bi rfl rfl b_lss (nl (th ?_))))))))
    refine cd rfl (fun hc4=> ?_) (fun hc4=> ?_)
    ·try simp at hc4
     obtain⟨hq0,hq1,hq2⟩:=hWI.wq.bd _ (ix_memS hc4)
     have hqb:=acc_bd (hT.st ((ix q i).1).toNat (by omega)) (sets_acc hw hSE (fun _ h=>h) (by omega) hq2)
     refine sk (th (sq (bk (sq (rg (al (key:=15) T.z88 (ex_cons (ex_nil)) fun b15=>(nl (th (sq (sq (rg (nw 150 94 2 pairE (knc 15 0 (osl 150 (.slice none 0 0)) rfl rfl eq_osl (lP rfl rfl rfl T.one123 (lP rfl rfl rfl T.one3 (iO rfl rfl rfl T.sl123 (by omega) (by omega) (fO rfl T.fld159_1 (lO rfl rfl (by first|exact gN (by omega)|exact gI (by omega) (by omega)) rfl T.one3 (cal0 (φs:= [int ((ix q i).2)]) (φ:=clo 112 [fp [int ((ix q i).2)]]) ⟨rfl,trivial⟩ (prog3.In_ok ((ix q i).2)) T.ent84 (nl (th (bk ?_))))))))))))))))))))))
     have hR0:WN s xss2 (f1,f2) i (ix q i) q mm outs 0 ([]:List (Int × Int)):=by
      exact wn_zero hWI (by omega)
     refine rf (κ:=Value × (List (Int × Int)) × (List ((Int × Int) × Int)) × Value × (List (Int × Int))) 900 (fun p=> [(2,cell b2 [sl 1 strE s.actions,sl 2 stateE s.states]),(4,cell b4 [eqv (.slice none 0 0),eqv (.slice none 0 0)]),(5,cell b5 [osl 25 v25]),(10,cell b10 [int f1,int f2]),(11,cell b11 [mpv 86 b86]),(12,cell b12 [osl 90 p.1]),(13,cell b13 [fre w0.heap.size (sl 1 strE s.actions),osl 130 u130]),(14,cell c14 [int (i:Int)]),(15,cell b15 [osl 150 p.2.2.2.1]),(25,own v25 63 1 eqvE us2),(86,mp b86 pairV pairD intV p.2.2.1),(90,own p.1 159 2 pairE p.2.1),(130,own u130 88 1 (edgesN w0.heap.size) outs),(150,own p.2.2.2.1 94 2 pairE p.2.2.2.2),(251,bigown us2 3 1 intE xss2 none)]) (fun iR p=>WN s xss2 (f1,f2) i (ix q i) p.2.1 p.2.2.1 outs iR p.2.2.2.2) (fun c p=>False) rfl (InIt (ix q i).2 (by omega) (by omega)) T.ent112 rfl (fun _=>rfl) (fun _=>rfl) ⟨v,q,mm,(.slice none 0 0),([]:List (Int × Int))⟩ hR0 ⟨⟨rfl,id⟩,⟨rfl,id⟩,⟨rfl,id⟩,⟨rfl,id⟩,⟨rfl,id⟩,⟨rfl,id⟩,⟨rfl,id⟩,⟨rfl,id⟩,⟨rfl,id⟩,⟨rfl,id⟩,⟨rfl,id⟩,⟨rfl,id⟩,⟨rfl,id⟩,⟨rfl,id⟩,⟨rfl,id⟩,trivial⟩ ?_ ?_ (fun k h=>h.elim) (fun id k h=>h.elim) (fun c k h=>h.elim)
     ·intro m0 ⟨v2,q2,mm2,v150,es⟩ x0 hG0 hx0 l R w1 M1 F1 hRd
      have hR0:WN s xss2 (f1,f2) i (ix q i) q2 mm2 outs m0 es:=hG0
      show Ct _ _ _ _ _ ((900,obj l (.loop R)):: [(2,cell b2 [sl 1 strE s.actions,sl 2 stateE s.states]),(4,cell b4 [eqv (.slice none 0 0),eqv (.slice none 0 0)]),(5,cell b5 [osl 25 v25]),(10,cell b10 [int f1,int f2]),(11,cell b11 [mpv 86 b86]),(12,cell b12 [osl 90 v2]),(13,cell b13 [fre w0.heap.size (sl 1 strE s.actions),osl 130 u130]),(14,cell c14 [int (i:Int)]),(15,cell b15 [osl 150 v150]),(25,own v25 63 1 eqvE us2),(86,mp b86 pairV pairD intV mm2),(90,own v2 159 2 pairE q2),(130,own u130 88 1 (edgesN w0.heap.size) outs),(150,own v150 94 2 pairE es),(251,bigown us2 3 1 intE xss2 none)]) _
      obtain⟨a,rfl,ha63,hha⟩:=listOf_get hx0
      have hql2:=wq_len hR0.wi.wq hSE
      have hi2:=hR0.hi
      have hpe1:(ix q2 i).1=(ix q i).1:=by rw[hR0.pe]
      have hix:=hT.st ((ix q i).1).toNat (by omega)
      have hxl:=hix.len
      have hxl2:(ix s.states ((ix q2 i).1).toNat).next.length=s.actions.length:=by rw[hpe1];exact hxl
      have hgo:=or_go hT (x:=((ix q i).1).toNat) (by omega) ((orAll_has _ _).2 ⟨_,sets_acc hw hSE (fun _ h=>h) (by omega) hq2,hha⟩)
      have hto:tgt s (ix q i) (a:Int)=ix (ix s.states ((ix q2 i).1).toNat).next a:=by unfold tgt;rw[hpe1];rfl
      have htg:tgt s (ix q i) (a:Int)=ix (nxt s ((ix q i).1).toNat) a:=rfl
      have hg0:0≤tgt s (ix q i) (a:Int):=by omega
      have hg1:tgt s (ix q i) (a:Int)<(s.states.length:Int):=by omega
      have hxs2:=hSE.len
      have hS2:=sets_len hT hw hSE (fun _ h=>h) (x:=(tgt s (ix q i) (a:Int)).toNat) (by omega)
      refine rg (ag (nl (aq hRd rfl (bk (sq (dr (nh:=14) [0,1,0,0,12,28,60,127,255,511,0,2047,4095,8191] T.mixed (by kernel_rfl) ?_))))))
      refine st_ rfl (fun _ _ _ gq kq=>fP (gq.1.trans rfl) T.fld25_1 kq) ?_
      refine st_ rfl (fun _ _ _ gq kq=>lP (gq.1.trans rfl) rfl rfl T.one23 kq) ?_
      refine st_ rfl (fun _ _ _ gq kq=>lP (gq.1.trans rfl) rfl rfl T.one123 kq) ?_
      refine st_ rfl (fun _ _ _ gq kq=>lP (gq.1.trans rfl) rfl rfl T.one3 kq) ?_
      refine st_ rfl (fun _ _ _ gq kq=>iO (gq.1.trans rfl) rfl (gq.2.1.trans rfl) T.sl123 (by omega) (by omega) kq) ?_
      refine st_ rfl (fun _ _ _ gq kq=>fO (gq.1.trans rfl) T.fld159_0 kq) ?_
      refine st_ rfl (fun _ _ _ gq kq=>lO (gq.1.trans rfl) rfl (by first|exact gN (by omega)|exact gI (by omega) (by omega)) rfl T.one3 kq) ?_
      refine st_ rfl (fun _ _ _ gq kq=>iF (gq.1.trans rfl) (gq.2.1.trans rfl) T.sl23 (by omega) (by first|exact gN (by omega)|exact gI (by omega) (by omega)) kq) ?_
      refine st_ rfl (fun _ _ _ gq kq=>fF (gq.1.trans rfl) T.fld72_1 kq) ?_
      refine st_ rfl (fun _ _ _ gq kq=>lF (gq.1.trans rfl) rfl T.one63 kq) ?_
      refine st_ rfl (fun _ _ _ gq kq=>mv' (gq.1.trans rfl) kq) ?_
      refine st_ rfl (fun _ _ _ gq kq=>iF (gq.1.trans rfl) (gq.2.1.trans rfl) T.sl63 (by omega) (by first|exact gN (by omega)|exact gI (by omega) (by omega)) kq) ?_
      refine st_ rfl (fun _ _ _ gq kq=>lF (gq.1.trans rfl) rfl T.one3 kq) ?_
      refine st_ rfl (fun _ _ _ gq kq=>ag' (gq.1.trans rfl) kq) ?_
      refine pn (nl (th (sq (rg (kn 17 (int (tgt s (ix q i) (a:Int))) rfl (by rw[hto];exact fun h=>h) (lP rfl rfl rfl T.one157 (mv (iO rfl rfl rfl T.sl157 (by omega) (by omega) (lO rfl rfl (by first|exact gN (by omega)|exact gI (by omega) (by omega)) rfl T.one63 (tkB 251 98 ((tgt s (ix q i) (a:Int)).toNat) rfl rfl (by decide) (gK (by omega)) (gK (by omega)) (kn 124 (osl 98 (ix us2 ((tgt s (ix q i) (a:Int)).toNat))) rfl eq_osl (lnO rfl rfl T.sl63 (mv (nl (th (bk ?_))))))))))))))))
      have hI3_0:0≤(ix xss2 ((tgt s (ix q i) (a:Int)).toNat)).length:=by
       first|omega|simp
      have hI3_1:WK s xss2 (f1,f2) i (ix q i) q2 mm2 outs m0 (a:Int) 0 es:=by
       exact wk_zero hR0 (a:Int)
      refine lp (κ:=Nat × Value × (List (Int × Int)) × (List ((Int × Int) × Int)) × Value × (List (Int × Int))) (fun p=> [(4,ptr 4 b4 0),(11,ptr 11 b11 0),(12,ptr 12 b12 0),(15,ptr 15 b15 0),(16,int (a:Int)),(17,int (tgt s (ix q i) (a:Int))),(124,osl 98 (ix us2 ((tgt s (ix q i) (a:Int)).toNat))),(125,int ((ix xss2 ((tgt s (ix q i) (a:Int)).toNat)).length:Int)),(126,int (p.1:Int))]) (fun p=> [(2,cell b2 [sl 1 strE s.actions,sl 2 stateE s.states]),(4,cell b4 [eqv (.slice none 0 0),eqv (.slice none 0 0)]),(5,cell b5 [osl 25 v25]),(10,cell b10 [int f1,int f2]),(11,cell b11 [mpv 86 b86]),(12,cell b12 [osl 90 p.2.1]),(13,cell b13 [fre w0.heap.size (sl 1 strE s.actions),osl 130 u130]),(14,cell c14 [int (i:Int)]),(15,cell b15 [osl 150 p.2.2.2.2.1]),(25,own v25 63 1 eqvE us2),(86,mp b86 pairV pairD intV p.2.2.2.1),(90,own p.2.1 159 2 pairE p.2.2.1),(98,own (ix us2 ((tgt s (ix q i) (a:Int)).toNat)) 3 1 intE (ix xss2 ((tgt s (ix q i) (a:Int)).toNat))),(130,own u130 88 1 (edgesN w0.heap.size) outs),(150,own p.2.2.2.2.1 94 2 pairE p.2.2.2.2.2),(251,bigown us2 3 1 intE xss2 (some ((tgt s (ix q i) (a:Int)).toNat))),(900,obj l (.loop { R with state:= .busy }))]) (fun p=>(p.1≤(ix xss2 ((tgt s (ix q i) (a:Int)).toNat)).length)∧(WK s xss2 (f1,f2) i (ix q i) p.2.2.1 p.2.2.2.1 outs m0 (a:Int) p.1 p.2.2.2.2.2)) (fun p=>(ix xss2 ((tgt s (ix q i) (a:Int)).toNat)).length- p.1) ⟨0,v2,q2,mm2,v150,es⟩ ⟨hI3_0,hI3_1⟩ ⟨id,id,id,id,id,id,id,id,id,trivial⟩ ⟨⟨rfl,id⟩,⟨rfl,id⟩,⟨rfl,id⟩,⟨rfl,id⟩,⟨rfl,id⟩,⟨rfl,id⟩,⟨rfl,id⟩,⟨rfl,id⟩,⟨rfl,id⟩,⟨rfl,id⟩,⟨rfl,id⟩,⟨rfl,id⟩,⟨rfl,id⟩,⟨rfl,id⟩,⟨rfl,id⟩,⟨rfl,id⟩,⟨rfl,id⟩,trivial⟩ ?_
      intro⟨k3,v3,q3,mm3,v153,es3⟩ hG3
      obtain⟨hk3,hWK⟩:(k3≤(ix xss2 ((tgt s (ix q i) (a:Int)).toNat)).length)∧(WK s xss2 (f1,f2) i (ix q i) q3 mm3 outs m0 (a:Int) k3 es3):=hG3
      show Ct _ _ _ _ [(4,ptr 4 b4 0),(11,ptr 11 b11 0),(12,ptr 12 b12 0),(15,ptr 15 b15 0),(16,int (a:Int)),(17,int (tgt s (ix q i) (a:Int))),(124,osl 98 (ix us2 ((tgt s (ix q i) (a:Int)).toNat))),(125,int ((ix xss2 ((tgt s (ix q i) (a:Int)).toNat)).length:Int)),(126,int (k3:Int))] [(2,cell b2 [sl 1 strE s.actions,sl 2 stateE s.states]),(4,cell b4 [eqv (.slice none 0 0),eqv (.slice none 0 0)]),(5,cell b5 [osl 25 v25]),(10,cell b10 [int f1,int f2]),(11,cell b11 [mpv 86 b86]),(12,cell b12 [osl 90 v3]),(13,cell b13 [fre w0.heap.size (sl 1 strE s.actions),osl 130 u130]),(14,cell c14 [int (i:Int)]),(15,cell b15 [osl 150 v153]),(25,own v25 63 1 eqvE us2),(86,mp b86 pairV pairD intV mm3),(90,own v3 159 2 pairE q3),(98,own (ix us2 ((tgt s (ix q i) (a:Int)).toNat)) 3 1 intE (ix xss2 ((tgt s (ix q i) (a:Int)).toNat))),(130,own u130 88 1 (edgesN w0.heap.size) outs),(150,own v153 94 2 pairE es3),(251,bigown us2 3 1 intE xss2 (some ((tgt s (ix q i) (a:Int)).toNat))),(900,obj l (.loop { R with state:= .busy }))] _
      refine sq (rg (bi rfl rfl b_lss (nl (th (sq ?_)))))
      refine cd rfl (fun hc5=> ?_) (fun hc5=> ?_)
      ·try simp at hc5
       have hub:=acc_bd (hT.st (tgt s (ix q i) (a:Int)).toNat (by omega)) (sets_acc hw hSE (fun _ h=>h) (by omega) (ix_mem hc5))
       have hq3l:=wq_len hWK.wi.wq hSE
       have hesl:=wk_len hT hw hSE hWK
       refine sk (th (sq (bk (sq (rg (iO rfl rfl rfl T.sl63 (by omega) (by omega) (lO rfl rfl (by first|exact gN (by omega)|exact gI (by omega) (by omega)) rfl T.one3 (ag (nl (th (sq (rg (lP rfl rfl rfl T.one160 (mv (mv (bd (css:= [(0,_),(1,_)]) T.st159 (ex_cons (ex_cons (ex_nil))) ⟨rfl,rfl,p1 (φ:=int (tgt s (ix q i) (a:Int))) rfl,⟨rfl,rfl,p1 (φ:=int (ix (ix xss2 ((tgt s (ix q i) (a:Int)).toNat)) k3)) rfl,trivial⟩⟩ (lookup2 (z:=(0:Int)) (q:=(tgt s (ix q i) (a:Int),ix (ix xss2 ((tgt s (ix q i) (a:Int)).toNat)) k3)) rfl rfl agg_pair T.map160 ⟨⟨by omega,by omega⟩,⟨by omega,by omega⟩⟩ T.zvi3 (mv (xt rfl rfl (xt rfl rfl (ag (ag (nl (th (sq (sq (rg (mv (no rfl (nl (th ?_)))))))))))))))))))))))))))))))
       refine cd rfl (fun hc6=> ?_) (fun hc6=> ?_)
       ·try simp at hc6
        refine sq (rg (lP rfl rfl rfl T.one123 (lnO rfl rfl T.sl123 (ag (nl (th (sq (rg (lP rfl rfl rfl T.one160 (mv (mv (bd (css:= [(0,_),(1,_)]) T.st159 (ex_cons (ex_cons (ex_nil))) ⟨rfl,rfl,p1 (φ:=int (tgt s (ix q i) (a:Int))) rfl,⟨rfl,rfl,p1 (φ:=int (ix (ix xss2 ((tgt s (ix q i) (a:Int)).toNat)) k3)) rfl,trivial⟩⟩ (mv (mapUpdate (q:=(tgt s (ix q i) (a:Int),ix (ix xss2 ((tgt s (ix q i) (a:Int)).toNat)) k3)) (u:=(q3.length:Int)) rfl rfl agg_pair rfl T.map160 ⟨⟨by omega,by omega⟩,⟨by omega,by omega⟩⟩ (nl (th (rg (lP rfl rfl rfl T.one123 (mv (mv (bd (css:= [(0,_),(1,_)]) T.st159 (ex_cons (ex_cons (ex_nil))) ⟨rfl,rfl,p1 (φ:=int (tgt s (ix q i) (a:Int))) rfl,⟨rfl,rfl,p1 (φ:=int (ix (ix xss2 ((tgt s (ix q i) (a:Int)).toNat)) k3)) rfl,trivial⟩⟩ (bsE (enc:=pairE) (xs:= [(tgt s (ix q i) (a:Int),ix (ix xss2 ((tgt s (ix q i) (a:Int)).toNat)) k3)]) (css:= [[int (tgt s (ix q i) (a:Int)),int (ix (ix xss2 ((tgt s (ix q i) (a:Int)).toNat)) k3)]]) T.mk123 ⟨rfl,rfl,pA (cs:= [int (tgt s (ix q i) (a:Int)),int (ix (ix xss2 ((tgt s (ix q i) (a:Int)).toNat)) k3)]) rfl,trivial⟩ rfl rfl rfl rfl (ap (key:=90) (zs:= [(tgt s (ix q i) (a:Int),ix (ix xss2 ((tgt s (ix q i) (a:Int)).toNat)) k3)]) osl_eq rfl rfl rfl T.mk123 (by unfold maxL at*;simp;omega) (by unfold maxL at*;simp;omega) fun v152=>(storePO rfl rfl rfl rfl T.one123 rfl (nl (th (rg (lP rfl rfl rfl T.one88 (mv (mv (bd (css:= [(0,_),(1,_)]) T.st94 (ex_cons (ex_cons (ex_nil))) ⟨rfl,rfl,p1 (φ:=int (a:Int)) rfl,⟨rfl,rfl,p1 (φ:=int (q3.length:Int)) rfl,trivial⟩⟩ (bsE (enc:=pairE) (xs:= [((a:Int),(q3.length:Int))]) (css:= [[int (a:Int),int (q3.length:Int)]]) T.mk88 ⟨rfl,rfl,pA (cs:= [int (a:Int),int (q3.length:Int)]) rfl,trivial⟩ rfl rfl rfl rfl (ap (key:=150) (zs:= [((a:Int),(q3.length:Int))]) osl_eq rfl rfl rfl T.mk88 (by unfold maxL at*;simp;omega) (by unfold maxL at*;simp;omega) fun v158=>(storePO rfl rfl rfl rfl T.one88 rfl (nl (eb (th (rg (bi rfl rfl (b_add (by unfold I64;omega)) (mv (nl ?_)))))))))))))))))))))))))))))))))))))))))
        have hN0:(k3+1)≤(ix xss2 ((tgt s (ix q i) (a:Int)).toNat)).length:=by
           first|omega|simp_all
        have hN1:WK s xss2 (f1,f2) i (ix q i) (q3++ [(tgt s (ix q i) (a:Int),ix (ix xss2 ((tgt s (ix q i) (a:Int)).toNat)) k3)]) (mset mm3 (tgt s (ix q i) (a:Int),ix (ix xss2 ((tgt s (ix q i) (a:Int)).toNat)) k3) (q3.length:Int)) outs m0 (a:Int) (k3+1) (es3++ [((a:Int),(q3.length:Int))]):=by
           exact wk_new hWK hc5 hg0 hg1 (by simpa using hc6)
        exact ln (⟨k3+1,v152,q3++ [(tgt s (ix q i) (a:Int),ix (ix xss2 ((tgt s (ix q i) (a:Int)).toNat)) k3)],mset mm3 (tgt s (ix q i) (a:Int),ix (ix xss2 ((tgt s (ix q i) (a:Int)).toNat)) k3) (q3.length:Int),v158,es3++ [((a:Int),(q3.length:Int))]⟩:Nat × Value × (List (Int × Int)) × (List ((Int × Int) × Int)) × Value × (List (Int × Int))) ⟨hN0,hN1⟩ (by first|omega|(dsimp only;omega)) ⟨id,id,id,id,id,id,id,id,id,trivial⟩ ⟨⟨rfl,id⟩,⟨rfl,id⟩,⟨rfl,id⟩,⟨rfl,id⟩,⟨rfl,id⟩,⟨rfl,id⟩,⟨rfl,id⟩,⟨rfl,id⟩,⟨rfl,id⟩,⟨rfl,id⟩,⟨rfl,id⟩,⟨rfl,id⟩,⟨rfl,id⟩,⟨rfl,id⟩,⟨rfl,id⟩,⟨rfl,id⟩,⟨rfl,id⟩,trivial⟩
       ·try simp at hc6
        refine sk (th (rg (lP rfl rfl rfl T.one88 (mv (mv (bd (css:= [(0,_),(1,_)]) T.st94 (ex_cons (ex_cons (ex_nil))) ⟨rfl,rfl,p1 (φ:=int (a:Int)) rfl,⟨rfl,rfl,p1 (φ:=int ((mget mm3 (tgt s (ix q i) (a:Int),ix (ix xss2 ((tgt s (ix q i) (a:Int)).toNat)) k3)).getD (0:Int))) rfl,trivial⟩⟩ (bsE (enc:=pairE) (xs:= [((a:Int),(mget mm3 (tgt s (ix q i) (a:Int),ix (ix xss2 ((tgt s (ix q i) (a:Int)).toNat)) k3)).getD (0:Int))]) (css:= [[int (a:Int),int ((mget mm3 (tgt s (ix q i) (a:Int),ix (ix xss2 ((tgt s (ix q i) (a:Int)).toNat)) k3)).getD (0:Int))]]) T.mk88 ⟨rfl,rfl,pA (cs:= [int (a:Int),int ((mget mm3 (tgt s (ix q i) (a:Int),ix (ix xss2 ((tgt s (ix q i) (a:Int)).toNat)) k3)).getD (0:Int))]) rfl,trivial⟩ rfl rfl rfl rfl (ap (key:=150) (zs:= [((a:Int),(mget mm3 (tgt s (ix q i) (a:Int),ix (ix xss2 ((tgt s (ix q i) (a:Int)).toNat)) k3)).getD (0:Int))]) osl_eq rfl rfl rfl T.mk88 (by unfold maxL at*;simp;omega) (by unfold maxL at*;simp;omega) fun v158=>(storePO rfl rfl rfl rfl T.one88 rfl (nl (eb (th (rg (bi rfl rfl (b_add (by unfold I64;omega)) (mv (nl ?_))))))))))))))))
        have hN0:(k3+1)≤(ix xss2 ((tgt s (ix q i) (a:Int)).toNat)).length:=by
           first|omega|simp_all
        have hN1:WK s xss2 (f1,f2) i (ix q i) q3 mm3 outs m0 (a:Int) (k3+1) (es3++ [((a:Int),(mget mm3 (tgt s (ix q i) (a:Int),ix (ix xss2 ((tgt s (ix q i) (a:Int)).toNat)) k3)).getD (0:Int))]):=by
           exact wk_old hWK hc5 (by simpa using hc6)
        exact ln (⟨k3+1,v3,q3,mm3,v158,es3++ [((a:Int),(mget mm3 (tgt s (ix q i) (a:Int),ix (ix xss2 ((tgt s (ix q i) (a:Int)).toNat)) k3)).getD (0:Int))]⟩:Nat × Value × (List (Int × Int)) × (List ((Int × Int) × Int)) × Value × (List (Int × Int))) ⟨hN0,hN1⟩ (by first|omega|(dsimp only;omega)) ⟨id,id,id,id,id,id,id,id,id,trivial⟩ ⟨⟨rfl,id⟩,⟨rfl,id⟩,⟨rfl,id⟩,⟨rfl,id⟩,⟨rfl,id⟩,⟨rfl,id⟩,⟨rfl,id⟩,⟨rfl,id⟩,⟨rfl,id⟩,⟨rfl,id⟩,⟨rfl,id⟩,⟨rfl,id⟩,⟨rfl,id⟩,⟨rfl,id⟩,⟨rfl,id⟩,⟨rfl,id⟩,⟨rfl,id⟩,trivial⟩
      ·try simp at hc5
       refine ex (xt_ (xt_ (xb (eb (gvSA 251 98 ((tgt s (ix q i) (a:Int)).toNat) rfl rfl (by decide) (gK (by omega)) (gK (by omega)) ?_)))))
       have hN0:WN s xss2 (f1,f2) i (ix q i) q3 mm3 outs (m0+1) es3:=by
           exact wk_end hWK (by omega) hx0
       exact rqN ⟨v3,q3,mm3,v153,es3⟩ hN0 ⟨⟨rfl,id⟩,⟨rfl,id⟩,⟨rfl,id⟩,⟨rfl,id⟩,⟨rfl,id⟩,⟨rfl,id⟩,⟨rfl,id⟩,⟨rfl,id⟩,⟨rfl,id⟩,⟨rfl,id⟩,⟨rfl,id⟩,⟨rfl,id⟩,⟨rfl,id⟩,⟨rfl,id⟩,⟨rfl,id⟩,⟨rfl,id⟩,trivial⟩
     ·intro⟨v2,q2,mm2,v150,es⟩ hG0
      have hR0:WN s xss2 (f1,f2) i (ix q i) q2 mm2 outs ((listOf 63 (ix q i).2).length) es:=hG0
      show At _ _ _ _ [(2,cell b2 [sl 1 strE s.actions,sl 2 stateE s.states]),(4,cell b4 [eqv (.slice none 0 0),eqv (.slice none 0 0)]),(5,cell b5 [osl 25 v25]),(10,cell b10 [int f1,int f2]),(11,cell b11 [mpv 86 b86]),(12,cell b12 [osl 90 v2]),(13,cell b13 [fre w0.heap.size (sl 1 strE s.actions),osl 130 u130]),(14,cell c14 [int (i:Int)]),(15,cell b15 [osl 150 v150]),(25,own v25 63 1 eqvE us2),(86,mp b86 pairV pairD intV mm2),(90,own v2 159 2 pairE q2),(130,own u130 88 1 (edgesN w0.heap.size) outs),(150,own v150 94 2 pairE es),(251,bigown us2 3 1 intE xss2 none)]
      refine eb (th (sq (rg (lP rfl rfl rfl T.one88 ?_))))
      have hql3:=wq_len hR0.wi.wq hSE
      have hes:=es_bd hR0 (by omega)
      refine cal (Hi:= [(150,own v150 94 2 pairE es)]) (φs:= [osl 5 v150,eqv (.func (.func 114) #[] #[])]) ⟨osl_is.trans osl_is.symm,rfl,trivial⟩ (rekeyIO 5 150 (sortE.SortcmpW_ok v150 es (by assumption))) T.ent68 ⟨⟨rfl,id⟩,trivial⟩ fun _ _=>(nl (th (rg (fP rfl T.fld38_1 (lP rfl rfl rfl T.one36 (lP rfl rfl rfl T.one88 (fzN pairE 150 164 noM flat rfl rfl (bsE (enc:=edgesN w0.heap.size) (xs:= [(sortP es)]) (css:= [[fre w0.heap.size (sl 2 pairE (sortP es))]]) T.mk36 ⟨rfl,rfl,p1 (φ:=fre w0.heap.size (sl 2 pairE (sortP es))) rfl,trivial⟩ rfl rfl rfl rfl (ap (key:=130) (zs:= [(sortP es)]) osl_eq rfl rfl rfl T.mk36 (by unfold maxL at*;simp;omega) (by unfold maxL at*;simp;omega) fun v166=>(fP rfl T.fld38_1 (storePO rfl rfl rfl rfl T.one36 rfl (nl (eb (th (sq (sq (rg (lP rfl rfl rfl T.one3 (nl (th (rg (al (key:=14) T.z3 (ex_cons (ex_nil)) fun b14=>(sP (φ:=int (i:Int)) rfl rfl rfl T.one3 rfl (nl (th (rg (lP rfl rfl rfl T.one3 (bi rfl rfl (b_add (by unfold I64;omega)) (sP (φ:=int ((i+1:Nat):Int)) rfl rfl rfl T.one3 rfl (nl ?_))))))))))))))))))))))))))))))
      have hN0:WI s xss2 (f1,f2) (i+1) q2 mm2 (outs++ [(sortP es)]):=by
       exact wn_end hR0
      exact ln (⟨i+1,b14,v2,q2,mm2,v166,outs++ [(sortP es)]⟩:Nat × Nat × Value × (List (Int × Int)) × (List ((Int × Int) × Int)) × Value × (List (List (Int × Int)))) hN0 (by first|omega|(dsimp only;omega)) ⟨id,id,id,id,id,id,id,trivial⟩ ⟨⟨rfl,id⟩,⟨rfl,id⟩,⟨rfl,id⟩,⟨rfl,id⟩,⟨rfl,id⟩,⟨rfl,id⟩,⟨rfl,id⟩,⟨rfl,id⟩,⟨rfl,id⟩,⟨rfl,id⟩,⟨rfl,id⟩,⟨rfl,id⟩,⟨rfl,id⟩,trivial⟩
    ·try simp at hc4
     refine ex (xt_ (xt_ (xb (th (sq (rg (fzcN edgesE 13 130 1 noM (fun _=>rfl) rfl rfl rfl (by decide) (lPA rfl rfl T.agg38 rfl (sPA (cs':= [fre w0.heap.size (sl 1 strE s.actions),fre w0.heap.size (sl 1 edgesE outs)]) rfl rfl rfl T.agg38 rfl rfl (nl (th (rt ?_))))))))))))
     exact rE ⟨⟨s.actions,outs⟩,xss2,q,mm,hSE,by rw[←hJ3,show q.length=i by omega];exact hWI,rfl⟩ [.cell 4 38] rfl [agg [fre w0.heap.size (sl 1 strE s.actions),fre w0.heap.size (sl 1 edgesE outs)]] ⟨.agg rfl rfl T.agg38 rfl rfl,trivial⟩ (rfl) trivial (by first|exact .inr rfl|exact .inl rfl)
end wit
end Go.Proofs.YtcjemmihcplgdaaGreat
