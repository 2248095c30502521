/- What the law LeastSame states: true at every input, and its arguments read afterwards as before. Conditions: the three listed tables of the library lie as the program's text lays them (the card ties this). -/
import Derived.Test.YtolpjmllmlahfaaDoorX16
import Derived.Test.YtolpjmllmlahfaaDoorX18
import Derived.Test.YtolpjmllmlahfaaDoorTie
import Derived.Test.YtolpjmllmlahfaaDoorCards
set_option linter.all false
namespace Go.Proofs.YtolpjmllmlahfaaDoor
open AL Go ref01 ref03 ref04 ref06 prog prog2 Itoa LawOpen LawOpen2
open Go.ChangeShapes Go.WideShapes Go.ChangeAt Go.WideElems Go.RowKit
set_option maxRecDepth 100000
set_option linter.all false
attribute [local semireducible] eqv agg in
theorem leastSame_lifted (os:Os) (started:os.Started) (H:Type) (enc:TypeId × Value→H):
 ReturnsInHanded {} Tryd.checked os 7 .any (fun w args=>(Rows.leastSameSpec.pre enc Tryd.prog Tryd.f7 [] false w args∧laidMetH Tryd.prog laid3 w)∧sizedMet enc Tryd.prog Tryd.f7 (OpenSpec.ofChange Rows.leastSameSpec) false w args)
  (Rows.leastSameSpec.post enc Tryd.prog Tryd.f7 false true false false):=by
 refine returnsInHanded_of_change_and (C:=Tryd.checked) (X:=fun w _=>laidMetH Tryd.prog laid3 w) (fun _ _ _ hh h=>h.of_heap hh) own started (by kernel_rfl) Tryd.func7
  (ChangeSpec.witness_shaped (enc:=enc) (C:=Tryd.checked) (os:=os) (X:=fun w _=>laidMetH Tryd.prog laid3 w) false (World.doorLaid Tryd.prog 400 os) #[.agg #[.slice none 0 0,.slice none 0 0],.agg #[.slice none 0 0,.slice none 0 0],.agg #[.int .i64 0,.int .i64 0]] 8 rfl (World.shaped_of_RefB (by kernel_rfl) (by kernel_rfl)) (by kernel_rfl) (by kernel_rfl) (by kernel_rfl) (door_met os _)) ?_
 intro W base args ds gs before hval0 hW _ hsz hL _
 have hval:∀(j:Nat) t v,Tryd.f7.params[j]?=some t→args[j]?=some v→Value.okWide Tryd.prog W .any base t v:=hval0
 have hW':=hW
 obtain⟨pp,qq,hA0,hV,rfl,hfz,hnd⟩:=hW
 have hA:DataW.TrodAll enc Tryd.prog W 0 (fun _=>true) true Tryd.f7.params.toList args.toList ds pp:=hA0
 have hps:Tryd.f7.params= #[55,25,56]:=Tryd.params7
 rw[hps] at hA hval
 obtain⟨v0,v1,v2,d0,d1,d2,p0,p1,p2,rfl,rfl,rfl,h0,h1,h2⟩:=trodAll_three hA
 obtain⟨rfl,rfl⟩:=trodVars_none hV
 have hz0:∀k∈d0.weights Tryd.prog 55,k≤reachBytes:=fun k hk=>by
  have:=List.all_eq_true.1 hsz k (DataW.weights_mem_each (j:=0) (t:=55) (d:=d0) (by rw[hps];rfl) rfl k hk)
  simpa using this
 obtain⟨s0,hs0⟩:=LawOpen3.open_sysA (hval 0 55 v0 rfl rfl) h0 hz0
 have hz1:∀k∈d1.weights Tryd.prog 25,k≤reachBytes:=fun k hk=>by
  have:=List.all_eq_true.1 hsz k (DataW.weights_mem_each (j:=1) (t:=25) (d:=d1) (by rw[hps];rfl) rfl k hk)
  simpa using this
 obtain⟨s1,hs1,hsm1⟩:=open_specA (hval 1 25 v1 rfl rfl) h1 hz1
 obtain⟨x2,y2,rfl⟩:=LawOpen3.open_pairA (hval 2 56 v2 rfl rfl) h2
 refine(lsts.LeastSame_ok s0 s1 hsm1 x2 y2 W (allF W) [v0,v1,.agg #[.int .i64 x2,.int .i64 y2]] ⟨⟨hs0,tab_of_laid hL _⟩,hs1,(⟨[.int .i64 x2,.int .i64 y2],rfl,rfl,rfl,trivial⟩:(agg [int x2,int y2]).p W (allF W) (.agg #[.int .i64 x2,.int .i64 y2])),trivial⟩ (fun b hb=>hb) (hpOk_nil _ _)).mono fun e W' hq=> ?_
 obtain⟨_,v,F',he,hl⟩:=hq
 have hv:v= .bool true:=hl.res
 subst hv
 exact⟨_,he,law_post laidOut (by rw[hps]) (show Tryd.f7.resultTypes= #[4] by kernel_rfl) Tryd.underlying4 (by kernel_rfl) rfl rfl hW' (left_below hl)⟩
theorem leastSame_holds:Rows.LeastSameSaid:=
 OpenClaim.holds_of_wide 7 Tryd.f7 rfl rfl rfl rfl rfl rfl rfl ⟨rfl,rfl,rfl,rfl,rfl⟩ rfl rfl rfl rfl rfl (by kernel_rfl) Tryd.func7 (by kernel_rfl)
  (of_decide_eq_true (by kernel_rfl)) (by unfold Func.isWrapper;first|(rw[if_pos (by decide+kernel)];kernel_rfl)|(rw[if_neg (by decide+kernel)];exact⟨rfl,rfl⟩))
  (fun os started H enc _=>leastSame_lifted os started H enc)
theorem leastSame_card:Rows.LeastSameCardSaid:=
 Claim7.holds_tied_plain_at .later [] [.data,.data,.data] true (true,"67ba1485ad798b89e448a1fe7d81af26fccf6589e6ce5c7ba304a4795016c9e5") false
  leastSame_holds (fun _ h=>by cases h) (by kernel_rfl) (fun _ h=>by cases h) leastSame_row_tie rfl ⟨rfl,rfl⟩ (by kernel_rfl) rfl
  (fun f fn hf hfn=>by
    obtain rfl:f=7:=Option.some.inj ((show Tryd.prog.funcNamed "makeweight/makeweightlaw06.LeastSame" =some 7 by kernel_rfl).symm.trans hf)|>.symm
    obtain rfl:fn=Tryd.f7:=(Option.some.inj (Tryd.func7.symm.trans hfn)).symm
    exact⟨by kernel_rfl,fun j t ht=>by
     rw[Tryd.params7] at ht
     have hm:t∈[55,25,56]:=by simpa using Array.mem_of_getElem? ht
     have hall:([55,25,56].all fun u=> !Tryd.prog.wantsStandIn u)=true:=by kernel_rfl
     exact(show Tryd.prog.wantsStandIn t=false by simpa using List.all_eq_true.1 hall t hm)⟩)
  (by kernel_rfl)
#print axioms leastSame_card
end Go.Proofs.YtolpjmllmlahfaaDoor
