/- What the law MakeRight states: true at every input, and its arguments read afterwards as before. Conditions: the three listed tables of the library lie as the program's text lays them (the card ties this). -/
import Derived.Test.YtnlfjojfgghchaaGreatDoorX14
import Derived.Test.YtnlfjojfgghchaaGreatDoorX31
import Derived.Test.YtnlfjojfgghchaaGreatDoorTie
import Derived.Test.YtnlfjojfgghchaaGreatDoorCards
set_option linter.all false
namespace Go.Proofs.YtnlfjojfgghchaaGreatDoor
open AL Go
set_option maxRecDepth 100000
section
open ref01 ref03 ref04 ref06 prog prog2 Itoa LawOpen LawOpen2
open Go.ChangeShapes Go.WideShapes Go.ChangeAt Go.WideElems Go.RowKit
attribute [local semireducible] eqv agg in
theorem makeRight_lifted (os:Os) (started:os.Started) (H:Type) (enc:TypeId × Value→H):
 ReturnsInHanded {} Tryz.checked os 5 .any (fun w args=>(Rows.makeRightSpec.pre enc Tryz.prog Tryz.f5 [] false w args∧laidMetH Tryz.prog laid3 w)∧sizedMet enc Tryz.prog Tryz.f5 (OpenSpec.ofChange Rows.makeRightSpec) false w args)
  (Rows.makeRightSpec.post enc Tryz.prog Tryz.f5 false true false false):=by
 refine returnsInHanded_of_change_and (C:=Tryz.checked) (X:=fun w _=>laidMetH Tryz.prog laid3 w) (fun _ _ _ hh h=>h.of_heap hh) own started kR Tryz.func5
  (ChangeSpec.witness_shaped (enc:=enc) (C:=Tryz.checked) (os:=os) (X:=fun w _=>laidMetH Tryz.prog laid3 w) false (World.doorLaid Tryz.prog 400 os) #[.agg #[.slice none 0 0,.slice none 0 0],.agg #[.slice none 0 0,.slice none 0 0],.agg #[.slice none 0 0,.slice none 0 0],.int .i64 0] 8 rfl (World.shaped_of_RefB kR kR) kR kR kR (door_met os _)) ?_
 intro W base args ds gs before hval0 hW _ hsz hL _
 have hval:∀(j:Nat) t v,Tryz.f5.params[j]?=some t→args[j]?=some v→Value.okWide Tryz.prog W .any base t v:=hval0
 have hW':=hW
 obtain⟨pp,qq,hA0,hV,rfl,hfz,hnd⟩:=hW
 have hA:DataW.TrodAll enc Tryz.prog W 0 (fun _=>true) true Tryz.f5.params.toList args.toList ds pp:=hA0
 have hps:Tryz.f5.params= #[25,25,28,3]:=Tryz.params5
 rw[hps] at hA hval
 obtain⟨v0,v1,v2,v3,d0,d1,d2,d3,p0,p1,p2,p3,rfl,rfl,rfl,h0,h1,h2,h3⟩:=trodAll_four hA
 obtain⟨rfl,rfl⟩:=trodVars_none hV
 have hz0:∀k∈d0.weights Tryz.prog 25,k≤reachBytes:=fun k hk=>by
  have:=List.all_eq_true.1 hsz k (DataW.weights_mem_each (j:=0) (t:=25) (d:=d0) (by rw[hps];rfl) rfl k hk)
  simpa using this
 obtain⟨s0,hs0⟩:=LawOpen3.open_sysA (hval 0 25 v0 rfl rfl) h0 hz0
 have hz1:∀k∈d1.weights Tryz.prog 25,k≤reachBytes:=fun k hk=>by
  have:=List.all_eq_true.1 hsz k (DataW.weights_mem_each (j:=1) (t:=25) (d:=d1) (by rw[hps];rfl) rfl k hk)
  simpa using this
 obtain⟨s1,hs1⟩:=LawOpen3.open_sysA (hval 1 25 v1 rfl rfl) h1 hz1
 have hz2:∀k∈d2.weights Tryz.prog 28,k≤reachBytes:=fun k hk=>by
  have:=List.all_eq_true.1 hsz k (DataW.weights_mem_each (j:=2) (t:=28) (d:=d2) (by rw[hps];rfl) rfl k hk)
  simpa using this
 obtain⟨s2,hs2,hsm2⟩:=open_specA (hval 2 28 v2 rfl rfl) h2 hz2
 obtain⟨x3,rfl,rfl,rfl,_⟩:=open_int Tryz.underlying3 (hval 3 3 v3 rfl rfl) h3
 refine(mkw.MakeRight_ok s0 s1 s2 hsm2 x3 W (allF W) [v0,v1,v2,.int .i64 x3] ⟨⟨hs0,tab_of_laid hL _⟩,hs1,hs2,(show(int x3).p W (allF W) (.int .i64 x3) from rfl),tV⟩ (fun b hb=>hb) (hpOk_nil _ _)).mono fun e W' hq=> ?_
 obtain⟨_,v,F',he,hl⟩:=hq
 have hv:v= .bool true:=hl.res
 subst hv
 exact⟨_,he,law_post laidOut (by rw[hps]) (show Tryz.f5.resultTypes= #[4] by kernel_rfl) Tryz.underlying4 kR rfl rfl hW' (left_below hl)⟩
theorem makeRight_holds:Rows.MakeRightSaid:=
 OpenClaim.holds_of_wide 5 Tryz.f5 rfl rfl rfl rfl rfl rfl rfl ⟨rfl,rfl,rfl,rfl,rfl⟩ rfl rfl rfl rfl rfl kR Tryz.func5 kR
  (of_decide_eq_true kR) (by unfold Func.isWrapper;first|(rw[if_pos (by decide+kernel)];kernel_rfl)|(rw[if_neg (by decide+kernel)];exact⟨rfl,rfl⟩))
  (fun os started H enc _=>makeRight_lifted os started H enc)
theorem makeRight_card:Rows.MakeRightCardSaid:=
 Claim7.holds_tied_plain_at .later [] [.data,.data,.data] true (true,"03266252fa2c15fbe9c1cbe4f7add887d2e0cbdfc2343e4f22eebb66909e24ae") false
  makeRight_holds (fun _ h=>by cases h) kR (fun _ h=>by cases h) makeRight_row_tie rfl ⟨rfl,rfl⟩ kR rfl
  (fun f fn hf hfn=>by
    obtain rfl:f=5:=Option.some.inj ((show Tryz.prog.funcNamed "makeweight/makeweightlaw18.MakeRight" =some 5 by kernel_rfl).symm.trans hf)|>.symm
    obtain rfl:fn=Tryz.f5:=(Option.some.inj (Tryz.func5.symm.trans hfn)).symm
    exact⟨by kernel_rfl,fun j t ht=>by
     rw[Tryz.params5] at ht
     have hm:t∈[25,25,28,3]:=by simpa using Array.mem_of_getElem? ht
     have hall:([25,25,28,3].all fun u=> !Tryz.prog.wantsStandIn u)=true:=by kernel_rfl
     exact(show Tryz.prog.wantsStandIn t=false by simpa using List.all_eq_true.1 hall t hm)⟩)
  kR
#print axioms makeRight_card
end
end Go.Proofs.YtnlfjojfgghchaaGreatDoor
