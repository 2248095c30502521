/- What the law MakeSmall states: true at every input, and its arguments read afterwards as before. Conditions: the three listed tables of the library lie as the program's text lays them (the card ties this). -/
import Derived.Test.YtnlfjojfgghchaaGreatDoorX14
import Derived.Test.YtnlfjojfgghchaaGreatDoorX33
import Derived.Test.YtnlfjojfgghchaaGreatDoorTie
import Derived.Test.YtnlfjojfgghchaaGreatDoorCards
set_option linter.all false
namespace Go.Proofs.YtnlfjojfgghchaaGreatDoor
open AL Go
set_option maxRecDepth 100000
section
open ref01 ref03 ref04 ref06 prog prog2 Itoa LawOpen LawOpen2
open Go.ChangeShapes Go.WideShapes Go.ChangeAt Go.WideElems Go.RowKit
attribute [local semireducible] eqv agg in
theorem AX (os:Os) (started:os.Started) (H:Type) (enc:TypeId × Value→H):
 ReturnsInHanded {} Tryz.checked os 7 .any (fun w args=>(Rows.makeSmallSpec.pre enc Tryz.prog Tryz.f7 [] false w args∧laidMetH Tryz.prog BO w)∧sizedMet enc Tryz.prog Tryz.f7 (OpenSpec.ofChange Rows.makeSmallSpec) false w args)
  (Rows.makeSmallSpec.post enc Tryz.prog Tryz.f7 false true false false):=by
 refine returnsInHanded_of_change_and (C:=Tryz.checked) (X:=fun w _=>laidMetH Tryz.prog BO w) (fun _ _ _ hh h=>h.of_heap hh) own started kR Tryz.func7
  (ChangeSpec.witness_shaped (enc:=enc) (C:=Tryz.checked) (os:=os) (X:=fun w _=>laidMetH Tryz.prog BO w) false (World.doorLaid Tryz.prog 400 os) #[.agg #[.slice none 0 0,.slice none 0 0]] 8 rfl (World.shaped_of_RefB kR kR) kR kR kR (Oy os _)) ?_
 intro W base args ds gs before hval0 hW _ hsz hL _
 have hval:∀(j:Nat) t v,Tryz.f7.params[j]?=some t→args[j]?=some v→Value.okWide Tryz.prog W .any base t v:=hval0
 have hW':=hW
 obtain⟨pp,qq,hA0,hV,rfl,hfz,hnd⟩:=hW
 have hA:DataW.TrodAll enc Tryz.prog W 0 (fun _=>true) true Tryz.f7.params.toList args.toList ds pp:=hA0
 have hps:Tryz.f7.params= #[28]:=Tryz.params7
 rw[hps] at hA hval
 obtain⟨v0,d0,ha,rfl,h0⟩:=trodAll_one hA
 have hargs:args= #[v0]:=by simpa using ha
 subst hargs
 obtain⟨rfl,rfl⟩:=trodVars_none hV
 have hz0:∀k∈d0.weights Tryz.prog 28,k≤reachBytes:=fun k hk=>by
  have:=List.all_eq_true.1 hsz k (DataW.weights_mem_each (j:=0) (t:=28) (d:=d0) (by rw[hps];rfl) rfl k hk)
  simpa using this
 obtain⟨s0,hs0,hsm0⟩:=JI (hval 0 28 v0 rfl rfl) h0 hz0
 refine(mkw3.GQ s0 hsm0 W (sL W) [v0] ⟨⟨hs0,Hh hL _⟩,tV⟩ (fun b hb=>hb) (vM _ _)).mono fun e W' hq=> ?_
 obtain⟨_,v,F',he,hl⟩:=hq
 have hv:v= .bool true:=hl.res
 subst hv
 exact⟨_,he,Ox laidOut (by rw[hps]) (show Tryz.f7.resultTypes= #[4] by kernel_rfl) Tryz.underlying4 kR rfl rfl hW' (JH hl)⟩
theorem Cp:Rows.MakeSmallSaid:=
 OpenClaim.holds_of_wide 7 Tryz.f7 rfl rfl rfl rfl rfl rfl rfl ⟨rfl,rfl,rfl,rfl,rfl⟩ rfl rfl rfl rfl rfl kR Tryz.func7 kR
  (of_decide_eq_true kR) (by unfold Func.isWrapper;first|(rw[if_pos (by decide+kernel)];kernel_rfl)|(rw[if_neg (by decide+kernel)];exact⟨rfl,rfl⟩))
  (fun os started H enc _=>AX os started H enc)
theorem makeSmall_card:Rows.MakeSmallCardSaid:=
 Claim7.holds_tied_plain_at .later [] [.data,.data,.data] true (true,"03266252fa2c15fbe9c1cbe4f7add887d2e0cbdfc2343e4f22eebb66909e24ae") false
  Cp (fun _ h=>by cases h) kR (fun _ h=>by cases h) makeSmall_row_tie rfl ⟨rfl,rfl⟩ kR rfl
  (fun f fn hf hfn=>by
    obtain rfl:f=7:=Option.some.inj ((show Tryz.prog.funcNamed "makeweight/makeweightlaw18.MakeSmall" =some 7 by kernel_rfl).symm.trans hf)|>.symm
    obtain rfl:fn=Tryz.f7:=(Option.some.inj (Tryz.func7.symm.trans hfn)).symm
    exact⟨by kernel_rfl,fun j t ht=>by
     rw[Tryz.params7] at ht
     have hm:t∈[28]:=by simpa using Array.mem_of_getElem? ht
     have hall:([28].all fun u=> !Tryz.prog.wantsStandIn u)=true:=by kernel_rfl
     exact(show Tryz.prog.wantsStandIn t=false by simpa using List.all_eq_true.1 hall t hm)⟩)
  kR
#print axioms makeSmall_card
end
end Go.Proofs.YtnlfjojfgghchaaGreatDoor
