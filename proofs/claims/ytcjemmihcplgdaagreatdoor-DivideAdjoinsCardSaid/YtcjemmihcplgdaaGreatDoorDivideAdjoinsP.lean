/- What the law DivideAdjoins states: true at every input, and its arguments read afterwards as before. Conditions: the three listed tables of the library lie as the program's text lays them (the card ties this). -/
import Derived.Test.YtcjemmihcplgdaaGreatDoorX15
import Derived.Test.YtcjemmihcplgdaaGreatDoorX25
import Derived.Test.YtcjemmihcplgdaaGreatDoorTie
import Derived.Test.YtcjemmihcplgdaaGreatDoorCards
set_option linter.all false
namespace Go.Proofs.YtcjemmihcplgdaaGreatDoor
open AL Go
set_option maxRecDepth 100000
section
open ref01 ref03 ref04 ref06 prog prog2 Itoa LawOpen LawOpen2
open Go.ChangeShapes Go.WideShapes Go.ChangeAt Go.WideElems Go.RowKit
attribute [local semireducible] eqv agg in
theorem divideAdjoins_lifted (os:Os) (started:os.Started) (H:Type) (enc:TypeId × Value→H):
 ReturnsInHanded {} Tryz.checked os 9 .any (fun w args=>(Rows.divideAdjoinsSpec.pre enc Tryz.prog Tryz.f9 [] false w args∧laidMetH Tryz.prog laid3 w)∧sizedMet enc Tryz.prog Tryz.f9 (OpenSpec.ofChange Rows.divideAdjoinsSpec) false w args)
  (Rows.divideAdjoinsSpec.post enc Tryz.prog Tryz.f9 false true false false):=by
 refine returnsInHanded_of_change_and (C:=Tryz.checked) (X:=fun w _=>laidMetH Tryz.prog laid3 w) (fun _ _ _ hh h=>h.of_heap hh) own started kR Tryz.func9
  (ChangeSpec.witness_shaped (enc:=enc) (C:=Tryz.checked) (os:=os) (X:=fun w _=>laidMetH Tryz.prog laid3 w) false (World.doorLaid Tryz.prog 400 os) #[.agg #[.slice none 0 0,.slice none 0 0],.agg #[.slice none 0 0,.slice none 0 0],.agg #[.slice none 0 0,.slice none 0 0]] 8 rfl (World.shaped_of_RefB kR kR) kR kR kR (door_met os _)) ?_
 intro W base args ds gs before hval0 hW _ hsz hL _
 have hval:∀(j:Nat) t v,Tryz.f9.params[j]?=some t→args[j]?=some v→Value.okWide Tryz.prog W .any base t v:=hval0
 have hW':=hW
 obtain⟨pp,qq,hA0,hV,rfl,hfz,hnd⟩:=hW
 have hA:DataW.TrodAll enc Tryz.prog W 0 (fun _=>true) true Tryz.f9.params.toList args.toList ds pp:=hA0
 have hps:Tryz.f9.params= #[25,25,25]:=Tryz.params9
 rw[hps] at hA hval
 obtain⟨v0,v1,v2,d0,d1,d2,p0,p1,p2,rfl,rfl,rfl,h0,h1,h2⟩:=trodAll_three hA
 obtain⟨rfl,rfl⟩:=trodVars_none hV
 have hz0:∀k∈d0.weights Tryz.prog 25,k≤reachBytes:=fun k hk=>by
  have:=List.all_eq_true.1 hsz k (DataW.weights_mem_each (j:=0) (t:=25) (d:=d0) (by rw[hps];rfl) rfl k hk)
  simpa using this
 obtain⟨s0,hs0,hsm0⟩:=open_specA (hval 0 25 v0 rfl rfl) h0 hz0
 have hz1:∀k∈d1.weights Tryz.prog 25,k≤reachBytes:=fun k hk=>by
  have:=List.all_eq_true.1 hsz k (DataW.weights_mem_each (j:=1) (t:=25) (d:=d1) (by rw[hps];rfl) rfl k hk)
  simpa using this
 obtain⟨s1,hs1,hsm1⟩:=open_specA (hval 1 25 v1 rfl rfl) h1 hz1
 have hz2:∀k∈d2.weights Tryz.prog 25,k≤reachBytes:=fun k hk=>by
  have:=List.all_eq_true.1 hsz k (DataW.weights_mem_each (j:=2) (t:=25) (d:=d2) (by rw[hps];rfl) rfl k hk)
  simpa using this
 obtain⟨s2,hs2,hsm2⟩:=open_specA (hval 2 25 v2 rfl rfl) h2 hz2
 refine(divu.DivideAdjoins_ok s0 hsm0 s1 hsm1 s2 hsm2 W (allF W) [v0,v1,v2] ⟨⟨hs0,tab_of_laid hL _⟩,hs1,hs2,tV⟩ (fun b hb=>hb) (hpOk_nil _ _)).mono fun e W' hq=> ?_
 obtain⟨_,v,F',he,hl⟩:=hq
 have hv:v= .bool true:=hl.res
 subst hv
 exact⟨_,he,law_post laidOut (by rw[hps]) (show Tryz.f9.resultTypes= #[4] by kernel_rfl) Tryz.underlying4 kR rfl rfl hW' (left_below hl)⟩
theorem divideAdjoins_holds:Rows.DivideAdjoinsSaid:=
 OpenClaim.holds_of_wide 9 Tryz.f9 rfl rfl rfl rfl rfl rfl rfl ⟨rfl,rfl,rfl,rfl,rfl⟩ rfl rfl rfl rfl rfl kR Tryz.func9 kR
  (of_decide_eq_true kR) (by unfold Func.isWrapper;first|(rw[if_pos (by decide+kernel)];kernel_rfl)|(rw[if_neg (by decide+kernel)];exact⟨rfl,rfl⟩))
  (fun os started H enc _=>divideAdjoins_lifted os started H enc)
theorem divideAdjoins_card:Rows.DivideAdjoinsCardSaid:=
 Claim7.holds_tied_plain_at .later [] [.data,.data,.data] true (true,"84534473cdde0873518c4e87d44c0a9d7510ec21752ac60d82c7b750f414ae91") false
  divideAdjoins_holds (fun _ h=>by cases h) kR (fun _ h=>by cases h) divideAdjoins_row_tie rfl ⟨rfl,rfl⟩ kR rfl
  (fun f fn hf hfn=>by
    obtain rfl:f=9:=Option.some.inj ((show Tryz.prog.funcNamed "makeweight/makeweightlaw09.DivideAdjoins" =some 9 by kernel_rfl).symm.trans hf)|>.symm
    obtain rfl:fn=Tryz.f9:=(Option.some.inj (Tryz.func9.symm.trans hfn)).symm
    exact⟨by kernel_rfl,fun j t ht=>by
     rw[Tryz.params9] at ht
     have hm:t∈[25,25,25]:=by simpa using Array.mem_of_getElem? ht
     have hall:([25,25,25].all fun u=> !Tryz.prog.wantsStandIn u)=true:=by kernel_rfl
     exact(show Tryz.prog.wantsStandIn t=false by simpa using List.all_eq_true.1 hall t hm)⟩)
  kR
#print axioms divideAdjoins_card
end
end Go.Proofs.YtcjemmihcplgdaaGreatDoor
