/- The walks of the functions and the plain laws. Own texts of this claim, packed: ZdProductOrdersL. -/
import Derived.Test.YtcjemmihcplgdaaGreatDoorX24
import Derived.Test.YtcjemmihcplgdaaGreatDoorX27
import Derived.Test.YtcjemmihcplgdaaGreatDoorTie
import Derived.Test.YtcjemmihcplgdaaGreatDoorCards
set_option linter.all false
namespace Go.Proofs.YtcjemmihcplgdaaGreatDoor
open AL Go
set_option maxRecDepth 100000
section
open ref01 ref03 ref04 ref06 prog prog2 Itoa LawOpen LawOpen2
open Go.ChangeShapes Go.WideShapes Go.ChangeAt Go.WideElems Go.RowKit
attribute [local semireducible] eqv agg in
theorem wQ (os:Os) (started:os.Started) (H:Type) (enc:TypeId × Value→H):
 ReturnsInHanded {} Tryz.checked os 10 .any (fun w args=>(Rows.productOrdersSpec.pre enc Tryz.prog Tryz.f10 [] false w args∧laidMetH Tryz.prog CP w)∧sizedMet enc Tryz.prog Tryz.f10 (OpenSpec.ofChange Rows.productOrdersSpec) false w args)
  (Rows.productOrdersSpec.post enc Tryz.prog Tryz.f10 false true false false):=by
 refine returnsInHanded_of_change_and (C:=Tryz.checked) (X:=fun w _=>laidMetH Tryz.prog CP w) (fun _ _ _ hh h=>h.of_heap hh) own started kR Tryz.func10
  (ChangeSpec.witness_shaped (enc:=enc) (C:=Tryz.checked) (os:=os) (X:=fun w _=>laidMetH Tryz.prog CP w) false (World.doorLaid Tryz.prog 400 os) #[.agg #[.slice none 0 0,.slice none 0 0,.slice none 0 0,.slice none 0 0,.slice none 0 0,.slice none 0 0],.agg #[.slice none 0 0,.slice none 0 0]] 8 rfl (World.shaped_of_RefB kR kR) kR kR kR (door_met os _)) ?_
 intro W base args ds gs before hval0 hW _ hsz hL _
 have hval:∀(j:Nat) t v,Tryz.f10.params[j]?=some t→args[j]?=some v→Value.okWide Tryz.prog W .any base t v:=hval0
 have hW':=hW
 obtain⟨pp,qq,hA0,hV,rfl,hfz,hnd⟩:=hW
 have hA:DataW.TrodAll enc Tryz.prog W 0 (fun _=>true) true Tryz.f10.params.toList args.toList ds pp:=hA0
 have hps:Tryz.f10.params= #[61,43]:=Tryz.params10
 rw[hps] at hA hval
 obtain⟨v0,v1,d0,d1,p0,p1,rfl,rfl,rfl,h0,h1⟩:=trodAll_two hA
 obtain⟨rfl,rfl⟩:=trodVars_none hV
 have hz0:∀k∈d0.weights Tryz.prog 61,k≤reachBytes:=fun k hk=>by
  have:=List.all_eq_true.1 hsz k (DataW.weights_mem_each (j:=0) (t:=61) (d:=d0) (by rw[hps];rfl) rfl k hk)
  simpa using this
 obtain⟨s0,r0,q0,hs0,hsm0,hrm0,hqm0⟩:=LawT.IP (hval 0 61 v0 rfl rfl) h0 hz0
 have hz1:∀k∈d1.weights Tryz.prog 43,k≤reachBytes:=fun k hk=>by
  have:=List.all_eq_true.1 hsz k (DataW.weights_mem_each (j:=1) (t:=43) (d:=d1) (by rw[hps];rfl) rfl k hk)
  simpa using this
 obtain⟨s1,hs1⟩:=LawOpen3.MU (hval 1 43 v1 rfl rfl) h1 hz1
 refine(prodq.BH s0 hsm0 r0 hrm0 q0 hqm0 s1 W (mH W) [v0,v1] ⟨⟨hs0,IG hL _⟩,hs1,tV⟩ (fun b hb=>hb) (Ay _ _)).mono fun e W' hq=> ?_
 obtain⟨_,v,F',he,hl⟩:=hq
 have hv:v= .bool true:=hl.res
 subst hv
 exact⟨_,he,PA laidOut (by rw[hps]) (show Tryz.f10.resultTypes= #[4] by kernel_rfl) Tryz.underlying4 kR rfl rfl hW' (KH hl)⟩
end
end Go.Proofs.YtcjemmihcplgdaaGreatDoor
