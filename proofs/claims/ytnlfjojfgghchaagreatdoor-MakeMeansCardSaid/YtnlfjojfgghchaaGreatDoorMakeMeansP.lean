/- What the law MakeMeans states: true at every input, and its arguments read afterwards as before. Conditions: the three listed tables of the library lie as the program's text lays them (the card ties this). -/
import Derived.Test.YtnlfjojfgghchaaGreatDoorX14
import Derived.Test.YtnlfjojfgghchaaGreatDoorX31
import Derived.Test.YtnlfjojfgghchaaGreatDoorTie
import Derived.Test.YtnlfjojfgghchaaGreatDoorCards
set_option linter.all false
namespace Go.Proofs.YtnlfjojfgghchaaGreatDoor
open AL Go
set_option maxRecDepth 100000
section
open ref01 ref03 ref04 ref06 prog prog2 Itoa LawOpen LawOpen2
open Go.ChangeShapes Go.WideShapes Go.ChangeAt Go.WideElems Go.RowKit
theorem Ia {H:Type} {enc:TypeId × Value→H} {P:Program} {w:World} {base:Nat} {spare:Nat→Bool} {held:Bool} {t0 t1 t2 t3 t4:TypeId} {args:Array Value} {ds:List (DataW H)} {ps:List MemPlace} (h:DataW.TrodAll enc P w base spare held [t0,t1,t2,t3,t4] args.toList ds ps):
 ∃v0 v1 v2 v3 v4 d0 d1 d2 d3 d4 p0 p1 p2 p3 p4,args= #[v0,v1,v2,v3,v4]∧ds= [d0,d1,d2,d3,d4]∧ps=p0++p1++p2++p3++p4∧DataW.Trod enc P w base spare held t0 v0 d0 p0∧DataW.Trod enc P w base spare held t1 v1 d1 p1∧DataW.Trod enc P w base spare held t2 v2 d2 p2∧DataW.Trod enc P w base spare held t3 v3 d3 p3∧DataW.Trod enc P w base spare held t4 v4 d4 p4:=by
 obtain⟨v0,vs0,d0,ds0,p0,q0,hargs,rfl,rfl,h0,r0⟩:=trodAll_cons h
 obtain⟨v1,vs1,d1,ds1,p1,q1,rfl,rfl,rfl,h1,r1⟩:=trodAll_cons r0
 obtain⟨v2,vs2,d2,ds2,p2,q2,rfl,rfl,rfl,h2,r2⟩:=trodAll_cons r1
 obtain⟨v3,vs3,d3,ds3,p3,q3,rfl,rfl,rfl,h3,r3⟩:=trodAll_cons r2
 obtain⟨v4,vs4,d4,ds4,p4,q4,rfl,rfl,rfl,h4,r4⟩:=trodAll_cons r3
 obtain⟨rfl,rfl,rfl⟩:=trodAll_nil r4
 exact⟨v0,v1,v2,v3,v4,d0,d1,d2,d3,d4,p0,p1,p2,p3,p4,by cases args;simp_all,rfl,by simp,h0,h1,h2,h3,h4⟩
attribute [local semireducible] eqv agg in
theorem Bn (os:Os) (started:os.Started) (H:Type) (enc:TypeId × Value→H):
 ReturnsInHanded {} Tryz.checked os 10 .any (fun w args=>(Rows.makeMeansSpec.pre enc Tryz.prog Tryz.f10 [] false w args∧laidMetH Tryz.prog Cu w)∧sizedMet enc Tryz.prog Tryz.f10 (OpenSpec.ofChange Rows.makeMeansSpec) false w args)
  (Rows.makeMeansSpec.post enc Tryz.prog Tryz.f10 false true false false):=by
 refine returnsInHanded_of_change_and (C:=Tryz.checked) (X:=fun w _=>laidMetH Tryz.prog Cu w) (fun _ _ _ hh h=>h.of_heap hh) own started kR Tryz.func10
  (ChangeSpec.witness_shaped (enc:=enc) (C:=Tryz.checked) (os:=os) (X:=fun w _=>laidMetH Tryz.prog Cu w) false (World.doorLaid Tryz.prog 400 os) #[.agg #[.slice none 0 0,.slice none 0 0],.agg #[.slice none 0 0,.slice none 0 0],.agg #[.slice none 0 0,.slice none 0 0],.agg #[.slice none 0 0,.slice none 0 0],.int .i64 0] 8 rfl (World.shaped_of_RefB kR kR) kR kR kR (PF os _)) ?_
 intro W base args ds gs before hval0 hW _ hsz hL _
 have hval:∀(j:Nat) t v,Tryz.f10.params[j]?=some t→args[j]?=some v→Value.okWide Tryz.prog W .any base t v:=hval0
 have hW':=hW
 obtain⟨pp,qq,hA0,hV,rfl,hfz,hnd⟩:=hW
 have hA:DataW.TrodAll enc Tryz.prog W 0 (fun _=>true) true Tryz.f10.params.toList args.toList ds pp:=hA0
 have hps:Tryz.f10.params= #[25,25,28,28,3]:=Tryz.params10
 rw[hps] at hA hval
 obtain⟨v0,v1,v2,v3,v4,d0,d1,d2,d3,d4,p0,p1,p2,p3,p4,rfl,rfl,rfl,h0,h1,h2,h3,h4⟩:=Ia hA
 obtain⟨rfl,rfl⟩:=trodVars_none hV
 have hz0:∀k∈d0.weights Tryz.prog 25,k≤reachBytes:=fun k hk=>by
  have:=List.all_eq_true.1 hsz k (DataW.weights_mem_each (j:=0) (t:=25) (d:=d0) (by rw[hps];rfl) rfl k hk)
  simpa using this
 obtain⟨s0,hs0⟩:=LawOpen3.Ev (hval 0 25 v0 rfl rfl) h0 hz0
 have hz1:∀k∈d1.weights Tryz.prog 25,k≤reachBytes:=fun k hk=>by
  have:=List.all_eq_true.1 hsz k (DataW.weights_mem_each (j:=1) (t:=25) (d:=d1) (by rw[hps];rfl) rfl k hk)
  simpa using this
 obtain⟨s1,hs1⟩:=LawOpen3.Ev (hval 1 25 v1 rfl rfl) h1 hz1
 have hz2:∀k∈d2.weights Tryz.prog 28,k≤reachBytes:=fun k hk=>by
  have:=List.all_eq_true.1 hsz k (DataW.weights_mem_each (j:=2) (t:=28) (d:=d2) (by rw[hps];rfl) rfl k hk)
  simpa using this
 obtain⟨s2,hs2,hsm2⟩:=Cs (hval 2 28 v2 rfl rfl) h2 hz2
 have hz3:∀k∈d3.weights Tryz.prog 28,k≤reachBytes:=fun k hk=>by
  have:=List.all_eq_true.1 hsz k (DataW.weights_mem_each (j:=3) (t:=28) (d:=d3) (by rw[hps];rfl) rfl k hk)
  simpa using this
 obtain⟨s3,hs3,hsm3⟩:=Cs (hval 3 28 v3 rfl rfl) h3 hz3
 obtain⟨x4,rfl,rfl,rfl,_⟩:=open_int Tryz.underlying3 (hval 4 3 v4 rfl rfl) h4
 refine(mkx.HZ s0 s1 s2 hsm2 s3 hsm3 x4 W (kX W) [v0,v1,v2,v3,.int .i64 x4] ⟨⟨hs0,Iu hL _⟩,hs1,hs2,hs3,(show(int x4).p W (kX W) (.int .i64 x4) from rfl),tV⟩ (fun b hb=>hb) (vU _ _)).mono fun e W' hq=> ?_
 obtain⟨_,v,F',he,hl⟩:=hq
 have hv:v= .bool true:=hl.res
 subst hv
 exact⟨_,he,PD laidOut (by rw[hps]) (show Tryz.f10.resultTypes= #[4] by kernel_rfl) Tryz.underlying4 kR rfl rfl hW' (KF hl)⟩
theorem CX:Rows.MakeMeansSaid:=
 OpenClaim.holds_of_wide 10 Tryz.f10 rfl rfl rfl rfl rfl rfl rfl ⟨rfl,rfl,rfl,rfl,rfl⟩ rfl rfl rfl rfl rfl kR Tryz.func10 kR
  (of_decide_eq_true kR) (by unfold Func.isWrapper;first|(rw[if_pos (by decide+kernel)];kernel_rfl)|(rw[if_neg (by decide+kernel)];exact⟨rfl,rfl⟩))
  (fun os started H enc _=>Bn os started H enc)
theorem makeMeans_card:Rows.MakeMeansCardSaid:=
 Claim7.holds_tied_plain_at .later [] [.data,.data,.data] true (true,"03266252fa2c15fbe9c1cbe4f7add887d2e0cbdfc2343e4f22eebb66909e24ae") false
  CX (fun _ h=>by cases h) kR (fun _ h=>by cases h) makeMeans_row_tie rfl ⟨rfl,rfl⟩ kR rfl
  (fun f fn hf hfn=>by
    obtain rfl:f=10:=Option.some.inj ((show Tryz.prog.funcNamed "makeweight/makeweightlaw18.MakeMeans" =some 10 by kernel_rfl).symm.trans hf)|>.symm
    obtain rfl:fn=Tryz.f10:=(Option.some.inj (Tryz.func10.symm.trans hfn)).symm
    exact⟨by kernel_rfl,fun j t ht=>by
     rw[Tryz.params10] at ht
     have hm:t∈[25,25,28,28,3]:=by simpa using Array.mem_of_getElem? ht
     have hall:([25,25,28,28,3].all fun u=> !Tryz.prog.wantsStandIn u)=true:=by kernel_rfl
     exact(show Tryz.prog.wantsStandIn t=false by simpa using List.all_eq_true.1 hall t hm)⟩)
  kR
#print axioms makeMeans_card
end
end Go.Proofs.YtnlfjojfgghchaaGreatDoor
