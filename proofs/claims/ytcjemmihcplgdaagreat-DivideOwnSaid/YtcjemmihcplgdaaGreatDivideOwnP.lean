/- What the law DivideOwn states: true at every input, and its arguments read afterwards as before. Conditions: none. -/
import Derived.Test.YtcjemmihcplgdaaGreatX15
import Derived.Test.YtcjemmihcplgdaaGreatX30
set_option linter.all false
namespace Go.Proofs.YtcjemmihcplgdaaGreat
open AL Go
set_option maxRecDepth 100000
section
open ref01 ref03 ref04 ref06 prog prog2 prog6 WitM wit LawZ
open Go.ChangeShapes Go.WideShapes Go.ChangeAt Go.WideElems Go.RowKit
attribute [local semireducible] eqv agg in
theorem divideOwn_lifted (os:Os) (started:os.Started) (H:Type) (enc:TypeId × Value→H):
 ReturnsInHanded {} Tryz.checked os 7 .any (Rows.divideOwnSpec.pre6 enc Tryz.prog Tryz.f7 [] false) (Rows.divideOwnSpec.post enc Tryz.prog Tryz.f7 false true false false):=by
 refine returnsInHanded_of_change_sized (C:=Tryz.checked) own started kR Tryz.func7
  (ChangeSpec.witness6 (enc:=enc) (C:=Tryz.checked) false ⟨#[],#[.agg #[.slice none 0 0,.slice none 0 0],.agg #[.slice none 0 0,.slice none 0 0],.agg #[.slice none 0 0,.slice none 0 0]],[]⟩ 8 kR kR kR kR) ?_
 intro W base args ds gs before hval0 hW _ hsz _
 have hval:∀(j:Nat) t v,Tryz.f7.params[j]?=some t→args[j]?=some v→Value.okWide Tryz.prog W .any base t v:=hval0
 have hW':=hW
 obtain⟨pp,qq,hA0,hV,rfl,hfz,hnd⟩:=hW
 have hA:DataW.TrodAll enc Tryz.prog W 0 (fun _=>true) true Tryz.f7.params.toList args.toList ds pp:=hA0
 have hps:Tryz.f7.params= #[38,25,25]:=Tryz.params7
 rw[hps] at hA hval
 obtain⟨v0,v1,v2,d0,d1,d2,p0,p1,p2,rfl,rfl,rfl,h0,h1,h2⟩:=trodAll_three hA
 obtain⟨rfl,rfl⟩:=trodVars_none hV
 have hz0:∀k∈d0.weights Tryz.prog 38,k≤reachBytes:=fun k hk=>by
  have:=List.all_eq_true.1 hsz k (DataW.weights_mem_each (j:=0) (t:=38) (d:=d0) (by rw[hps];rfl) rfl k hk)
  simpa using this
 obtain⟨s0,hs0⟩:=open_sysA (hval 0 38 v0 rfl rfl) h0 hz0
 have hz1:∀k∈d1.weights Tryz.prog 25,k≤reachBytes:=fun k hk=>by
  have:=List.all_eq_true.1 hsz k (DataW.weights_mem_each (j:=1) (t:=25) (d:=d1) (by rw[hps];rfl) rfl k hk)
  simpa using this
 obtain⟨s1,hs1,hsm1⟩:=open_specA (hval 1 25 v1 rfl rfl) h1 hz1
 have hz2:∀k∈d2.weights Tryz.prog 25,k≤reachBytes:=fun k hk=>by
  have:=List.all_eq_true.1 hsz k (DataW.weights_mem_each (j:=2) (t:=25) (d:=d2) (by rw[hps];rfl) rfl k hk)
  simpa using this
 obtain⟨s2,hs2,hsm2⟩:=open_specA (hval 2 25 v2 rfl rfl) h2 hz2
 refine(divz.DivideOwn_ok s0 s1 hsm1 s2 hsm2 W (allF W) [v0,v1,v2] ⟨hs0,hs1,hs2,tV⟩ (fun b hb=>hb) (hpOk_nil _ _)).mono fun e W' hq=> ?_
 obtain⟨_,v,F',he,hl⟩:=hq
 have hv:v= .bool true:=hl.res
 subst hv
 exact⟨_,he,law_post laidOut (by rw[hps]) (show Tryz.f7.resultTypes= #[4] by kernel_rfl) Tryz.underlying4 kR rfl rfl hW' (left_below hl)⟩
theorem divideOwn_holds:Rows.DivideOwnSaid:=
 OpenClaim.holds_of_wide 7 Tryz.f7 rfl rfl rfl rfl rfl rfl rfl ⟨rfl,rfl,rfl,rfl,rfl⟩ rfl rfl rfl rfl rfl kR Tryz.func7 kR
  (of_decide_eq_true kR) (by unfold Func.isWrapper;first|(rw[if_pos (by decide+kernel)];kernel_rfl)|(rw[if_neg (by decide+kernel)];exact⟨rfl,rfl⟩))
  (fun os started H enc _=>divideOwn_lifted os started H enc)
#print axioms divideOwn_holds
end
end Go.Proofs.YtcjemmihcplgdaaGreat
