/- What the law DivideOther states: true at every input, and its arguments read afterwards as before. Conditions: none. -/
import Derived.Test.YtcjemmihcplgdaaGreatX15
import Derived.Test.YtcjemmihcplgdaaGreatX24
set_option linter.all false
namespace Go.Proofs.YtcjemmihcplgdaaGreat
open AL Go ref01 ref03 ref04 ref06 prog prog2 prog6 WitM wit LawZ
open Go.ChangeShapes Go.WideShapes Go.ChangeAt Go.WideElems Go.RowKit
set_option maxRecDepth 100000
set_option linter.all false
attribute [local semireducible] eqv agg in
theorem divideOther_lifted (os:Os) (started:os.Started) (H:Type) (enc:TypeId × Value→H):
 ReturnsInHanded {} Tryz.checked os 5 .any (Rows.divideOtherSpec.pre6 enc Tryz.prog Tryz.f5 [] false) (Rows.divideOtherSpec.post enc Tryz.prog Tryz.f5 false true false false):=by
 refine returnsInHanded_of_change_sized (C:=Tryz.checked) own started (by kernel_rfl) Tryz.func5
  (ChangeSpec.witness6 (enc:=enc) (C:=Tryz.checked) false ⟨#[],#[.agg #[.slice none 0 0,.slice none 0 0],.agg #[.slice none 0 0,.slice none 0 0]],[]⟩ 8 (by kernel_rfl) (by kernel_rfl) (by kernel_rfl) (by kernel_rfl)) ?_
 intro W base args ds gs before hval0 hW _ hsz _
 have hval:∀(j:Nat) t v,Tryz.f5.params[j]?=some t→args[j]?=some v→Value.okWide Tryz.prog W .any base t v:=hval0
 have hW':=hW
 obtain⟨pp,qq,hA0,hV,rfl,hfz,hnd⟩:=hW
 have hA:DataW.TrodAll enc Tryz.prog W 0 (fun _=>true) true Tryz.f5.params.toList args.toList ds pp:=hA0
 have hps:Tryz.f5.params= #[25,25]:=Tryz.params5
 rw[hps] at hA hval
 obtain⟨v0,v1,d0,d1,p0,p1,rfl,rfl,rfl,h0,h1⟩:=trodAll_two hA
 obtain⟨rfl,rfl⟩:=trodVars_none hV
 have hz0:∀k∈d0.weights Tryz.prog 25,k≤reachBytes:=fun k hk=>by
  have:=List.all_eq_true.1 hsz k (DataW.weights_mem_each (j:=0) (t:=25) (d:=d0) (by rw[hps];rfl) rfl k hk)
  simpa using this
 obtain⟨s0,hs0,hsm0⟩:=open_specA (hval 0 25 v0 rfl rfl) h0 hz0
 have hz1:∀k∈d1.weights Tryz.prog 25,k≤reachBytes:=fun k hk=>by
  have:=List.all_eq_true.1 hsz k (DataW.weights_mem_each (j:=1) (t:=25) (d:=d1) (by rw[hps];rfl) rfl k hk)
  simpa using this
 obtain⟨s1,hs1,hsm1⟩:=open_specA (hval 1 25 v1 rfl rfl) h1 hz1
 refine(divo.DivideOther_ok s0 hsm0 s1 hsm1 W (allF W) [v0,v1] ⟨hs0,hs1,trivial⟩ (fun b hb=>hb) (hpOk_nil _ _)).mono fun e W' hq=> ?_
 obtain⟨_,v,F',he,hl⟩:=hq
 have hv:v= .bool true:=hl.res
 subst hv
 exact⟨_,he,law_post laidOut (by rw[hps]) (show Tryz.f5.resultTypes= #[4] by kernel_rfl) Tryz.underlying4 (by kernel_rfl) rfl rfl hW' (left_below hl)⟩
theorem divideOther_holds:Rows.DivideOtherSaid:=
 OpenClaim.holds_of_wide 5 Tryz.f5 rfl rfl rfl rfl rfl rfl rfl ⟨rfl,rfl,rfl,rfl,rfl⟩ rfl rfl rfl rfl rfl (by kernel_rfl) Tryz.func5 (by kernel_rfl)
  (of_decide_eq_true (by kernel_rfl)) (by unfold Func.isWrapper;first|(rw[if_pos (by decide+kernel)];kernel_rfl)|(rw[if_neg (by decide+kernel)];exact⟨rfl,rfl⟩))
  (fun os started H enc _=>divideOther_lifted os started H enc)
#print axioms divideOther_holds
end Go.Proofs.YtcjemmihcplgdaaGreat
