/- What the law ProductOrders states: true at every input, and its arguments read afterwards as before. Conditions: the three listed tables of the library lie as the program's text lays them (the card ties this). -/
import Derived.Test.YtcjemmihcplgdaaGreatDoorX28
import Derived.Test.YtcjemmihcplgdaaGreatDoorX29
import Derived.Test.YtcjemmihcplgdaaGreatDoorX15
import Derived.Test.YtcjemmihcplgdaaGreatDoorTie
import Derived.Test.YtcjemmihcplgdaaGreatDoorCards
set_option linter.all false
namespace Go.Proofs.YtcjemmihcplgdaaGreatDoor
open AL Go
set_option maxRecDepth 100000
section
open ref01 ref03 ref04 ref06 prog prog2 Itoa LawOpen LawOpen2
open Go.ChangeShapes Go.WideShapes Go.ChangeAt Go.WideElems Go.RowKit
theorem wU:Rows.ProductOrdersSaid:=
 OpenClaim.holds_of_wide 10 Tryz.f10 rfl rfl rfl rfl rfl rfl rfl ⟨rfl,rfl,rfl,rfl,rfl⟩ rfl rfl rfl rfl rfl kR Tryz.func10 wR
  (of_decide_eq_true kR) (by unfold Func.isWrapper;first|(rw[if_pos (by decide+kernel)];kernel_rfl)|(rw[if_neg (by decide+kernel)];exact⟨rfl,rfl⟩))
  (fun os started H enc _=>wQ os started H enc)
theorem productOrders_card:Rows.ProductOrdersCardSaid:=
 Claim7.holds_tied_plain_at .later [] [.data,.data,.data] true (true,"84534473cdde0873518c4e87d44c0a9d7510ec21752ac60d82c7b750f414ae91") false
  wU (fun _ h=>by cases h) kR (fun _ h=>by cases h) productOrders_row_tie rfl ⟨rfl,rfl⟩ kR rfl
  (fun f fn hf hfn=>by
    obtain rfl:f=10:=Option.some.inj ((show Tryz.prog.funcNamed "makeweight/makeweightlaw08.ProductOrders" =some 10 by kernel_rfl).symm.trans hf)|>.symm
    obtain rfl:fn=Tryz.f10:=(Option.some.inj (Tryz.func10.symm.trans hfn)).symm
    exact⟨by kernel_rfl,fun j t ht=>by
     rw[Tryz.params10] at ht
     have hm:t∈[61,43]:=by simpa using Array.mem_of_getElem? ht
     have hall:([61,43].all fun u=> !Tryz.prog.wantsStandIn u)=true:=by kernel_rfl
     exact(show Tryz.prog.wantsStandIn t=false by simpa using List.all_eq_true.1 hall t hm)⟩)
  kR
#print axioms productOrders_card
end
end Go.Proofs.YtcjemmihcplgdaaGreatDoor
