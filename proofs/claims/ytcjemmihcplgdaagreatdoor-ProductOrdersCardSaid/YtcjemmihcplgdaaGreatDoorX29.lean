/- The walks of the functions and the plain laws. Own texts of this claim, packed: ZdProductOrdersJ. -/
import Derived.Test.YtcjemmihcplgdaaGreatDoorX15
import Derived.Test.YtcjemmihcplgdaaGreatDoorTie
import Derived.Test.YtcjemmihcplgdaaGreatDoorCards
import Derived.Test.YtcjemmihcplgdaaGreatDoorX28
set_option linter.all false
namespace Go.Proofs.YtcjemmihcplgdaaGreatDoor
open AL Go
set_option maxRecDepth 100000
section
open ref01 ref03 ref04 ref06 prog prog2 Itoa LawOpen LawOpen2
open Go.ChangeShapes Go.WideShapes Go.ChangeAt Go.WideElems Go.RowKit
theorem fV {a b:Bool} (h:a=true) (g:b=true):(a&&b)=true:=by rw[h,g];rfl
theorem BI:Rows.productOrdersRow.wf (OpenSpec.ofChange Rows.productOrdersSpec)=true:=by kernel_rfl
theorem BJ:laidOutB Tryz.checked.prog=true:=by kernel_rfl
theorem BK:mapsRowed Tryz.checked.prog=true:=by kernel_rfl
theorem BL:Tryz.f10.params.all (Tryz.checked.prog.readableRec ·)=true:=by kernel_rfl
theorem BM:namedTie Tryz.checked.prog Rows.productOrdersRow.named Rows.productOrdersSpec.vars=true:=by kernel_rfl
theorem BO:(Rows.productOrdersRow.stops== [])=true:=by kernel_rfl
theorem BQ:(Tryz.checked.prog.stops== [])=true:=by kernel_rfl
theorem BR:(Rows.productOrdersRow.knobs== [])=true:=by kernel_rfl
theorem BS:(Tryz.checked.prog.stopKnobs== [])=true:=by kernel_rfl
theorem BT:(Rows.productOrdersRow.inPlace==Tryz.checked.prog.inPlace 10)=true:=by kernel_rfl
theorem zO:(Rows.productOrdersRow.unfollowed==Tryz.checked.prog.unfollowed 10)=true:=by kernel_rfl
theorem zP:(Rows.productOrdersRow.recurses==Tryz.checked.prog.recurses 10)=true:=by kernel_rfl
theorem zQ:(Rows.productOrdersRow.named==Tryz.checked.prog.varsNamed 10)=true:=by kernel_rfl
theorem zR:(Rows.productOrdersRow.maps==(Tryz.f10.params.toList++Rows.productOrdersSpec.plain.varTypes Tryz.checked.prog).any (Tryz.checked.prog.mapsRec ·))=true:=by kernel_rfl
theorem zS:(Rows.productOrdersRow.ifaces==(Tryz.f10.params.toList++Rows.productOrdersSpec.plain.varTypes Tryz.checked.prog).any (Tryz.checked.prog.ifacesRec ·))=true:=by kernel_rfl
theorem zT:(Rows.productOrdersRow.mapsOut==Tryz.checked.prog.mapsAmong Tryz.f10.resultTypes.toList)=true:=by kernel_rfl
theorem zU:(Rows.productOrdersRow.loops==(Tryz.f10.params.toList++Rows.productOrdersSpec.plain.varTypes Tryz.checked.prog).any (Tryz.checked.prog.loopsFrom ·))=true:=by kernel_rfl
theorem zV:(Rows.productOrdersRow.wideKeys==(Tryz.f10.params.toList++Rows.productOrdersSpec.plain.varTypes Tryz.checked.prog++Tryz.f10.resultTypes.toList).any (Tryz.checked.prog.wideKeysFrom ·))=true:=by kernel_rfl
theorem zW:Rows.productOrdersSpec.vars.all (Tryz.checked.prog.varReadable ·)=true:=by kernel_rfl
theorem zX:Tryz.f10.resultTypes.all (fun t=>Tryz.checked.prog.readableRec t&&decide (t<Tryz.checked.prog.types.size))=true:=by kernel_rfl
theorem zY:(Rows.productOrdersRow.ifacesOut==Tryz.f10.resultTypes.toList.any (Tryz.checked.prog.ifacesRec ·))=true:=by kernel_rfl
theorem zZ:(Rows.productOrdersRow.loopsOut==Tryz.f10.resultTypes.toList.any (Tryz.checked.prog.loopsFrom ·))=true:=by kernel_rfl
theorem Aa:(Rows.productOrdersRow.plainKeys==Tryz.checked.prog.plainKeys)=true:=by kernel_rfl
theorem Ab:Rows.productOrdersRow.shortTexts.isNone=true:=by kernel_rfl
theorem Ac:Tryz.checked.prog.stopsHeard=true:=by kernel_rfl
theorem Ad:Tryz.checked.prog.mayEnter=true:=by kernel_rfl
theorem Ae:(Rows.productOrdersRow.lifted==Tryz.checked.prog.liftsFinal)=true:=by kernel_rfl
theorem Af:(Tryz.checked.prog.make==some Rows.productOrdersRow.make)=true:=by kernel_rfl
theorem Ag:(Rows.productOrdersRow.kinds==(if Rows.productOrdersRow.domain.isEmpty then [] else Tryz.f10.params.toList.map fun t=>match(Tryz.checked.prog).underlying t with|some (.int k)=>some k|_=>none))=true:=by kernel_rfl
theorem Ah:(Rows.productOrdersRow.pinned==Rows.productOrdersRow.pinnedBy)=true:=by kernel_rfl
theorem Ai:(Rows.productOrdersRow.veiled==(Tryz.f10.params.toList++Rows.productOrdersSpec.plain.varTypes Tryz.checked.prog++Tryz.f10.resultTypes.toList).any (Tryz.checked.prog.veiledRec ·))=true:=by kernel_rfl
theorem Aj:Rows.productOrdersRow.veiledFits Tryz.checked.prog Tryz.f10.params.toList (Tryz.f10.params.toList++Rows.productOrdersSpec.plain.varTypes Tryz.checked.prog++Tryz.f10.resultTypes.toList)=true:=by kernel_rfl
theorem wR:joinedFacts Tryz.checked.prog 10 Tryz.f10 Rows.productOrdersSpec Rows.productOrdersRow=true:=fV (fV (fV (fV (fV (fV (fV (fV (fV (fV (fV (fV (fV (fV (fV (fV (fV (fV (fV (fV (fV (fV (fV (fV (fV (fV (fV (fV (fV (fV (fV BI BJ) BK) BL) BM) BO) BQ) BR) BS) BT) zO) zP) zQ) zR) zS) zT) zU) zV) zW) zX) zY) zZ) Aa) Ab) Ac) Ad) Ae) Af) Ag) Ah) Ai) Aj
end
end Go.Proofs.YtcjemmihcplgdaaGreatDoor
