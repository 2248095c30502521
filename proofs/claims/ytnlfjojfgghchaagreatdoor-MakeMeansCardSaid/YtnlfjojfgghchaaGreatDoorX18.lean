/- The walks of the functions and the plain laws. Own texts of this claim, packed: MkshelfI. -/
import Derived.Test.YtnlfjojfgghchaaGreatDoorX16
import Derived.Test.YtnlfjojfgghchaaGreatDoorX17
set_option linter.all false
namespace Go.Proofs.YtnlfjojfgghchaaGreatDoor
open AL Go
set_option maxRecDepth 100000
section
open Go.Sort CrossM
namespace shelfI
def Iy:Go.Shelf.Ren:=⟨fun|189=>188|125=>139|257=>203|128=>173|129=>174|294=>211|295=>212|296=>213|297=>214|298=>215|299=>216|216=>163|300=>217|301=>218|328=>224|329=>196|330=>197|331=>225|332=>226|215=>175|343=>229|n=>n,fun|28=>66|3=>3|46=>183|0=>0|51=>216|53=>219|4=>4|183=>224|182=>223|131=>138|5=>5|9=>9|218=>242|222=>246|228=>255|229=>256|n=>n,fun n=>n⟩
theorem Tx:Lays.n189 Tryz.prog Iy where
 mixed:=by kernel_rfl
 f125:=Tryz.func139.trans (congrArg some kR)
 f128:=Tryz.func173.trans (congrArg some kR)
 f129:=Tryz.func174.trans (congrArg some kR)
 f189:=Tryz.func188.trans (congrArg some kR)
 f215:=Tryz.func175.trans (congrArg some kR)
 f216:=Tryz.func163.trans (congrArg some kR)
 f257:=Tryz.func203.trans (congrArg some kR)
 f294:=Tryz.func211.trans (congrArg some kR)
 f295:=Tryz.func212.trans (congrArg some kR)
 f296:=Tryz.func213.trans (congrArg some kR)
 f297:=Tryz.func214.trans (congrArg some kR)
 f298:=Tryz.func215.trans (congrArg some kR)
 f299:=Tryz.func216.trans (congrArg some kR)
 f300:=Tryz.func217.trans (congrArg some kR)
 f301:=Tryz.func218.trans (congrArg some kR)
 f328:=Tryz.func224.trans (congrArg some kR)
 f329:=Tryz.func196.trans (congrArg some kR)
 f330:=Tryz.func197.trans (congrArg some kR)
 f331:=Tryz.func225.trans (congrArg some kR)
 f332:=Tryz.func226.trans (congrArg some kR)
 f343:=Tryz.func229.trans (congrArg some kR)
 t0:=Tryz.underlying0
 a0:=Tryz.isAgg0
 z0:=Tryz.sizeOf0
 v0:=Tryz.zeroValue0
 t3:=Tryz.underlying3
 a3:=Tryz.isAgg3
 z3:=Tryz.sizeOf3
 v3:=Tryz.zeroValue3
 t4:=Tryz.underlying4
 a4:=Tryz.isAgg4
 z4:=Tryz.sizeOf4
 v4:=Tryz.zeroValue4
 t5:=Tryz.underlying5
 a5:=Tryz.isAgg5
 z5:=Tryz.sizeOf5
 v5:=Tryz.zeroValue5
 t9:=Tryz.underlying9
 a9:=Tryz.isAgg9
 z9:=Tryz.sizeOf9
 v9:=Tryz.zeroValue9
 t28:=Tryz.underlying66
 a28:=Tryz.isAgg66
 z28:=Tryz.sizeOf66
 v28:=Tryz.zeroValue66
 t46:=Tryz.underlying183
 a46:=Tryz.isAgg183
 z46:=Tryz.sizeOf183
 v46:=Tryz.zeroValue183
 t51:=Tryz.underlying216
 a51:=Tryz.isAgg216
 z51:=Tryz.sizeOf216
 v51:=Tryz.zeroValue216
 t53:=Tryz.underlying219
 a53:=Tryz.isAgg219
 z53:=Tryz.sizeOf219
 v53:=Tryz.zeroValue219
 t131:=Tryz.underlying138
 a131:=Tryz.isAgg138
 z131:=Tryz.sizeOf138
 v131:=Tryz.zeroValue138
 t182:=Tryz.underlying223
 a182:=Tryz.isAgg223
 z182:=Tryz.sizeOf223
 v182:=Tryz.zeroValue223
 t183:=Tryz.underlying224
 a183:=Tryz.isAgg224
 z183:=Tryz.sizeOf224
 v183:=Tryz.zeroValue224
 t218:=Tryz.underlying242
 a218:=Tryz.isAgg242
 z218:=Tryz.sizeOf242
 v218:=Tryz.zeroValue242
 t222:=Tryz.underlying246
 a222:=Tryz.isAgg246
 z222:=Tryz.sizeOf246
 v222:=Tryz.zeroValue246
 t228:=Tryz.underlying255
 a228:=Tryz.isAgg255
 z228:=Tryz.sizeOf255
 v228:=Tryz.zeroValue255
 t229:=Tryz.underlying256
 a229:=Tryz.isAgg256
 z229:=Tryz.sizeOf256
 v229:=Tryz.zeroValue256
def Iz:Go.Shelf.Ren:=⟨fun|20=>190|n=>n,fun|22=>66|3=>3|4=>4|0=>0|n=>n,fun n=>n⟩
theorem Ty:Lays2.n20 Tryz.prog Iz where
 mixed:=by kernel_rfl
 f20:=Tryz.func190.trans (congrArg some kR)
 t0:=Tryz.underlying0
 a0:=Tryz.isAgg0
 z0:=Tryz.sizeOf0
 v0:=Tryz.zeroValue0
 t3:=Tryz.underlying3
 a3:=Tryz.isAgg3
 z3:=Tryz.sizeOf3
 v3:=Tryz.zeroValue3
 t4:=Tryz.underlying4
 a4:=Tryz.isAgg4
 z4:=Tryz.sizeOf4
 v4:=Tryz.zeroValue4
 t22:=Tryz.underlying66
 a22:=Tryz.isAgg66
 z22:=Tryz.sizeOf66
 v22:=Tryz.zeroValue66
 i3:=by kernel_rfl
theorem Qa (kk:Nat) (v:Value) (xs:List Int):AL.Fn Tryz.prog 188 [osl kk v] [(5,own v 3 1 nE xs)] (ι:=Unit) (fun _ _=>tup []) (fun _=> [(5,own v 3 1 nE (fC xs))]):=PY Tx kk 3 v xs
theorem Qb (kk:Nat) (v:Value) (xs:List Int):AL.Fn Tryz.prog 190 [osl kk v] [(5,own v 3 1 nE xs)] (ι:=Value) (fun _ v2=>osl kk v2) (fun v2=> [(5,own v2 3 1 nE (Lib.compact xs))]):=PZ Ty kk 3 v xs
end shelfI
end
end Go.Proofs.YtnlfjojfgghchaaGreatDoor
