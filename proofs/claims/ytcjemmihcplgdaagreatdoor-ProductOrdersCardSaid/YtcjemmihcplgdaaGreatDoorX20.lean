/- The walks of the functions and the plain laws. Own texts of this claim, packed: ZdshelfI. -/
import Derived.Test.YtcjemmihcplgdaaGreatDoorX18
import Derived.Test.YtcjemmihcplgdaaGreatDoorX19
set_option linter.all false
namespace Go.Proofs.YtcjemmihcplgdaaGreatDoor
open AL Go
set_option maxRecDepth 100000
section
open Go.Sort CrossM
namespace shelfI
def IL:Go.Shelf.Ren:=⟨fun|189=>140|125=>147|257=>172|128=>184|129=>185|294=>204|295=>205|296=>206|297=>207|298=>208|299=>209|216=>196|300=>210|301=>211|328=>232|329=>222|330=>223|331=>233|332=>234|215=>220|343=>241|n=>n,fun|28=>36|3=>3|46=>188|0=>0|51=>222|53=>224|4=>4|183=>216|182=>215|131=>93|5=>5|9=>9|218=>258|222=>262|228=>281|229=>282|n=>n,fun n=>n⟩
theorem Tf:Lays.n189 Tryz.prog IL where
 mixed:=by kernel_rfl
 f125:=Tryz.func147.trans (congrArg some kR)
 f128:=Tryz.func184.trans (congrArg some kR)
 f129:=Tryz.func185.trans (congrArg some kR)
 f189:=Tryz.func140.trans (congrArg some kR)
 f215:=Tryz.func220.trans (congrArg some kR)
 f216:=Tryz.func196.trans (congrArg some kR)
 f257:=Tryz.func172.trans (congrArg some kR)
 f294:=Tryz.func204.trans (congrArg some kR)
 f295:=Tryz.func205.trans (congrArg some kR)
 f296:=Tryz.func206.trans (congrArg some kR)
 f297:=Tryz.func207.trans (congrArg some kR)
 f298:=Tryz.func208.trans (congrArg some kR)
 f299:=Tryz.func209.trans (congrArg some kR)
 f300:=Tryz.func210.trans (congrArg some kR)
 f301:=Tryz.func211.trans (congrArg some kR)
 f328:=Tryz.func232.trans (congrArg some kR)
 f329:=Tryz.func222.trans (congrArg some kR)
 f330:=Tryz.func223.trans (congrArg some kR)
 f331:=Tryz.func233.trans (congrArg some kR)
 f332:=Tryz.func234.trans (congrArg some kR)
 f343:=Tryz.func241.trans (congrArg some kR)
 t0:=Tryz.underlying0
 a0:=Tryz.isAgg0
 z0:=Tryz.sizeOf0
 v0:=Tryz.zeroValue0
 t3:=Tryz.underlying3
 a3:=Tryz.isAgg3
 z3:=Tryz.sizeOf3
 v3:=Tryz.zeroValue3
 t4:=Tryz.underlying4
 a4:=Tryz.isAgg4
 z4:=Tryz.sizeOf4
 v4:=Tryz.zeroValue4
 t5:=Tryz.underlying5
 a5:=Tryz.isAgg5
 z5:=Tryz.sizeOf5
 v5:=Tryz.zeroValue5
 t9:=Tryz.underlying9
 a9:=Tryz.isAgg9
 z9:=Tryz.sizeOf9
 v9:=Tryz.zeroValue9
 t28:=Tryz.underlying36
 a28:=Tryz.isAgg36
 z28:=Tryz.sizeOf36
 v28:=Tryz.zeroValue36
 t46:=Tryz.underlying188
 a46:=Tryz.isAgg188
 z46:=Tryz.sizeOf188
 v46:=Tryz.zeroValue188
 t51:=Tryz.underlying222
 a51:=Tryz.isAgg222
 z51:=Tryz.sizeOf222
 v51:=Tryz.zeroValue222
 t53:=Tryz.underlying224
 a53:=Tryz.isAgg224
 z53:=Tryz.sizeOf224
 v53:=Tryz.zeroValue224
 t131:=Tryz.underlying93
 a131:=Tryz.isAgg93
 z131:=Tryz.sizeOf93
 v131:=Tryz.zeroValue93
 t182:=Tryz.underlying215
 a182:=Tryz.isAgg215
 z182:=Tryz.sizeOf215
 v182:=Tryz.zeroValue215
 t183:=Tryz.underlying216
 a183:=Tryz.isAgg216
 z183:=Tryz.sizeOf216
 v183:=Tryz.zeroValue216
 t218:=Tryz.underlying258
 a218:=Tryz.isAgg258
 z218:=Tryz.sizeOf258
 v218:=Tryz.zeroValue258
 t222:=Tryz.underlying262
 a222:=Tryz.isAgg262
 z222:=Tryz.sizeOf262
 v222:=Tryz.zeroValue262
 t228:=Tryz.underlying281
 a228:=Tryz.isAgg281
 z228:=Tryz.sizeOf281
 v228:=Tryz.zeroValue281
 t229:=Tryz.underlying282
 a229:=Tryz.isAgg282
 z229:=Tryz.sizeOf282
 v229:=Tryz.zeroValue282
def IM:Go.Shelf.Ren:=⟨fun|20=>141|n=>n,fun|22=>36|3=>3|4=>4|0=>0|n=>n,fun n=>n⟩
theorem Tg:Lays2.n20 Tryz.prog IM where
 mixed:=by kernel_rfl
 f20:=Tryz.func141.trans (congrArg some kR)
 t0:=Tryz.underlying0
 a0:=Tryz.isAgg0
 z0:=Tryz.sizeOf0
 v0:=Tryz.zeroValue0
 t3:=Tryz.underlying3
 a3:=Tryz.isAgg3
 z3:=Tryz.sizeOf3
 v3:=Tryz.zeroValue3
 t4:=Tryz.underlying4
 a4:=Tryz.isAgg4
 z4:=Tryz.sizeOf4
 v4:=Tryz.zeroValue4
 t22:=Tryz.underlying36
 a22:=Tryz.isAgg36
 z22:=Tryz.sizeOf36
 v22:=Tryz.zeroValue36
 i3:=by kernel_rfl
theorem HB (kk:Nat) (v:Value) (xs:List Int):AL.Fn Tryz.prog 140 [osl kk v] [(5,own v 3 1 nE xs)] (ι:=Unit) (fun _ _=>tup []) (fun _=> [(5,own v 3 1 nE (pI xs))]):=Qa Tf kk 3 v xs
theorem HC (kk:Nat) (v:Value) (xs:List Int):AL.Fn Tryz.prog 141 [osl kk v] [(5,own v 3 1 nE xs)] (ι:=Value) (fun _ v2=>osl kk v2) (fun v2=> [(5,own v2 3 1 nE (Lib.compact xs))]):=Qb Tg kk 3 v xs
end shelfI
end
end Go.Proofs.YtcjemmihcplgdaaGreatDoor
