import Derived.Shelf.Strings.Cut
import Derived.Test.YtcondihilccdpaaDoorProg
import Derived.KernelRfl
namespace Go.Proofs.YtcondihilccdpaaDoor
open Go Go.Shelf Go.Proofs
set_option maxRecDepth 100000
def lays145_ren:Go.Shelf.Ren:=⟨fun|145=>32|220=>41|219=>46|217=>54|225=>55|224=>56|267=>57|266=>62|314=>63|n=>n,fun|9=>9|4=>4|59=>57|3=>3|5=>5|46=>74|146=>88|51=>87|n=>n,fun|1=>0|n=>n⟩
theorem lays145:Go.Proofs.Lays.n145 Tryd.prog lays145_ren:={
 mixed:=by kernel_rfl
 f145:=Tryd.func32.trans (congrArg some (by kernel_rfl))
 f217:=Tryd.func54.trans (congrArg some (by kernel_rfl))
 f219:=Tryd.func46.trans (congrArg some (by kernel_rfl))
 f220:=Tryd.func41.trans (congrArg some (by kernel_rfl))
 f224:=Tryd.func56.trans (congrArg some (by kernel_rfl))
 f225:=Tryd.func55.trans (congrArg some (by kernel_rfl))
 f266:=Tryd.func62.trans (congrArg some (by kernel_rfl))
 f267:=Tryd.func57.trans (congrArg some (by kernel_rfl))
 f314:=Tryd.func63.trans (congrArg some (by kernel_rfl))
 t3:=Tryd.underlying3
 a3:=Tryd.isAgg3
 z3:=Tryd.sizeOf3
 v3:=Tryd.zeroValue3
 t4:=Tryd.underlying4
 a4:=Tryd.isAgg4
 z4:=Tryd.sizeOf4
 v4:=Tryd.zeroValue4
 t5:=Tryd.underlying5
 a5:=Tryd.isAgg5
 z5:=Tryd.sizeOf5
 v5:=Tryd.zeroValue5
 t9:=Tryd.underlying9
 a9:=Tryd.isAgg9
 z9:=Tryd.sizeOf9
 v9:=Tryd.zeroValue9
 t46:=Tryd.underlying74
 a46:=Tryd.isAgg74
 z46:=Tryd.sizeOf74
 v46:=Tryd.zeroValue74
 t51:=Tryd.underlying87
 a51:=Tryd.isAgg87
 z51:=Tryd.sizeOf87
 v51:=Tryd.zeroValue87
 t59:=Tryd.underlying57
 a59:=Tryd.isAgg57
 z59:=Tryd.sizeOf57
 v59:=Tryd.zeroValue57
 t146:=Tryd.underlying88
 a146:=Tryd.isAgg88
 z146:=Tryd.sizeOf88
 v146:=Tryd.zeroValue88
 g1:=by kernel_rfl }
end Go.Proofs.YtcondihilccdpaaDoor
