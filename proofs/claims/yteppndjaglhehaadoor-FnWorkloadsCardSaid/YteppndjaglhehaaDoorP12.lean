import Derived.Shelf.Strings.Cut
import Derived.Test.YteppndjaglhehaaDoorProg
import Derived.KernelRfl
namespace Go.Proofs.YteppndjaglhehaaDoor
open Go Go.Shelf Go.Proofs
set_option maxRecDepth 100000
def lays145_ren:Go.Shelf.Ren:=⟨fun|145=>78|220=>95|219=>111|217=>121|225=>122|224=>123|267=>124|266=>135|314=>136|n=>n,fun|9=>9|4=>4|59=>105|3=>3|5=>5|46=>119|146=>167|51=>160|n=>n,fun|1=>0|n=>n⟩
theorem lays145:Go.Proofs.Lays.n145 Tryd.prog lays145_ren:={
 mixed:=by kernel_rfl
 f145:=Tryd.func78.trans (congrArg some (by kernel_rfl))
 f217:=Tryd.func121.trans (congrArg some (by kernel_rfl))
 f219:=Tryd.func111.trans (congrArg some (by kernel_rfl))
 f220:=Tryd.func95.trans (congrArg some (by kernel_rfl))
 f224:=Tryd.func123.trans (congrArg some (by kernel_rfl))
 f225:=Tryd.func122.trans (congrArg some (by kernel_rfl))
 f266:=Tryd.func135.trans (congrArg some (by kernel_rfl))
 f267:=Tryd.func124.trans (congrArg some (by kernel_rfl))
 f314:=Tryd.func136.trans (congrArg some (by kernel_rfl))
 t3:=Tryd.underlying3
 a3:=Tryd.isAgg3
 z3:=Tryd.sizeOf3
 v3:=Tryd.zeroValue3
 t4:=Tryd.underlying4
 a4:=Tryd.isAgg4
 z4:=Tryd.sizeOf4
 v4:=Tryd.zeroValue4
 t5:=Tryd.underlying5
 a5:=Tryd.isAgg5
 z5:=Tryd.sizeOf5
 v5:=Tryd.zeroValue5
 t9:=Tryd.underlying9
 a9:=Tryd.isAgg9
 z9:=Tryd.sizeOf9
 v9:=Tryd.zeroValue9
 t46:=Tryd.underlying119
 a46:=Tryd.isAgg119
 z46:=Tryd.sizeOf119
 v46:=Tryd.zeroValue119
 t51:=Tryd.underlying160
 a51:=Tryd.isAgg160
 z51:=Tryd.sizeOf160
 v51:=Tryd.zeroValue160
 t59:=Tryd.underlying105
 a59:=Tryd.isAgg105
 z59:=Tryd.sizeOf105
 v59:=Tryd.zeroValue105
 t146:=Tryd.underlying167
 a146:=Tryd.isAgg167
 z146:=Tryd.sizeOf167
 v146:=Tryd.zeroValue167
 g1:=by kernel_rfl }
end Go.Proofs.YteppndjaglhehaaDoor
