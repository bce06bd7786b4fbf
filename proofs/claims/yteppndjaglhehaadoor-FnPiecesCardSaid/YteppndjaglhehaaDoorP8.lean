import Derived.Shelf.Strings.OnBuilder
import Derived.Test.YteppndjaglhehaaDoorProg
import Derived.KernelRfl
namespace Go.Proofs.YteppndjaglhehaaDoor
open Go Go.Shelf Go.Proofs
set_option maxRecDepth 100000
def lays156_ren:Go.Shelf.Ren:=⟨fun|156=>42|165=>68|166=>69|169=>70|240=>87|241=>88|276=>105|277=>106|n=>n,fun|31=>38|9=>9|3=>3|4=>4|0=>0|20=>20|72=>89|76=>93|70=>87|37=>22|75=>92|127=>116|164=>134|5=>5|80=>95|n=>n,fun|n=>n⟩
theorem lays156:Go.Proofs.Lays.n156 Tryd.prog lays156_ren:={
 mixed:=by kernel_rfl
 f156:=Tryd.func42.trans (congrArg some (by kernel_rfl))
 f165:=Tryd.func68.trans (congrArg some (by kernel_rfl))
 f166:=Tryd.func69.trans (congrArg some (by kernel_rfl))
 f169:=Tryd.func70.trans (congrArg some (by kernel_rfl))
 f240:=Tryd.func87.trans (congrArg some (by kernel_rfl))
 f241:=Tryd.func88.trans (congrArg some (by kernel_rfl))
 f276:=Tryd.func105.trans (congrArg some (by kernel_rfl))
 f277:=Tryd.func106.trans (congrArg some (by kernel_rfl))
 t0:=Tryd.underlying0
 a0:=Tryd.isAgg0
 z0:=Tryd.sizeOf0
 v0:=Tryd.zeroValue0
 t3:=Tryd.underlying3
 a3:=Tryd.isAgg3
 z3:=Tryd.sizeOf3
 v3:=Tryd.zeroValue3
 t4:=Tryd.underlying4
 a4:=Tryd.isAgg4
 z4:=Tryd.sizeOf4
 v4:=Tryd.zeroValue4
 t9:=Tryd.underlying9
 a9:=Tryd.isAgg9
 z9:=Tryd.sizeOf9
 v9:=Tryd.zeroValue9
 t20:=Tryd.underlying20
 a20:=Tryd.isAgg20
 z20:=Tryd.sizeOf20
 v20:=Tryd.zeroValue20
 t31:=Tryd.underlying38
 a31:=Tryd.isAgg38
 z31:=Tryd.sizeOf38
 v31:=Tryd.zeroValue38
 t37:=Tryd.underlying22
 a37:=Tryd.isAgg22
 z37:=Tryd.sizeOf22
 v37:=Tryd.zeroValue22
 t70:=Tryd.underlying87
 a70:=Tryd.isAgg87
 z70:=Tryd.sizeOf87
 v70:=Tryd.zeroValue87
 t72:=Tryd.underlying89
 a72:=Tryd.isAgg89
 z72:=Tryd.sizeOf89
 v72:=Tryd.zeroValue89
 t75:=Tryd.underlying92
 a75:=Tryd.isAgg92
 z75:=Tryd.sizeOf92
 v75:=Tryd.zeroValue92
 t76:=Tryd.underlying93
 a76:=Tryd.isAgg93
 z76:=Tryd.sizeOf93
 v76:=Tryd.zeroValue93
 t127:=Tryd.underlying116
 a127:=Tryd.isAgg116
 z127:=Tryd.sizeOf116
 v127:=Tryd.zeroValue116
 t164:=Tryd.underlying134
 a164:=Tryd.isAgg134
 z164:=Tryd.sizeOf134
 v164:=Tryd.zeroValue134 }
theorem extra156:Builder.Extra Tryd.prog lays156_ren where
 sizeBuilder:=by kernel_rfl
 liesBuilder:=by kernel_rfl
 t5:=Tryd.underlying5
 a5:=Tryd.isAgg5
 z5:=Tryd.sizeOf5
 v5:=Tryd.zeroValue5
 infoByte:=by kernel_rfl
 cellsByte:=by kernel_rfl
 sizeByte:=by kernel_rfl
 neB5:=by decide
end Go.Proofs.YteppndjaglhehaaDoor
