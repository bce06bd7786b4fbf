import Derived.Test.YtbmfgibbjchijaaGreatP8
import Derived.Shelf.Strconv.Itoa3
import Derived.Shelf.Strings.OnBuilder
namespace Go.Proofs.VE
open Go
def joinB (xs:List AV) (sep:ByteArray):ByteArray:=⟨(Lib.join ((xs.map fun x=>fS x 0).map (·.data.toList)) sep.data.toList).toArray⟩
end Go.Proofs.VE
