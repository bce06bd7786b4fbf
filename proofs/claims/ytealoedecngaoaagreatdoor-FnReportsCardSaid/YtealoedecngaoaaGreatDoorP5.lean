import Derived.Test.YtealoedecngaoaaGreatDoorP4
import Derived.Lib.RowBridge
import Derived.Shelf.Sort.Plain
import Derived.Shelf.Slices.In.SortNone
namespace Go.Proofs.VE
open Go Go.Sort
end Go.Proofs.VE
