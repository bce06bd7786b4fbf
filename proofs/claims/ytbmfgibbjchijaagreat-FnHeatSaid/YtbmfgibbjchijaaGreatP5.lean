import Derived.Test.YtbmfgibbjchijaaGreatP3
namespace Go.Proofs.YtbmfgibbjchijaaGreat
open Go Go.Proofs.VE
instance glob0:Glob:=⟨fun _=>True,0,fun _ _ _ _=>trivial⟩
theorem glob_ok (w:World):Glob.ok w∧Glob.n≤w.heap.size:=⟨trivial,Nat.zero_le _⟩
end Go.Proofs.YtbmfgibbjchijaaGreat
