/- 'the value reads as these bytes', as a thing that is said of an operation's value. -/
import Derived.Test.YtmcjefdnkcpghaaGrow
import Derived.Test.YtmcjefdnkcpghaaMem
namespace Go.Proofs.Ytmcjefdnkcpghaa
open Go.RowKit
def bytS (l : List UInt8) : Sp := ⟨fun v w => Byt w w.heap.size v l, fun _ _ _ h hb => (h.below hb).heap⟩
end Go.Proofs.Ytmcjefdnkcpghaa
