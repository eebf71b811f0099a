/-
  wire.PutText, cartularyref.Text, cartularylaw.puts by their contracts.
-/
import Derived.Test.YtmgpllakpgjicaaDoorNumber
import Derived.Test.YtmgpllakpgjicaaDoorWireN
namespace Go.Proofs.YtmgpllakpgjicaaDoor
open Go.RowKit
end Go.Proofs.YtmgpllakpgjicaaDoor
