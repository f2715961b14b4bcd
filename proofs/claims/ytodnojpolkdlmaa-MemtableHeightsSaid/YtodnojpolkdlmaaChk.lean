/-
  The walks of Check, the program's and the document's.
-/
import Derived.Test.YtodnojpolkdlmaaCodB
import Derived.Test.YtodnojpolkdlmaaMem
namespace Go.Proofs.Ytodnojpolkdlmaa
open Go.RowKit

end Go.Proofs.Ytodnojpolkdlmaa
