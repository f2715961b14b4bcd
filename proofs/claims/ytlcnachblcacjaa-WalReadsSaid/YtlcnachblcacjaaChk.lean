/-
  The walks of Check, the program's and the document's.
-/
import Derived.Test.YtlcnachblcacjaaCodB
import Derived.Test.YtlcnachblcacjaaMem
namespace Go.Proofs.Ytlcnachblcacjaa
open Go.RowKit

end Go.Proofs.Ytlcnachblcacjaa
