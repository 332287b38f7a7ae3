/-
  graph: the reference's Order: contract.
-/
import Derived.Test.YtlpcagkknfajeaaGf
namespace Go.Proofs.Ytlpcagkknfajeaa
open Go.RowKit

end Go.Proofs.Ytlpcagkknfajeaa
