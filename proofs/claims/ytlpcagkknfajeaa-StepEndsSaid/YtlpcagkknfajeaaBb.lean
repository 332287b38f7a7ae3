/-
  The reference's Real: contract.
-/
import Derived.Test.YtlpcagkknfajeaaBa
namespace Go.Proofs.Ytlpcagkknfajeaa
open Go.RowKit

end Go.Proofs.Ytlpcagkknfajeaa
