/-
  The reference's Plan: contract.
-/
import Derived.Test.YtlpcagkknfajeaaBi
namespace Go.Proofs.Ytlpcagkknfajeaa
open Go.RowKit

end Go.Proofs.Ytlpcagkknfajeaa
