/-
  The reference's Plan: contract.
-/
import Derived.Test.YtigeedaihbpjiaaBi
namespace Go.Proofs.Ytigeedaihbpjiaa
open Go.RowKit

end Go.Proofs.Ytigeedaihbpjiaa
