/-
  varint: the law VarintAll's walk.
-/
import Derived.Test.YtigeedaihbpjiaaVi
namespace Go.Proofs.Ytigeedaihbpjiaa
open Go.RowKit

end Go.Proofs.Ytigeedaihbpjiaa
