/-
  varint: the laws' walks.
-/
import Derived.Test.YtigeedaihbpjiaaVg
import Derived.Test.YtigeedaihbpjiaaPw
namespace Go.Proofs.Ytigeedaihbpjiaa
open Go.RowKit

end Go.Proofs.Ytigeedaihbpjiaa
