/-
  varint: the reference's Get; numbers with a sign; Short.
-/
import Derived.Test.YtigeedaihbpjiaaVd
namespace Go.Proofs.Ytigeedaihbpjiaa
open Go.RowKit
attribute [local go_sem] Oper.semAt_some wide_fn wide_depth wide_fn' wide_depth'

/-- varint.Short. -/
def shortB (bs : List Nat) : Bool := decide ((getL bs).2.2 = 0 ∧ (getL bs).2.1 = (putL 9 (getL bs).1).length)

end Go.Proofs.Ytigeedaihbpjiaa
