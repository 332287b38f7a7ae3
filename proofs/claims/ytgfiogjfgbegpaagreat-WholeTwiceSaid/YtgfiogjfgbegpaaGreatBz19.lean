/-
  varint: contracts.
-/
import Derived.Test.YtgfiogjfgbegpaaGreatRows
import Derived.WalkSpells
import Derived.WalkLawsBesides
import Derived.Lib.Hide
import Derived.Shelf.RegionOpen
import Derived.Deep.DeepMust
import Derived.Deep.QuietTactic
import Derived.BigQuiet
import Derived.Test.YtgfiogjfgbegpaaGreatBz1
import Derived.Test.YtgfiogjfgbegpaaGreatBz4
import Derived.Test.YtgfiogjfgbegpaaGreatBz6
namespace Go.Proofs.YtgfiogjfgbegpaaGreat
open Go.RowKit
attribute [local go_sem] Oper.semAt_some wide_fn wide_depth wide_fn' wide_depth'

def encBB (x : Int × Bool) : Array Value := #[.int .u8 x.1, .bool x.2]

def boxNat (B : Nat) (w : World) : Nat := match w.cell? ⟨B, 0, none⟩ with | some (.int _ n) => n.toNat | _ => 0
end Go.Proofs.YtgfiogjfgbegpaaGreat

/-
  varint: Put.
-/
namespace Go.Proofs.YtgfiogjfgbegpaaGreat
open Go.RowKit
attribute [local go_sem] Oper.semAt_some wide_fn wide_depth wide_fn' wide_depth'

end Go.Proofs.YtgfiogjfgbegpaaGreat

/-
  varint: Get and its like.
-/
namespace Go.Proofs.YtgfiogjfgbegpaaGreat
open Go.RowKit

def tup3 (x : Nat × Nat × Nat) : Value := .tuple #[.int .u64 x.1, .int .i64 x.2.1, .int .i64 x.2.2]

end Go.Proofs.YtgfiogjfgbegpaaGreat

/-
  varint: Size, and the reference.
-/
namespace Go.Proofs.YtgfiogjfgbegpaaGreat
open Go.RowKit
attribute [local go_sem] Oper.semAt_some wide_fn wide_depth wide_fn' wide_depth'

end Go.Proofs.YtgfiogjfgbegpaaGreat

/-
  varint: the reference's Get; numbers with a sign; Short.
-/
namespace Go.Proofs.YtgfiogjfgbegpaaGreat
open Go.RowKit
attribute [local go_sem] Oper.semAt_some wide_fn wide_depth wide_fn' wide_depth'

/-- varint.Short. -/
def shortB (bs : List Nat) : Bool := decide ((getL bs).2.2 = 0 ∧ (getL bs).2.1 = (putL 9 (getL bs).1).length)

end Go.Proofs.YtgfiogjfgbegpaaGreat

/-
  varint: All.
-/
namespace Go.Proofs.YtgfiogjfgbegpaaGreat
open Go.RowKit
end Go.Proofs.YtgfiogjfgbegpaaGreat
