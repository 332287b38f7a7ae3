/-
  varint: contracts.
-/
import Derived.Test.YtgafjjgnbcjmpaaGreatRows
import Derived.WalkSpells
import Derived.WalkLawsBesides
import Derived.Lib.Hide
import Derived.Shelf.RegionOpen
import Derived.Deep.DeepMust
import Derived.Deep.QuietTactic
import Derived.BigQuiet
import Derived.Test.YtgafjjgnbcjmpaaGreatBz1
import Derived.Test.YtgafjjgnbcjmpaaGreatBz4
import Derived.Test.YtgafjjgnbcjmpaaGreatBz6
namespace Go.Proofs.YtgafjjgnbcjmpaaGreat
open Go.RowKit
attribute [local go_sem] Oper.semAt_some wide_fn wide_depth wide_fn' wide_depth'

def encBB (x : Int × Bool) : Array Value := #[.int .u8 x.1, .bool x.2]

def boxNat (B : Nat) (w : World) : Nat := match w.cell? ⟨B, 0, none⟩ with | some (.int _ n) => n.toNat | _ => 0
end Go.Proofs.YtgafjjgnbcjmpaaGreat

/-
  varint: Put.
-/
namespace Go.Proofs.YtgafjjgnbcjmpaaGreat
open Go.RowKit
attribute [local go_sem] Oper.semAt_some wide_fn wide_depth wide_fn' wide_depth'

end Go.Proofs.YtgafjjgnbcjmpaaGreat

/-
  varint: Get and its like.
-/
namespace Go.Proofs.YtgafjjgnbcjmpaaGreat
open Go.RowKit

def tup3 (x : Nat × Nat × Nat) : Value := .tuple #[.int .u64 x.1, .int .i64 x.2.1, .int .i64 x.2.2]

end Go.Proofs.YtgafjjgnbcjmpaaGreat

/-
  varint: Size, and the reference.
-/
namespace Go.Proofs.YtgafjjgnbcjmpaaGreat
open Go.RowKit
attribute [local go_sem] Oper.semAt_some wide_fn wide_depth wide_fn' wide_depth'

end Go.Proofs.YtgafjjgnbcjmpaaGreat

/-
  varint: the reference's Get; numbers with a sign; Short.
-/
namespace Go.Proofs.YtgafjjgnbcjmpaaGreat
open Go.RowKit
attribute [local go_sem] Oper.semAt_some wide_fn wide_depth wide_fn' wide_depth'

/-- varint.Short. -/
def shortB (bs : List Nat) : Bool := decide ((getL bs).2.2 = 0 ∧ (getL bs).2.1 = (putL 9 (getL bs).1).length)

end Go.Proofs.YtgafjjgnbcjmpaaGreat

/-
  varint: All.
-/
namespace Go.Proofs.YtgafjjgnbcjmpaaGreat
open Go.RowKit
end Go.Proofs.YtgafjjgnbcjmpaaGreat
