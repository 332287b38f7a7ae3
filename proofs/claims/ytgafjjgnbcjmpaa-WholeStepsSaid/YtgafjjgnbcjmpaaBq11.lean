/-
  varint: contracts.
-/
import Derived.Test.YtgafjjgnbcjmpaaRows
import Derived.WalkSpells
import Derived.WalkLawsBesides
import Derived.Lib.Hide
import Derived.Shelf.RegionOpen
import Derived.Deep.DeepMust
import Derived.Deep.QuietTactic
import Derived.BigQuiet
import Derived.Test.YtgafjjgnbcjmpaaBq1
import Derived.Test.YtgafjjgnbcjmpaaBq4
import Derived.Test.YtgafjjgnbcjmpaaBq5
namespace Go.Proofs.Ytgafjjgnbcjmpaa
open Go.RowKit
attribute [local go_sem] Oper.semAt_some wide_fn wide_depth wide_fn' wide_depth'

def encBB (x : Int × Bool) : Array Value := #[.int .u8 x.1, .bool x.2]

def boxNat (B : Nat) (w : World) : Nat := match w.cell? ⟨B, 0, none⟩ with | some (.int _ n) => n.toNat | _ => 0
theorem boxNat_eq {B : Nat} {w : World} {t : TypeId} {m : Nat} {k : IntKind} (h : Boxed w B t (.int k m)) : boxNat B w = m := by
  simp [boxNat, h.cell]

end Go.Proofs.Ytgafjjgnbcjmpaa

/-
  varint: Put.
-/
namespace Go.Proofs.Ytgafjjgnbcjmpaa
open Go.RowKit
attribute [local go_sem] Oper.semAt_some wide_fn wide_depth wide_fn' wide_depth'

theorem Try.info5 : (Try.prog.info? 5).map (fun i => (i.zero, i.size, i.bytes)) = some (some (.int .u8 0), 1, 1) := by kernel_rfl

end Go.Proofs.Ytgafjjgnbcjmpaa

/-
  varint: Get and its like.
-/
namespace Go.Proofs.Ytgafjjgnbcjmpaa
open Go.RowKit

def tup3 (x : Nat × Nat × Nat) : Value := .tuple #[.int .u64 x.1, .int .i64 x.2.1, .int .i64 x.2.2]

end Go.Proofs.Ytgafjjgnbcjmpaa

/-
  varint: Size, and the reference.
-/
namespace Go.Proofs.Ytgafjjgnbcjmpaa
open Go.RowKit
attribute [local go_sem] Oper.semAt_some wide_fn wide_depth wide_fn' wide_depth'

end Go.Proofs.Ytgafjjgnbcjmpaa

/-
  varint: the reference's Get; numbers with a sign; Short.
-/
namespace Go.Proofs.Ytgafjjgnbcjmpaa
open Go.RowKit
attribute [local go_sem] Oper.semAt_some wide_fn wide_depth wide_fn' wide_depth'

/-- varint.Short. -/
def shortB (bs : List Nat) : Bool := decide ((getL bs).2.2 = 0 ∧ (getL bs).2.1 = (putL 9 (getL bs).1).length)

end Go.Proofs.Ytgafjjgnbcjmpaa

/-
  varint: All.
-/
namespace Go.Proofs.Ytgafjjgnbcjmpaa
open Go.RowKit
end Go.Proofs.Ytgafjjgnbcjmpaa
