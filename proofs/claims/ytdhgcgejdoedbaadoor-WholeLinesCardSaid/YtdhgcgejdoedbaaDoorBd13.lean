/-
  varint: contracts.
-/
import Derived.Test.YtdhgcgejdoedbaaDoorRows
import Derived.WalkSpells
import Derived.WalkLawsBesides
import Derived.Lib.Hide
import Derived.Shelf.RegionOpen
import Derived.Deep.DeepMust
import Derived.Deep.QuietTactic
import Derived.BigQuiet
import Derived.Test.YtdhgcgejdoedbaaDoorBd1
import Derived.Test.YtdhgcgejdoedbaaDoorBd4
import Derived.Test.YtdhgcgejdoedbaaDoorBd6
namespace Go.Proofs.YtdhgcgejdoedbaaDoor
open Go.RowKit
attribute [local go_sem] Oper.semAt_some wide_fn wide_depth wide_fn' wide_depth'

def encBB (x : Int × Bool) : Array Value := #[.int .u8 x.1, .bool x.2]

def boxNat (B : Nat) (w : World) : Nat := match w.cell? ⟨B, 0, none⟩ with | some (.int _ n) => n.toNat | _ => 0
theorem boxNat_eq {B : Nat} {w : World} {t : TypeId} {m : Nat} {k : IntKind} (h : Boxed w B t (.int k m)) : boxNat B w = m := by
  simp [boxNat, h.cell]

end Go.Proofs.YtdhgcgejdoedbaaDoor

/-
  varint: Put.
-/
namespace Go.Proofs.YtdhgcgejdoedbaaDoor
open Go.RowKit
attribute [local go_sem] Oper.semAt_some wide_fn wide_depth wide_fn' wide_depth'

theorem Tryd.info5 : (Tryd.prog.info? 5).map (fun i => (i.zero, i.size, i.bytes)) = some (some (.int .u8 0), 1, 1) := by kernel_rfl

end Go.Proofs.YtdhgcgejdoedbaaDoor

/-
  varint: Get and its like.
-/
namespace Go.Proofs.YtdhgcgejdoedbaaDoor
open Go.RowKit

def tup3 (x : Nat × Nat × Nat) : Value := .tuple #[.int .u64 x.1, .int .i64 x.2.1, .int .i64 x.2.2]

end Go.Proofs.YtdhgcgejdoedbaaDoor

/-
  varint: Size, and the reference.
-/
namespace Go.Proofs.YtdhgcgejdoedbaaDoor
open Go.RowKit
attribute [local go_sem] Oper.semAt_some wide_fn wide_depth wide_fn' wide_depth'

end Go.Proofs.YtdhgcgejdoedbaaDoor

/-
  varint: the reference's Get; numbers with a sign; Short.
-/
namespace Go.Proofs.YtdhgcgejdoedbaaDoor
open Go.RowKit
attribute [local go_sem] Oper.semAt_some wide_fn wide_depth wide_fn' wide_depth'

/-- varint.Short. -/
def shortB (bs : List Nat) : Bool := decide ((getL bs).2.2 = 0 ∧ (getL bs).2.1 = (putL 9 (getL bs).1).length)

end Go.Proofs.YtdhgcgejdoedbaaDoor

/-
  varint: All.
-/
namespace Go.Proofs.YtdhgcgejdoedbaaDoor
open Go.RowKit
theorem Tryd.info40 : (Tryd.prog.info? 95).map (fun i => (i.zero, i.size, i.bytes)) = some (some (.int .u64 0), 1, 8) := by kernel_rfl

end Go.Proofs.YtdhgcgejdoedbaaDoor
