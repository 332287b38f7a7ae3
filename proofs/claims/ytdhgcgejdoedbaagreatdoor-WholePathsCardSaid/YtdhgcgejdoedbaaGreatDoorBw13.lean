/-
  varint: contracts.
-/
import Derived.Test.YtdhgcgejdoedbaaGreatDoorRows
import Derived.WalkSpells
import Derived.WalkLawsBesides
import Derived.Lib.Hide
import Derived.Shelf.RegionOpen
import Derived.Deep.DeepMust
import Derived.Deep.QuietTactic
import Derived.BigQuiet
import Derived.Test.YtdhgcgejdoedbaaGreatDoorBw1
import Derived.Test.YtdhgcgejdoedbaaGreatDoorBw4
import Derived.Test.YtdhgcgejdoedbaaGreatDoorBw6
namespace Go.Proofs.YtdhgcgejdoedbaaGreatDoor
open Go.RowKit
attribute [local go_sem] Oper.semAt_some wide_fn wide_depth wide_fn' wide_depth'

end Go.Proofs.YtdhgcgejdoedbaaGreatDoor

/-
  varint: Put.
-/
namespace Go.Proofs.YtdhgcgejdoedbaaGreatDoor
open Go.RowKit
attribute [local go_sem] Oper.semAt_some wide_fn wide_depth wide_fn' wide_depth'

theorem Tryz.info5 : (Tryz.prog.info? 5).map (fun i => (i.zero, i.size, i.bytes)) = some (some (.int .u8 0), 1, 1) := by kernel_rfl

end Go.Proofs.YtdhgcgejdoedbaaGreatDoor

/-
  varint: Get and its like.
-/
namespace Go.Proofs.YtdhgcgejdoedbaaGreatDoor
open Go.RowKit

end Go.Proofs.YtdhgcgejdoedbaaGreatDoor

/-
  varint: Size, and the reference.
-/
namespace Go.Proofs.YtdhgcgejdoedbaaGreatDoor
open Go.RowKit
attribute [local go_sem] Oper.semAt_some wide_fn wide_depth wide_fn' wide_depth'

end Go.Proofs.YtdhgcgejdoedbaaGreatDoor

/-
  varint: the reference's Get; numbers with a sign; Short.
-/
namespace Go.Proofs.YtdhgcgejdoedbaaGreatDoor
open Go.RowKit
attribute [local go_sem] Oper.semAt_some wide_fn wide_depth wide_fn' wide_depth'

end Go.Proofs.YtdhgcgejdoedbaaGreatDoor

/-
  varint: All.
-/
namespace Go.Proofs.YtdhgcgejdoedbaaGreatDoor
open Go.RowKit
end Go.Proofs.YtdhgcgejdoedbaaGreatDoor
