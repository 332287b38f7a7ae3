/-
  block.Copy, def.tree: contracts.
-/
import Derived.Test.YtdhgcgejdoedbaaGreatDoorBw18
import Derived.Test.YtdhgcgejdoedbaaGreatDoorBw20
namespace Go.Proofs.YtdhgcgejdoedbaaGreatDoor
open Go Go.RowKit Go.WideShapes

end Go.Proofs.YtdhgcgejdoedbaaGreatDoor

/-
  def.Tree: contract.
-/
namespace Go.Proofs.YtdhgcgejdoedbaaGreatDoor
open Go Go.RowKit Go.WideShapes

end Go.Proofs.YtdhgcgejdoedbaaGreatDoor

/-
  Plain: the tree of a definition that may be, is one that may be; like definitions have like trees (no program).
-/
namespace Go.Proofs.YtdhgcgejdoedbaaGreatDoor
open Go Go.RowKit

structure StepFine (s : StepD) : Prop where
  texts : ∀ x ∈ [s.name, s.action, s.undo], c64 x = 0
  after : ∀ x ∈ s.after, c64 x = 0
  fits : fitsB [s.most, s.first, s.factor, s.limit] = true
  note : noneT s.note = true ∨ (checkT s.note = 0 ∧ depthT 18 s.note ≤ 13)
structure DefFine (d : DefD) : Prop where
  name : c64 d.name = 0
  text : checkN (bsN d.text) 4096 = 0
  steps : ∀ s ∈ d.steps, StepFine s
end Go.Proofs.YtdhgcgejdoedbaaGreatDoor
