/-
  scalar.Digits, rescriptref21.digits: contracts; a number's digits (plain).
-/
import Derived.Sort.WalkB12
import Derived.Lib.SlicesMore
import Derived.Deep.LoopGhost
import Derived.Deep.DrawnRows
import Derived.BigRegion
import Derived.Laws.OwnMore
import Derived.Deep.AppendLies
import Derived.Test.YtdhgcgejdoedbaaGreatDoorBt12
import Derived.Test.YtdhgcgejdoedbaaGreatDoorBt16
namespace Go.Proofs.YtdhgcgejdoedbaaGreatDoor
open Go Go.RowKit Go.WideShapes Go.Sort

theorem owns_built (w : World) (t : TypeId) (x : Value) : (w.alloc (.cells #[x] t)).ownsRow w.heap.size t 1 (.slice (some ⟨w.heap.size, 0, none⟩) 1 1) 1 [x] :=
  ⟨by simp, .inr ⟨w.heap.size, 1, #[x], rfl, Nat.le_refl _, World.alloc_heap_new w _, Nat.le_refl _, by decide, rfl, rfl⟩⟩
theorem Tryz.info_byte : (Tryz.prog.info? 5).map (fun i => (i.zero, i.size, i.bytes)) = some (some (.int .u8 0), 1, 1) := by kernel_rfl
theorem u8s_snocD (l : List Nat) (b : Nat) : u8s (l ++ [b]) = u8s l ++ [.int .u8 (b : Int)] := by simp [u8s]

theorem bsN_ext {a b : ByteArray} (h : bsN a = bsN b) : a = b := by
  refine bytes_inj ?_
  unfold bsN at h
  exact (List.map_inj_right (fun x y => UInt8.toNat_inj.1)).1 h
theorem mkS_size (l : List Nat) : (mkS l).size = l.length := by simp [mkS, ByteArray.size]
theorem mkS_append (a b : List Nat) : mkS a ++ mkS b = mkS (a ++ b) := by
  apply bytes_inj
  rw [ByteArray.data_append]
  simp [mkS]
end Go.Proofs.YtdhgcgejdoedbaaGreatDoor
