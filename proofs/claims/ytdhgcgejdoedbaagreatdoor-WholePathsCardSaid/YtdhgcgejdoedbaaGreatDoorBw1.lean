/-
  varint: the plain functions and laws. Nothing of the program.
-/
import Derived.Laws.BitsAllLaws
import Derived.Laws.Bits64
namespace Go.Proofs.YtdhgcgejdoedbaaGreatDoor
open Go

def u8s (l : List Nat) : List Value := l.map fun b : Nat => .int .u8 (b : Int)
def ints (k : IntKind) (l : List Int) : List Value := l.map fun b => .int k b
def u64s (l : List Nat) : List Value := l.map fun b : Nat => .int .u64 (b : Int)
@[simp] theorem u64s_length (l : List Nat) : (u64s l).length = l.length := by simp [u64s]
theorem u8s_get (l : List Nat) (i : Nat) (h : i < l.length) : (u8s l)[i]? = some (.int .u8 ((l[i]?.getD 0 : Nat) : Int)) := by simp [u8s, h]
@[simp] theorem u8s_length (l : List Nat) : (u8s l).length = l.length := by simp [u8s]
@[simp] theorem ints_length (k : IntKind) (l : List Int) : (ints k l).length = l.length := by simp [ints]

def AllLt (m : Nat) (l : List Nat) : Prop := ∀ b ∈ l, b < m
theorem AllLt.get {m : Nat} {l : List Nat} (h : AllLt m l) (i : Nat) (hm : 0 < m) : l[i]?.getD 0 < m := by
  cases hi : l[i]? with
  | none => simpa using hm
  | some b => simpa using h b (List.mem_of_getElem? hi)

end Go.Proofs.YtdhgcgejdoedbaaGreatDoor
