/-
  varint: the plain functions and laws. Nothing of the program.
-/
import Derived.Laws.BitsAllLaws
import Derived.Laws.Bits64
namespace Go.Proofs.YtgfiogjfgbegpaaGreat
open Go

def u8s (l : List Nat) : List Value := l.map fun b : Nat => .int .u8 (b : Int)
def ints (k : IntKind) (l : List Int) : List Value := l.map fun b => .int k b
def u64s (l : List Nat) : List Value := l.map fun b : Nat => .int .u64 (b : Int)
@[simp] theorem u64s_length (l : List Nat) : (u64s l).length = l.length := by simp [u64s]
@[simp] theorem u8s_length (l : List Nat) : (u8s l).length = l.length := by simp [u8s]
@[simp] theorem ints_length (k : IntKind) (l : List Int) : (ints k l).length = l.length := by simp [ints]

def AllLt (m : Nat) (l : List Nat) : Prop := ∀ b ∈ l, b < m
theorem AllLt.get {m : Nat} {l : List Nat} (h : AllLt m l) (i : Nat) (hm : 0 < m) : l[i]?.getD 0 < m := by
  cases hi : l[i]? with
  | none => simpa using hm
  | some b => simpa using h b (List.mem_of_getElem? hi)

end Go.Proofs.YtgfiogjfgbegpaaGreat

/-
  backoff: the plain functions and laws. Nothing of the program.
-/
namespace Go.Proofs.YtgfiogjfgbegpaaGreat
open Go

def or0 (x d : Int) : Int := if x = 0 then d else x
end Go.Proofs.YtgfiogjfgbegpaaGreat

/-
  backoff: sums, and the reference's step. Nothing of the program.
-/
namespace Go.Proofs.YtgfiogjfgbegpaaGreat
open Go

end Go.Proofs.YtgfiogjfgbegpaaGreat

/-
  backoff: the rows of a plan. Nothing of the program.
-/
namespace Go.Proofs.YtgfiogjfgbegpaaGreat
open Go

end Go.Proofs.YtgfiogjfgbegpaaGreat
