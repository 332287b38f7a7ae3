/-
  strings.Compare, slices.SortFunc on Diags: what the shelf gives.
-/
import Derived.Shelf.Small.Strs
import Derived.Shelf.Lay
import Derived.Ground.NamesProg
import Derived.Test.YtkgcpbhlbfjcoaaBq24
namespace Go.Proofs.Ytkgcpbhlbfjcoaa
open Go.Shelf Go.RowKit Go.Lib
def Try.strCmp_ren : Go.Shelf.Ren := ⟨fun | 106 => 133 | 213 => 159 | 265 => 170 | n => n, fun | 9 => 9 | 3 => 3 | n => n, fun | n => n⟩
theorem Try.strCmp : Go.Proofs.Lays.n106 Try.prog Try.strCmp_ren where
  mixed := by kernel_rfl
  f106 := Try.func133.trans (congrArg some (by kernel_rfl))
  f213 := Try.func159.trans (congrArg some (by kernel_rfl))
  f265 := Try.func170.trans (congrArg some (by kernel_rfl))
  t3 := Try.underlying3
  a3 := Try.isAgg3
  z3 := Try.sizeOf3
  v3 := Try.zeroValue3
  t9 := Try.underlying9
  a9 := Try.isAgg9
  z9 := Try.sizeOf9
  v9 := Try.zeroValue9

theorem strCmp_any (a b : ByteArray) (w : World) : Calls Try.prog 133 #[.string a, .string b] w fun e w' => e = .returned (.int .i64 (Lib.compareBytes a.data.toList b.data.toList)) ∧ w' = w := Any.strings_Compare Try.strCmp a b w
end Go.Proofs.Ytkgcpbhlbfjcoaa
