/-
  strings.Compare, slices.SortFunc on Diags: what the shelf gives.
-/
import Derived.Shelf.Small.Strs
import Derived.Shelf.Lay
import Derived.Ground.NamesProg
import Derived.Test.YtgfiogjfgbegpaaGreatBz27
namespace Go.Proofs.YtgfiogjfgbegpaaGreat
open Go.Shelf Go.RowKit Go.Lib
def Tryz.strCmp_ren : Go.Shelf.Ren := ⟨fun | 106 => 139 | 213 => 167 | 265 => 181 | n => n, fun | 9 => 9 | 3 => 3 | n => n, fun | n => n⟩
theorem Tryz.strCmp : Go.Proofs.Lays.n106 Tryz.prog Tryz.strCmp_ren where
  mixed := by kernel_rfl
  f106 := Tryz.func139.trans (congrArg some (by kernel_rfl))
  f213 := Tryz.func167.trans (congrArg some (by kernel_rfl))
  f265 := Tryz.func181.trans (congrArg some (by kernel_rfl))
  t3 := Tryz.underlying3
  a3 := Tryz.isAgg3
  z3 := Tryz.sizeOf3
  v3 := Tryz.zeroValue3
  t9 := Tryz.underlying9
  a9 := Tryz.isAgg9
  z9 := Tryz.sizeOf9
  v9 := Tryz.zeroValue9

theorem strCmp_any (a b : ByteArray) (w : World) : Calls Tryz.prog 139 #[.string a, .string b] w fun e w' => e = .returned (.int .i64 (Lib.compareBytes a.data.toList b.data.toList)) ∧ w' = w := Any.strings_Compare Tryz.strCmp a b w
end Go.Proofs.YtgfiogjfgbegpaaGreat
