/-
  slices.SortFunc on Diags: the shelf's laying.
-/
import Derived.Shelf.SlSortCmp.WholeK
import Derived.Ground.SlsfProg
import Derived.Test.YtbnggfhofdpdcaaBq32
namespace Go.Proofs.Ytbnggfhofdpdcaa
open Go.Shelf Go.RowKit Go.Lib Go.Sort
def Try.sortDiag_ren : Go.Shelf.Ren := ⟨fun | 6 => 104 | 15 => 153 | 14 => 152 | 28 => 193 | 29 => 194 | 20 => 185 | 21 => 186 | 22 => 187 | 23 => 188 | 24 => 189 | 25 => 190 | 26 => 191 | 27 => 192 | 46 => 209 | 47 => 210 | 48 => 211 | 49 => 212 | 50 => 213 | 57 => 228 | n => n, fun | 22 => 51 | 24 => 61 | 25 => 135 | 3 => 3 | 39 => 191 | 0 => 0 | 53 => 220 | 55 => 222 | 4 => 4 | 46 => 214 | 45 => 213 | 50 => 183 | 5 => 5 | 9 => 9 | 66 => 235 | 70 => 120 | 76 => 247 | 77 => 248 | n => n, fun | n => n⟩
theorem Try.sortDiag : Go.Proofs.SlLaysF0.n6 Try.prog Try.sortDiag_ren where
  mixed := by kernel_rfl
  f6 := ⟨Try.f104.name, by kernel_rfl, Try.func104.trans (congrArg some (by kernel_rfl))⟩
  f14 := ⟨Try.f152.name, by kernel_rfl, Try.func152.trans (congrArg some (by kernel_rfl))⟩
  f15 := Try.func153.trans (congrArg some (by kernel_rfl))
  f20 := ⟨Try.f185.name, by kernel_rfl, Try.func185.trans (congrArg some (by kernel_rfl))⟩
  f21 := ⟨Try.f186.name, by kernel_rfl, Try.func186.trans (congrArg some (by kernel_rfl))⟩
  f22 := ⟨Try.f187.name, by kernel_rfl, Try.func187.trans (congrArg some (by kernel_rfl))⟩
  f23 := ⟨Try.f188.name, by kernel_rfl, Try.func188.trans (congrArg some (by kernel_rfl))⟩
  f24 := ⟨Try.f189.name, by kernel_rfl, Try.func189.trans (congrArg some (by kernel_rfl))⟩
  f25 := ⟨Try.f190.name, by kernel_rfl, Try.func190.trans (congrArg some (by kernel_rfl))⟩
  f26 := ⟨Try.f191.name, by kernel_rfl, Try.func191.trans (congrArg some (by kernel_rfl))⟩
  f27 := ⟨Try.f192.name, by kernel_rfl, Try.func192.trans (congrArg some (by kernel_rfl))⟩
  f28 := Try.func193.trans (congrArg some (by kernel_rfl))
  f29 := Try.func194.trans (congrArg some (by kernel_rfl))
  f46 := ⟨Try.f209.name, by kernel_rfl, Try.func209.trans (congrArg some (by kernel_rfl))⟩
  f47 := Try.func210.trans (congrArg some (by kernel_rfl))
  f48 := Try.func211.trans (congrArg some (by kernel_rfl))
  f49 := ⟨Try.f212.name, by kernel_rfl, Try.func212.trans (congrArg some (by kernel_rfl))⟩
  f50 := ⟨Try.f213.name, by kernel_rfl, Try.func213.trans (congrArg some (by kernel_rfl))⟩
  f57 := ⟨Try.f228.name, by kernel_rfl, Try.func228.trans (congrArg some (by kernel_rfl))⟩
  t0 := Try.underlying0
  a0 := Try.isAgg0
  z0 := Try.sizeOf0
  v0 := Try.zeroValue0
  t3 := Try.underlying3
  a3 := Try.isAgg3
  z3 := Try.sizeOf3
  v3 := Try.zeroValue3
  t4 := Try.underlying4
  a4 := Try.isAgg4
  z4 := Try.sizeOf4
  v4 := Try.zeroValue4
  t5 := Try.underlying5
  a5 := Try.isAgg5
  z5 := Try.sizeOf5
  v5 := Try.zeroValue5
  t9 := Try.underlying9
  a9 := Try.isAgg9
  z9 := Try.sizeOf9
  v9 := Try.zeroValue9
  t22 := Try.underlying51
  a22 := Try.isAgg51
  z22 := Try.sizeOf51
  v22 := Try.zeroValue51
  t25 := Try.underlying135
  a25 := Try.isAgg135
  z25 := Try.sizeOf135
  v25 := Try.zeroValue135
  t39 := Try.underlying191
  a39 := Try.isAgg191
  z39 := Try.sizeOf191
  v39 := Try.zeroValue191
  t45 := Try.underlying213
  a45 := Try.isAgg213
  z45 := Try.sizeOf213
  v45 := Try.zeroValue213
  t46 := Try.underlying214
  a46 := Try.isAgg214
  z46 := Try.sizeOf214
  v46 := Try.zeroValue214
  t50 := Try.underlying183
  a50 := Try.isAgg183
  z50 := Try.sizeOf183
  v50 := Try.zeroValue183
  t53 := Try.underlying220
  a53 := Try.isAgg220
  z53 := Try.sizeOf220
  v53 := Try.zeroValue220
  t55 := Try.underlying222
  a55 := Try.isAgg222
  z55 := Try.sizeOf222
  v55 := Try.zeroValue222
  t66 := Try.underlying235
  a66 := Try.isAgg235
  z66 := Try.sizeOf235
  v66 := Try.zeroValue235
  t70 := Try.underlying120
  a70 := Try.isAgg120
  z70 := Try.sizeOf120
  v70 := Try.zeroValue120
  t76 := Try.underlying247
  a76 := Try.isAgg247
  z76 := Try.sizeOf247
  v76 := Try.zeroValue247
  t77 := Try.underlying248
  a77 := Try.isAgg248
  z77 := Try.sizeOf248
  v77 := Try.zeroValue248
end Go.Proofs.Ytbnggfhofdpdcaa
