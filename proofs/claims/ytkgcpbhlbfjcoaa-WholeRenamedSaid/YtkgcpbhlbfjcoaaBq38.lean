/-
  slices.SortFunc on Diags: the shelf's laying.
-/
import Derived.Shelf.SlSortCmp.WholeK
import Derived.Ground.SlsfProg
import Derived.Test.YtkgcpbhlbfjcoaaBq28
namespace Go.Proofs.Ytkgcpbhlbfjcoaa
open Go.Shelf Go.RowKit Go.Lib Go.Sort
def Try.sortDiag_ren : Go.Shelf.Ren := ⟨fun | 6 => 116 | 15 => 121 | 14 => 129 | 28 => 144 | 29 => 145 | 20 => 149 | 21 => 150 | 22 => 151 | 23 => 152 | 24 => 153 | 25 => 154 | 26 => 155 | 27 => 156 | 46 => 167 | 47 => 161 | 48 => 162 | 49 => 168 | 50 => 169 | 57 => 173 | n => n, fun | 22 => 97 | 24 => 139 | 25 => 166 | 3 => 3 | 39 => 171 | 0 => 0 | 53 => 194 | 55 => 196 | 4 => 4 | 46 => 187 | 45 => 186 | 50 => 149 | 5 => 5 | 9 => 9 | 66 => 204 | 70 => 122 | 76 => 212 | 77 => 213 | n => n, fun | n => n⟩
theorem Try.sortDiag : Go.Proofs.SlLaysF0.n6 Try.prog Try.sortDiag_ren where
  mixed := by kernel_rfl
  f6 := ⟨Try.f116.name, by kernel_rfl, Try.func116.trans (congrArg some (by kernel_rfl))⟩
  f14 := ⟨Try.f129.name, by kernel_rfl, Try.func129.trans (congrArg some (by kernel_rfl))⟩
  f15 := Try.func121.trans (congrArg some (by kernel_rfl))
  f20 := ⟨Try.f149.name, by kernel_rfl, Try.func149.trans (congrArg some (by kernel_rfl))⟩
  f21 := ⟨Try.f150.name, by kernel_rfl, Try.func150.trans (congrArg some (by kernel_rfl))⟩
  f22 := ⟨Try.f151.name, by kernel_rfl, Try.func151.trans (congrArg some (by kernel_rfl))⟩
  f23 := ⟨Try.f152.name, by kernel_rfl, Try.func152.trans (congrArg some (by kernel_rfl))⟩
  f24 := ⟨Try.f153.name, by kernel_rfl, Try.func153.trans (congrArg some (by kernel_rfl))⟩
  f25 := ⟨Try.f154.name, by kernel_rfl, Try.func154.trans (congrArg some (by kernel_rfl))⟩
  f26 := ⟨Try.f155.name, by kernel_rfl, Try.func155.trans (congrArg some (by kernel_rfl))⟩
  f27 := ⟨Try.f156.name, by kernel_rfl, Try.func156.trans (congrArg some (by kernel_rfl))⟩
  f28 := Try.func144.trans (congrArg some (by kernel_rfl))
  f29 := Try.func145.trans (congrArg some (by kernel_rfl))
  f46 := ⟨Try.f167.name, by kernel_rfl, Try.func167.trans (congrArg some (by kernel_rfl))⟩
  f47 := Try.func161.trans (congrArg some (by kernel_rfl))
  f48 := Try.func162.trans (congrArg some (by kernel_rfl))
  f49 := ⟨Try.f168.name, by kernel_rfl, Try.func168.trans (congrArg some (by kernel_rfl))⟩
  f50 := ⟨Try.f169.name, by kernel_rfl, Try.func169.trans (congrArg some (by kernel_rfl))⟩
  f57 := ⟨Try.f173.name, by kernel_rfl, Try.func173.trans (congrArg some (by kernel_rfl))⟩
  t0 := Try.underlying0
  a0 := Try.isAgg0
  z0 := Try.sizeOf0
  v0 := Try.zeroValue0
  t3 := Try.underlying3
  a3 := Try.isAgg3
  z3 := Try.sizeOf3
  v3 := Try.zeroValue3
  t4 := Try.underlying4
  a4 := Try.isAgg4
  z4 := Try.sizeOf4
  v4 := Try.zeroValue4
  t5 := Try.underlying5
  a5 := Try.isAgg5
  z5 := Try.sizeOf5
  v5 := Try.zeroValue5
  t9 := Try.underlying9
  a9 := Try.isAgg9
  z9 := Try.sizeOf9
  v9 := Try.zeroValue9
  t22 := Try.underlying97
  a22 := Try.isAgg97
  z22 := Try.sizeOf97
  v22 := Try.zeroValue97
  t25 := Try.underlying166
  a25 := Try.isAgg166
  z25 := Try.sizeOf166
  v25 := Try.zeroValue166
  t39 := Try.underlying171
  a39 := Try.isAgg171
  z39 := Try.sizeOf171
  v39 := Try.zeroValue171
  t45 := Try.underlying186
  a45 := Try.isAgg186
  z45 := Try.sizeOf186
  v45 := Try.zeroValue186
  t46 := Try.underlying187
  a46 := Try.isAgg187
  z46 := Try.sizeOf187
  v46 := Try.zeroValue187
  t50 := Try.underlying149
  a50 := Try.isAgg149
  z50 := Try.sizeOf149
  v50 := Try.zeroValue149
  t53 := Try.underlying194
  a53 := Try.isAgg194
  z53 := Try.sizeOf194
  v53 := Try.zeroValue194
  t55 := Try.underlying196
  a55 := Try.isAgg196
  z55 := Try.sizeOf196
  v55 := Try.zeroValue196
  t66 := Try.underlying204
  a66 := Try.isAgg204
  z66 := Try.sizeOf204
  v66 := Try.zeroValue204
  t70 := Try.underlying122
  a70 := Try.isAgg122
  z70 := Try.sizeOf122
  v70 := Try.zeroValue122
  t76 := Try.underlying212
  a76 := Try.isAgg212
  z76 := Try.sizeOf212
  v76 := Try.zeroValue212
  t77 := Try.underlying213
  a77 := Try.isAgg213
  z77 := Try.sizeOf213
  v77 := Try.zeroValue213
end Go.Proofs.Ytkgcpbhlbfjcoaa
