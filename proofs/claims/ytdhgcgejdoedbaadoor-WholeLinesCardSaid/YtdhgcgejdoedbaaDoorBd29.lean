/-
  strings.Builder's WriteByte, strings.Repeat: contracts (a door seat).
-/
import Derived.Shelf.Strings.Builder1
import Derived.Shelf.Strings.Repeat
import Derived.Test.YtdhgcgejdoedbaaDoorBd15
import Derived.Test.YtdhgcgejdoedbaaDoorBd26
namespace Go.Proofs.YtdhgcgejdoedbaaDoor
open Go.Shelf Go.RowKit Go.Lib
def Tryd.repeatS_ren : Go.Shelf.Ren := ⟨fun | 105 => 19 | 212 => 38 | 99 => 24 | 165 => 39 | 166 => 18 | 170 => 40 | 169 => 21 | 263 => 59 | 264 => 60 | 206 => 42 | 240 => 37 | 241 => 61 | 276 => 58 | 277 => 69 | n => n, fun | 9 => 9 | 3 => 3 | 4 => 4 | 20 => 20 | 0 => 0 | 46 => 74 | 109 => 75 | 5 => 5 | 72 => 48 | 76 => 51 | 51 => 92 | 146 => 93 | 53 => 95 | 148 => 96 | 70 => 46 | 37 => 23 | 75 => 50 | 127 => 79 | 164 => 90 | 80 => 55 | n => n, fun | n => n⟩
theorem Tryd.repeatS : Go.Proofs.Lays.n105 Tryd.prog Tryd.repeatS_ren where
  mixed := by kernel_rfl
  f99 := Tryd.func24.trans (congrArg some (by kernel_rfl))
  f105 := Tryd.func19.trans (congrArg some (by kernel_rfl))
  f165 := Tryd.func39.trans (congrArg some (by kernel_rfl))
  f166 := Tryd.func18.trans (congrArg some (by kernel_rfl))
  f169 := Tryd.func21.trans (congrArg some (by kernel_rfl))
  f170 := Tryd.func40.trans (congrArg some (by kernel_rfl))
  f206 := Tryd.func42.trans (congrArg some (by kernel_rfl))
  f212 := Tryd.func38.trans (congrArg some (by kernel_rfl))
  f240 := Tryd.func37.trans (congrArg some (by kernel_rfl))
  f241 := Tryd.func61.trans (congrArg some (by kernel_rfl))
  f263 := Tryd.func59.trans (congrArg some (by kernel_rfl))
  f264 := Tryd.func60.trans (congrArg some (by kernel_rfl))
  f276 := Tryd.func58.trans (congrArg some (by kernel_rfl))
  f277 := Tryd.func69.trans (congrArg some (by kernel_rfl))
  t0 := Tryd.underlying0
  a0 := Tryd.isAgg0
  z0 := Tryd.sizeOf0
  v0 := Tryd.zeroValue0
  t3 := Tryd.underlying3
  a3 := Tryd.isAgg3
  z3 := Tryd.sizeOf3
  v3 := Tryd.zeroValue3
  t4 := Tryd.underlying4
  a4 := Tryd.isAgg4
  z4 := Tryd.sizeOf4
  v4 := Tryd.zeroValue4
  t5 := Tryd.underlying5
  a5 := Tryd.isAgg5
  z5 := Tryd.sizeOf5
  v5 := Tryd.zeroValue5
  t9 := Tryd.underlying9
  a9 := Tryd.isAgg9
  z9 := Tryd.sizeOf9
  v9 := Tryd.zeroValue9
  t20 := Tryd.underlying20
  a20 := Tryd.isAgg20
  z20 := Tryd.sizeOf20
  v20 := Tryd.zeroValue20
  t37 := Tryd.underlying23
  a37 := Tryd.isAgg23
  z37 := Tryd.sizeOf23
  v37 := Tryd.zeroValue23
  t46 := Tryd.underlying74
  a46 := Tryd.isAgg74
  z46 := Tryd.sizeOf74
  v46 := Tryd.zeroValue74
  t51 := Tryd.underlying92
  a51 := Tryd.isAgg92
  z51 := Tryd.sizeOf92
  v51 := Tryd.zeroValue92
  t53 := Tryd.underlying95
  a53 := Tryd.isAgg95
  z53 := Tryd.sizeOf95
  v53 := Tryd.zeroValue95
  t70 := Tryd.underlying46
  a70 := Tryd.isAgg46
  z70 := Tryd.sizeOf46
  v70 := Tryd.zeroValue46
  t72 := Tryd.underlying48
  a72 := Tryd.isAgg48
  z72 := Tryd.sizeOf48
  v72 := Tryd.zeroValue48
  t75 := Tryd.underlying50
  a75 := Tryd.isAgg50
  z75 := Tryd.sizeOf50
  v75 := Tryd.zeroValue50
  t76 := Tryd.underlying51
  a76 := Tryd.isAgg51
  z76 := Tryd.sizeOf51
  v76 := Tryd.zeroValue51
  t109 := Tryd.underlying75
  a109 := Tryd.isAgg75
  z109 := Tryd.sizeOf75
  v109 := Tryd.zeroValue75
  t127 := Tryd.underlying79
  a127 := Tryd.isAgg79
  z127 := Tryd.sizeOf79
  v127 := Tryd.zeroValue79
  t146 := Tryd.underlying93
  a146 := Tryd.isAgg93
  z146 := Tryd.sizeOf93
  v146 := Tryd.zeroValue93
  t148 := Tryd.underlying96
  a148 := Tryd.isAgg96
  z148 := Tryd.sizeOf96
  v148 := Tryd.zeroValue96
  t164 := Tryd.underlying90
  a164 := Tryd.isAgg90
  z164 := Tryd.sizeOf90
  v164 := Tryd.zeroValue90
def Tryd.bWriteB_ren : Ren := ⟨fun | 167 => 20 | k => Tryd.repeatS_ren.f k, Tryd.repeatS_ren.t, Tryd.repeatS_ren.g⟩
theorem Tryd.bWriteB : Go.Proofs.Lays.n167 Tryd.prog Tryd.bWriteB_ren where
  mixed := by kernel_rfl
  f167 := Tryd.func20.trans (congrArg some (by kernel_rfl))
  f240 := Tryd.func37.trans (congrArg some (by kernel_rfl))
  f276 := Tryd.func58.trans (congrArg some (by kernel_rfl))
  t0 := Tryd.repeatS.t0
  a0 := Tryd.repeatS.a0
  z0 := Tryd.repeatS.z0
  v0 := Tryd.repeatS.v0
  t4 := Tryd.repeatS.t4
  a4 := Tryd.repeatS.a4
  z4 := Tryd.repeatS.z4
  v4 := Tryd.repeatS.v4
  t5 := Tryd.repeatS.t5
  a5 := Tryd.repeatS.a5
  z5 := Tryd.repeatS.z5
  v5 := Tryd.repeatS.v5
  t9 := Tryd.repeatS.t9
  a9 := Tryd.repeatS.a9
  z9 := Tryd.repeatS.z9
  v9 := Tryd.repeatS.v9
  t20 := Tryd.repeatS.t20
  a20 := Tryd.repeatS.a20
  z20 := Tryd.repeatS.z20
  v20 := Tryd.repeatS.v20
  t37 := Tryd.repeatS.t37
  a37 := Tryd.repeatS.a37
  z37 := Tryd.repeatS.z37
  v37 := Tryd.repeatS.v37
  t70 := Tryd.repeatS.t70
  a70 := Tryd.repeatS.a70
  z70 := Tryd.repeatS.z70
  v70 := Tryd.repeatS.v70
  t72 := Tryd.repeatS.t72
  a72 := Tryd.repeatS.a72
  z72 := Tryd.repeatS.z72
  v72 := Tryd.repeatS.v72
  t75 := Tryd.repeatS.t75
  a75 := Tryd.repeatS.a75
  z75 := Tryd.repeatS.z75
  v75 := Tryd.repeatS.v75
  t164 := Tryd.repeatS.t164
  a164 := Tryd.repeatS.a164
  z164 := Tryd.repeatS.z164
  v164 := Tryd.repeatS.v164
theorem Tryd.bWriteBX : Builder.Extra Tryd.prog Tryd.bWriteB_ren where
  sizeBuilder := by kernel_rfl
  liesBuilder := by kernel_rfl
  t5 := Tryd.underlying5
  a5 := Tryd.isAgg5
  z5 := Tryd.sizeOf5
  v5 := Tryd.zeroValue5
  infoByte := by kernel_rfl
  cellsByte := by kernel_rfl
  sizeByte := by kernel_rfl
  neB5 := by decide
theorem Tryd.repeatSX : Builder.Extra Tryd.prog Tryd.repeatS_ren where
  sizeBuilder := by kernel_rfl
  liesBuilder := by kernel_rfl
  t5 := Tryd.underlying5
  a5 := Tryd.isAgg5
  z5 := Tryd.sizeOf5
  v5 := Tryd.zeroValue5
  infoByte := by kernel_rfl
  cellsByte := by kernel_rfl
  sizeByte := by kernel_rfl
  neB5 := by decide
theorem bWriteB_any (B b : Nat) (bs : List Value) (c : Int) (w : World) (h : Lib.IsBuilder 48 5 B b bs w) (hlen : bs.length + 1 ≤ 140737488355328) (hBw : B ≤ w.heap.size) : Calls Tryd.prog 20 #[.pointer (some ⟨b, 0, none⟩), .int .u8 c] w fun e w' => e = .returned .nilIface ∧ (Lib.BuilderAt 48 5 B b (.pointer (some ⟨b, 0, none⟩)) (bs ++ [.int .u8 c]) w' ∧ Below B w w') := Any.Builder_WriteByte Tryd.bWriteB Tryd.bWriteBX B b bs c w h hlen hBw
theorem repeat_any (s : ByteArray) (c : Nat) (w : World) (hc : c ≤ 9223372036854775807) (hlen : s.size * c ≤ 140737488355328) : Calls Tryd.prog 19 #[.string s, .int .i64 c] w fun e w' => e = .returned (.string ⟨(Lib.repeatL s.data.toList c).toArray⟩) ∧ Below w.heap.size w w' := Any.strings_Repeat Tryd.repeatS Tryd.repeatSX s c w hc hlen
end Go.Proofs.YtdhgcgejdoedbaaDoor
