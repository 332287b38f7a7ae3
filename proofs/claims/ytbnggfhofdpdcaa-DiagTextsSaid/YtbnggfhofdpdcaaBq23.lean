/-
  strings.Builder's grow: what the shelf gives.
-/
import Derived.Shelf.Strings.Builder2
import Derived.Shelf.Lay
import Derived.Ground.NamesProg
import Derived.Test.YtbnggfhofdpdcaaBq21
namespace Go.Proofs.Ytbnggfhofdpdcaa
open Go.Shelf Go.RowKit Go.Lib
def Try.bgrow_ren : Go.Shelf.Ren := ⟨fun | 241 => 199 | 277 => 215 | n => n, fun | 70 => 141 | 3 => 3 | 0 => 0 | 72 => 144 | 37 => 142 | 5 => 5 | n => n, fun | n => n⟩
theorem Try.bgrow : Go.Proofs.Lays.n241 Try.prog Try.bgrow_ren where
  mixed := by kernel_rfl
  f241 := Try.func199.trans (congrArg some (by kernel_rfl))
  f277 := Try.func215.trans (congrArg some (by kernel_rfl))
  t0 := Try.underlying0
  a0 := Try.isAgg0
  z0 := Try.sizeOf0
  v0 := Try.zeroValue0
  t3 := Try.underlying3
  a3 := Try.isAgg3
  z3 := Try.sizeOf3
  v3 := Try.zeroValue3
  t37 := Try.underlying142
  a37 := Try.isAgg142
  z37 := Try.sizeOf142
  v37 := Try.zeroValue142
  t70 := Try.underlying141
  a70 := Try.isAgg141
  z70 := Try.sizeOf141
  v70 := Try.zeroValue141
  t72 := Try.underlying144
  a72 := Try.isAgg144
  z72 := Try.sizeOf144
  v72 := Try.zeroValue144
theorem bgrow_any (B b n : Nat) (w : World) (hB : B ≤ b) (hbk : w.heap[b]? = some (.cells #[.pointer (some ⟨b, 0, none⟩), .slice none 0 0] 144 (0, 0))) (hBw : B ≤ w.heap.size) (hn : n ≤ 281474976710656) :
    Calls Try.prog 199 #[.pointer (some ⟨b, 0, none⟩), .int .i64 n] w fun e w' => e = .returned (.tuple #[]) ∧ (Lib.BuilderAt 144 5 B b (.pointer (some ⟨b, 0, none⟩)) [] w' ∧ Below B w w') :=
  Any.Builder_grow_fresh Try.bgrow { sizeBuilder := by kernel_rfl, liesBuilder := by kernel_rfl, t5 := Try.underlying5, a5 := Try.isAgg5, z5 := Try.sizeOf5, v5 := Try.zeroValue5, infoByte := by kernel_rfl, cellsByte := by kernel_rfl, sizeByte := by kernel_rfl, neB5 := by decide } B b n w hB hbk hBw hn
set_option maxRecDepth 100000 in
set_option maxHeartbeats 2000000 in
theorem Grow_any (B b n : Nat) (w : World) (hB : B ≤ b) (hbk : w.heap[b]? = some (.cells #[.pointer none, .slice none 0 0] 144 (0, 0))) (hBw : B ≤ w.heap.size) (hn : n ≤ 281474976710656) (hn0 : 0 < n) :
    Calls Try.prog 161 #[.pointer (some ⟨b, 0, none⟩), .int .i64 n] w fun e w' => e = .returned (.tuple #[]) ∧ (Lib.BuilderAt 144 5 B b (.pointer (some ⟨b, 0, none⟩)) [] w' ∧ Below B w w') := by
  obtain ⟨c0, c1, f0, f1⟩ := cells2 hbk
  have hbk1 : (w.setCell ⟨b, 0, none⟩ (.pointer (some ⟨b, 0, none⟩))).heap[b]? = some (.cells #[.pointer (some ⟨b, 0, none⟩), .slice none 0 0] 144 (0, 0)) := by
    simp [World.setCell, Array.getElem?_modify, hbk]
  have hb1 : Below B w (w.setCell ⟨b, 0, none⟩ (.pointer (some ⟨b, 0, none⟩))) := (Below.refl B w).setCell (p := ⟨b, 0, none⟩) hB _
  have HCC := Lib.hid (copyCheck_fresh b w c0 (by simp [World.shape?, hbk]) f0)
  have HBK := Lib.hid hbk1
  have HB1 := Lib.hid hb1
  have hsz : (w.setCell ⟨b, 0, none⟩ (.pointer (some ⟨b, 0, none⟩))).heap.size = w.heap.size := by simp
  have HSZ := Lib.hid hsz
  clear hbk hbk1 hb1 c0 c1 f0 f1 hsz
  go_enter Try.func161, Try.ntmps161
  go_wp2_with fail
  refine HCC.out.mono ?_
  rintro e w1 ⟨rfl, hw⟩
  rw [hw] at HBK HB1 HSZ
  clear hw HCC
  obtain ⟨c0, c1, f0, f1⟩ := cells2 HBK.out
  have d1 : decide ((n : Int) < 0) = false := decide_eq_false (by omega)
  have d2 : decide ((0 : Int) < (n : Int)) = true := decide_eq_true (by omega)
  go_wp2_with fail
  go_quiet (fail)
  clear c0 c1 f0 f1
  have HBQ := Lib.hid (belowN HB1.out nq)
  have hq : (w1.drewN nq).heap[b]? = some (.cells #[.pointer (some ⟨b, 0, none⟩), .slice none 0 0] 144 (0, 0)) := HBK.out
  have hqz : B ≤ (w1.drewN nq).heap.size := by show B ≤ w1.heap.size; rw [HSZ.out]; exact hBw
  generalize w1.drewN nq = w2 at *
  have HQ := Lib.hid hq
  clear hq
  go_wp2_with fail
  refine (bgrow_any B b n w2 hB HQ.out hqz hn).mono ?_
  rintro e w3 ⟨rfl, h3, hb3⟩
  have HF := Lib.hid (show Lib.BuilderAt 144 5 B b (.pointer (some ⟨b, 0, none⟩)) [] w3 ∧ Below B w w3 from ⟨h3, HBQ.out.trans hb3⟩)
  clear h3 hb3
  go_wp2_with fail
  go_end0
  exact ⟨rfl, HF.out⟩
end Go.Proofs.Ytbnggfhofdpdcaa
