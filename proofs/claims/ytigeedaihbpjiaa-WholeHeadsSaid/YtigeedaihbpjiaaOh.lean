/-
  What the walk is told of heads that came in. Conditions: none of the program's.
-/
import Derived.Test.YtigeedaihbpjiaaOw
import Derived.Test.YtigeedaihbpjiaaWh
namespace Go.Proofs.Ytigeedaihbpjiaa
open Go Go.RowKit Go.ChangeShapes Go.WideShapes Go.ChangeAt

theorem Try.struct_head : ∃ f0 f1 : Field, Try.prog.underlying 27 = some (.struct #[f0, f1]) ∧ (f0.offset = 0 ∧ f0.type = 3) ∧ (f1.offset = 1 ∧ f1.type = 5) := ⟨_, _, Try.underlying27, ⟨rfl, rfl⟩, ⟨rfl, rfl⟩⟩
set_option maxRecDepth 100000 in
theorem open_headsR {H : Type} {enc : TypeId × Value → H} {W : World} {base : Nat} {v : Value} {d : DataW H} {ps : List MemPlace} (hv : Value.okWide Try.prog W .any base 22 v) (h : DataW.Trod enc Try.prog W 0 (fun _ => true) true 22 v d ps) :
    ∃ l : List (Int × Nat), HeadsOk l ∧ RdS W v 2 l.length (hdC l) := by
  have hc2 : Try.prog.cellsOf 27 = 2 := by kernel_rfl
  obtain ⟨n, C, hC, hr⟩ := open_rowsR (m := 2) Try.underlying22 hc2 (by decide) hv h
  have c0 : Try.prog.cellsOf 3 = 1 := by kernel_rfl
  have c1 : Try.prog.cellsOf 5 = 1 := by kernel_rfl
  obtain ⟨f0, f1, hs, ⟨o0, t0⟩, ⟨o1, t1⟩⟩ := Try.struct_head
  obtain ⟨l, hl, hp, hf⟩ := rows_of (f := fun h : Int × Nat => [.int .i64 h.1, .int .u8 (h.2 : Int)]) (p := fun h => (-9223372036854775808 ≤ h.1 ∧ h.1 ≤ 9223372036854775807) ∧ h.2 < 256) (C := C) (n := n) (fun i hi => by
    obtain ⟨hlen, fuel, y, hy⟩ := hC i hi
    obtain ⟨xs, k, hk, hxy, _, hxl, hf⟩ := DataW.trod_struct hs hy
    match hci : C i, hlen with
    | [v0, v1], _ =>
      rw [hci] at hf
      match xs, hxl with
      | [y0, y1], _ =>
        have g0 := hf 0 f0 rfl
        have g1 := hf 1 f1 rfl
        simp [o0, o1, t0, t1, c0, c1] at g0 g1
        obtain ⟨n0, e0, _, w0⟩ := DataW.trod_int Try.underlying3 g0
        obtain ⟨n1, e1, _, w1⟩ := DataW.trod_int Try.underlying5 g1
        have b1 := wf_u8 w1
        simp at e0 e1
        exact ⟨(n0, n1.toNat), ⟨wf_i64 w0, by show n1.toNat < 256; omega⟩, by rw [e0, e1]; show _ = [Value.int .i64 n0, Value.int .u8 ((n1.toNat : Nat) : Int)]; rw [show ((n1.toNat : Nat) : Int) = n1 by omega]⟩)
  refine ⟨l, hp, ?_⟩
  rw [hl]
  rw [hf] at hr
  exact hr
end Go.Proofs.Ytigeedaihbpjiaa
