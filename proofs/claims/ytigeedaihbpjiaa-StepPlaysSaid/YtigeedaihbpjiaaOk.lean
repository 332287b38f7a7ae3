/-
  What the walk is told of asks that came in. Conditions: none of the program's.
-/
import Derived.Test.YtigeedaihbpjiaaOw
import Derived.Test.YtigeedaihbpjiaaOs
import Derived.Test.YtigeedaihbpjiaaZj
namespace Go.Proofs.Ytigeedaihbpjiaa
open Go Go.RowKit Go.ChangeShapes Go.WideShapes Go.ChangeAt

theorem Try.struct_ask : ∃ f0 f1 f2 f3 : Field, Try.prog.underlying 90 = some (.struct #[f0, f1, f2, f3]) ∧ (f0.offset = 0 ∧ f0.type = 5) ∧ (f1.offset = 1 ∧ f1.type = 5) ∧ (f2.offset = 2 ∧ f2.type = 2) ∧ (f3.offset = 3 ∧ f3.type = 3) := ⟨_, _, _, _, Try.underlying90, ⟨rfl, rfl⟩, ⟨rfl, rfl⟩, ⟨rfl, rfl⟩, ⟨rfl, rfl⟩⟩
set_option maxRecDepth 100000 in
theorem open_asksR {H : Type} {enc : TypeId × Value → H} {W : World} {base : Nat} {v : Value} {d : DataW H} {ps : List MemPlace} (hv : Value.okWide Try.prog W .any base 85 v) (h : DataW.Trod enc Try.prog W 0 (fun _ => true) true 85 v d ps) :
    ∃ l : List (Int × Int × Int × Int), RdS W v 4 l.length (asC l) := by
  have hc2 : Try.prog.cellsOf 90 = 4 := by kernel_rfl
  obtain ⟨n, C, hC, hr⟩ := open_rowsR (m := 4) Try.underlying85 hc2 (by decide) hv h
  have c0 : Try.prog.cellsOf 3 = 1 := by kernel_rfl
  have c1 : Try.prog.cellsOf 5 = 1 := by kernel_rfl
  have c2 : Try.prog.cellsOf 2 = 1 := by kernel_rfl
  obtain ⟨f0, f1, f2, f3, hs, ⟨o0, t0⟩, ⟨o1, t1⟩, ⟨o2, t2⟩, ⟨o3, t3⟩⟩ := Try.struct_ask
  obtain ⟨l, hl, _, hf⟩ := rows_of (f := fun a : Int × Int × Int × Int => [.int .u8 a.1, .int .u8 a.2.1, .int .i64 a.2.2.1, .int .i64 a.2.2.2]) (p := fun _ => True) (C := C) (n := n) (fun i hi => by
    obtain ⟨hlen, fuel, y, hy⟩ := hC i hi
    obtain ⟨xs, k, hk, hxy, _, hxl, hf⟩ := DataW.trod_struct hs hy
    match hci : C i, hlen with
    | [v0, v1, v2, v3], _ =>
      rw [hci] at hf
      match xs, hxl with
      | [y0, y1, y2, y3], _ =>
        have g0 := hf 0 f0 rfl
        have g1 := hf 1 f1 rfl
        have g2 := hf 2 f2 rfl
        have g3 := hf 3 f3 rfl
        simp [o0, o1, o2, o3, t0, t1, t2, t3, c0, c1, c2] at g0 g1 g2 g3
        obtain ⟨n0, e0, _, _⟩ := DataW.trod_int Try.underlying5 g0
        obtain ⟨n1, e1, _, _⟩ := DataW.trod_int Try.underlying5 g1
        obtain ⟨n2, e2, _, _⟩ := DataW.trod_int Try.underlying2 g2
        obtain ⟨n3, e3, _, _⟩ := DataW.trod_int Try.underlying3 g3
        simp at e0 e1 e2 e3
        exact ⟨(n0, n1, n2, n3), trivial, by rw [e0, e1, e2, e3]⟩)
  refine ⟨l, ?_⟩
  rw [hl]
  rw [hf] at hr
  exact hr
end Go.Proofs.Ytigeedaihbpjiaa
