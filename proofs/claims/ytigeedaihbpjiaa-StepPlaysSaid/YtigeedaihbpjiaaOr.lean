/-
  What the walk is told of asks and of a run that came in. Conditions: none of the program's.
-/
import Derived.Test.YtigeedaihbpjiaaOk
import Derived.Test.YtigeedaihbpjiaaZm
namespace Go.Proofs.Ytigeedaihbpjiaa
open Go Go.RowKit Go.ChangeShapes Go.WideShapes Go.ChangeAt

set_option maxRecDepth 100000 in
theorem open_asks0R {H : Type} {enc : TypeId × Value → H} {W : World} {base : Nat} {v : Value} {d : DataW H} {ps : List MemPlace} (hv : Value.okWide Try.prog W .any base 85 v) (h : DataW.Trod enc Try.prog W 0 (fun _ => true) true 85 v d ps) :
    ∃ l : List (Int × Int × Int × Int), (∀ a ∈ l, 0 ≤ a.2.1) ∧ RdS W v 4 l.length (asC l) := by
  have hc2 : Try.prog.cellsOf 90 = 4 := by kernel_rfl
  obtain ⟨n, C, hC, hr⟩ := open_rowsR (m := 4) Try.underlying85 hc2 (by decide) hv h
  have c0 : Try.prog.cellsOf 3 = 1 := by kernel_rfl
  have c1 : Try.prog.cellsOf 5 = 1 := by kernel_rfl
  have c2 : Try.prog.cellsOf 2 = 1 := by kernel_rfl
  obtain ⟨f0, f1, f2, f3, hs, ⟨o0, t0⟩, ⟨o1, t1⟩, ⟨o2, t2⟩, ⟨o3, t3⟩⟩ := Try.struct_ask
  obtain ⟨l, hl, hp, hf⟩ := rows_of (f := fun a : Int × Int × Int × Int => [.int .u8 a.1, .int .u8 a.2.1, .int .i64 a.2.2.1, .int .i64 a.2.2.2]) (p := fun a => 0 ≤ a.2.1) (C := C) (n := n) (fun i hi => by
    obtain ⟨hlen, fuel, y, hy⟩ := hC i hi
    obtain ⟨xs, k, hk, hxy, _, hxl, hf⟩ := DataW.trod_struct hs hy
    match hci : C i, hlen with
    | [v0, v1, v2, v3], _ =>
      rw [hci] at hf
      match xs, hxl with
      | [y0, y1, y2, y3], _ =>
        have g0 := hf 0 f0 rfl
        have g1 := hf 1 f1 rfl
        have g2 := hf 2 f2 rfl
        have g3 := hf 3 f3 rfl
        simp [o0, o1, o2, o3, t0, t1, t2, t3, c0, c1, c2] at g0 g1 g2 g3
        obtain ⟨n0, e0, _, _⟩ := DataW.trod_int Try.underlying5 g0
        obtain ⟨n1, e1, _, wf1⟩ := DataW.trod_int Try.underlying5 g1
        obtain ⟨n2, e2, _, _⟩ := DataW.trod_int Try.underlying2 g2
        obtain ⟨n3, e3, _, _⟩ := DataW.trod_int Try.underlying3 g3
        simp at e0 e1 e2 e3
        exact ⟨(n0, n1, n2, n3), (wf_u8 wf1).1, by rw [e0, e1, e2, e3]⟩)
  refine ⟨l, hp, ?_⟩
  rw [hl]
  rw [hf] at hr
  exact hr

theorem Try.runTypes : Try.prog.cellTypes Try.prog.depth 84 = some [5, 3, 2, 4] := by kernel_rfl
theorem cells4o (l : Array Value) (h : l.size = 4) : ∃ c0 c1 c2 c3, l = #[c0, c1, c2, c3] := by
  obtain ⟨l⟩ := l
  match l, h with
  | [c0, c1, c2, c3], _ => exact ⟨c0, c1, c2, c3, rfl⟩
theorem cell_boolO {P : Program} {W : World} {base : Nat} {t : TypeId} {v : Value} (ht : P.underlying t = some .bool) (h : Cell.okWide P W .any base t v) : ∃ b, v = .bool b := by
  simp only [Cell.okWide, ht] at h
  cases v <;> simp_all [Cell.ok]
set_option maxRecDepth 100000 in
theorem open_runR {W : World} {base : Nat} {v : Value} (hv : Value.okWide Try.prog W .any base 84 v) : ∃ p t u b, v = runV p t u b := by
  obtain ⟨cs, rfl, hs, hc⟩ := open_aggW (n := 4) Try.underlying84 (by kernel_rfl) Try.runTypes rfl hv
  obtain ⟨c0, c1, c2, c3, rfl⟩ := cells4o cs hs
  obtain ⟨p, rfl, _⟩ := cell_int Try.underlying5 (hc 0 _ _ (by omega) rfl rfl)
  obtain ⟨t, rfl, _⟩ := cell_int Try.underlying3 (hc 1 _ _ (by omega) rfl rfl)
  obtain ⟨u, rfl, _⟩ := cell_int Try.underlying2 (hc 2 _ _ (by omega) rfl rfl)
  obtain ⟨b, rfl⟩ := cell_boolO Try.underlying4 (hc 3 _ _ (by omega) rfl rfl)
  exact ⟨p, t, u, b, rfl⟩
end Go.Proofs.Ytigeedaihbpjiaa
