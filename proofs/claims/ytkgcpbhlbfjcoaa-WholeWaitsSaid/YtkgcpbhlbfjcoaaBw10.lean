/-
  What the walk is told of a step, a retry that came in: their cells' forms. Conditions: none of the program's.
-/
import Derived.Test.YtkgcpbhlbfjcoaaBw6
import Derived.Test.YtkgcpbhlbfjcoaaBw7
namespace Go.Proofs.Ytkgcpbhlbfjcoaa
open Go Go.RowKit Go.ChangeShapes Go.WideShapes Go.ChangeAt

theorem Try.stepTypes : Try.prog.cellTypes Try.prog.depth 45 = some [9, 9, 9, 31, 3, 3, 3, 3, 5, 9, 31, 32, 3] := by kernel_rfl
theorem Try.retryTypes : Try.prog.cellTypes Try.prog.depth 43 = some [3, 3, 3] := by kernel_rfl

/-- A retry as a value. -/
def retryV (m f k : Int) : Value := .agg #[.int .i64 m, .int .i64 f, .int .i64 k]

def I64 (n : Int) : Prop := -9223372036854775808 ≤ n ∧ n ≤ 9223372036854775807

set_option maxRecDepth 100000 in
theorem open_retryR {W : World} {base : Nat} {v : Value} (hv : Value.okWide Try.prog W .any base 43 v) : ∃ m f k, v = retryV m f k ∧ I64 m ∧ I64 f ∧ I64 k := by
  obtain ⟨cs, rfl, hs, hc⟩ := open_aggW (n := 3) Try.underlying43 (by kernel_rfl) Try.retryTypes rfl hv
  obtain ⟨c0, c1, c2, rfl⟩ := cells3a cs hs
  obtain ⟨m, rfl, hm⟩ := cell_int Try.underlying3 (hc 0 _ _ (by omega) rfl rfl)
  obtain ⟨f, rfl, hf⟩ := cell_int Try.underlying3 (hc 1 _ _ (by omega) rfl rfl)
  obtain ⟨k, rfl, hk⟩ := cell_int Try.underlying3 (hc 2 _ _ (by omega) rfl rfl)
  exact ⟨m, f, k, rfl, wf_i64 hm, wf_i64 hf, wf_i64 hk⟩

set_option maxRecDepth 100000 in
theorem open_stepR {W : World} {base : Nat} {v : Value} (hv : Value.okWide Try.prog W .any base 45 v) :
    ∃ s0 s1 s2 af an ac m f k l nk nt ka kn kc da dn dc nl, v = stepV s0 s1 s2 af an ac m f k l nk nt ka kn kc da dn dc nl ∧ I64 m ∧ I64 f ∧ I64 k ∧ I64 l := by
  obtain ⟨cs, rfl, hs, hc⟩ := open_aggW (n := 13) Try.underlying45 (by kernel_rfl) Try.stepTypes rfl hv
  obtain ⟨c0, c1, c2, c3, c4, c5, c6, c7, c8, c9, c10, c11, c12, rfl⟩ := cells13 cs hs
  obtain ⟨s0, rfl⟩ := cell_string Try.underlying9 (hc 0 _ _ (by omega) rfl rfl)
  obtain ⟨s1, rfl⟩ := cell_string Try.underlying9 (hc 1 _ _ (by omega) rfl rfl)
  obtain ⟨s2, rfl⟩ := cell_string Try.underlying9 (hc 2 _ _ (by omega) rfl rfl)
  obtain ⟨af, an, ac, rfl⟩ := cell_slice Try.underlying31 (hc 3 _ _ (by omega) rfl rfl)
  obtain ⟨m, rfl, hm⟩ := cell_int Try.underlying3 (hc 4 _ _ (by omega) rfl rfl)
  obtain ⟨f, rfl, hf⟩ := cell_int Try.underlying3 (hc 5 _ _ (by omega) rfl rfl)
  obtain ⟨k, rfl, hk⟩ := cell_int Try.underlying3 (hc 6 _ _ (by omega) rfl rfl)
  obtain ⟨l, rfl, hl⟩ := cell_int Try.underlying3 (hc 7 _ _ (by omega) rfl rfl)
  obtain ⟨nk, rfl, _⟩ := cell_int Try.underlying5 (hc 8 _ _ (by omega) rfl rfl)
  obtain ⟨nt, rfl⟩ := cell_string Try.underlying9 (hc 9 _ _ (by omega) rfl rfl)
  obtain ⟨ka, kn, kc, rfl⟩ := cell_slice Try.underlying31 (hc 10 _ _ (by omega) rfl rfl)
  obtain ⟨da, dn, dc, rfl⟩ := cell_slice Try.underlying32 (hc 11 _ _ (by omega) rfl rfl)
  obtain ⟨nl, rfl, _⟩ := cell_int Try.underlying3 (hc 12 _ _ (by omega) rfl rfl)
  exact ⟨s0, s1, s2, af, an, ac, m, f, k, l, nk, nt, ka, kn, kc, da, dn, dc, nl, rfl, wf_i64 hm, wf_i64 hf, wf_i64 hk, wf_i64 hl⟩
end Go.Proofs.Ytkgcpbhlbfjcoaa
