/-
  What the walk is told of a step, a retry that came in: their cells' forms. Conditions: none of the program's.
-/
import Derived.Test.YtigeedaihbpjiaaOp
import Derived.Test.YtigeedaihbpjiaaBa
namespace Go.Proofs.Ytigeedaihbpjiaa
open Go Go.RowKit Go.ChangeShapes Go.WideShapes Go.ChangeAt

theorem cells13 (l : Array Value) (h : l.size = 13) : ∃ c0 c1 c2 c3 c4 c5 c6 c7 c8 c9 c10 c11 c12, l = #[c0, c1, c2, c3, c4, c5, c6, c7, c8, c9, c10, c11, c12] := by
  obtain ⟨l⟩ := l
  match l, h with
  | [c0, c1, c2, c3, c4, c5, c6, c7, c8, c9, c10, c11, c12], _ => exact ⟨c0, c1, c2, c3, c4, c5, c6, c7, c8, c9, c10, c11, c12, rfl⟩
theorem cells3 (l : Array Value) (h : l.size = 3) : ∃ c0 c1 c2, l = #[c0, c1, c2] := by
  obtain ⟨l⟩ := l
  match l, h with
  | [c0, c1, c2], _ => exact ⟨c0, c1, c2, rfl⟩

section
variable {P : Program} {W : World} {base : Nat} {t : TypeId} {v : Value}
theorem cell_int {k : IntKind} (ht : P.underlying t = some (.int k)) (h : Cell.okWide P W .any base t v) : ∃ n, v = .int k n ∧ (Lit.int k n).wf = true := by
  simp only [Cell.okWide, ht] at h
  cases v <;> simp_all [Cell.ok, IntKind.has, Lit.wf]
theorem cell_string (ht : P.underlying t = some .string) (h : Cell.okWide P W .any base t v) : ∃ s, v = .string s := by
  simp only [Cell.okWide, ht] at h
  cases v <;> simp_all [Cell.ok]
theorem cell_slice {e : TypeId} (ht : P.underlying t = some (.slice e)) (h : Cell.okWide P W .any base t v) : ∃ a n c, v = .slice a n c := by
  simp only [Cell.okWide, ht] at h
  cases v <;> simp_all [Cell.ok]
theorem open_aggW {fs : Array Field} {n : Nat} {ts : List TypeId} (ht : P.underlying t = some (.struct fs)) (hc : P.cellsOf t = n) (hts : P.cellTypes P.depth t = some ts) (hn : ts.length = n) (hv : Value.okWide P W .any base t v) :
    ∃ cs : Array Value, v = .agg cs ∧ cs.size = n ∧ ∀ i c u, i < n → cs[i]? = some c → ts[i]? = some u → Cell.okWide P W .any base u c := by
  simp only [Value.okWide, ht] at hv
  obtain ⟨cs, rfl, hsz, ts', hts', _, hcell⟩ := hv
  rw [hts] at hts'
  cases hts'
  refine ⟨cs, rfl, by rw [hsz, hc], fun i c u hi hci hui => ?_⟩
  obtain ⟨u', hu', hok⟩ := hcell i c hci
  rw [hn, Nat.mod_eq_of_lt hi, hui] at hu'
  cases hu'
  exact hok
end

theorem Try.stepTypes : Try.prog.cellTypes Try.prog.depth 82 = some [9, 9, 9, 75, 3, 3, 3, 3, 5, 9, 75, 78, 3] := by kernel_rfl
theorem Try.retryTypes : Try.prog.cellTypes Try.prog.depth 77 = some [3, 3, 3] := by kernel_rfl

/-- A retry as a value. -/
def retryV (m f k : Int) : Value := .agg #[.int .i64 m, .int .i64 f, .int .i64 k]

def I64 (n : Int) : Prop := -9223372036854775808 ≤ n ∧ n ≤ 9223372036854775807

set_option maxRecDepth 100000 in
theorem open_retryR {W : World} {base : Nat} {v : Value} (hv : Value.okWide Try.prog W .any base 77 v) : ∃ m f k, v = retryV m f k ∧ I64 m ∧ I64 f ∧ I64 k := by
  obtain ⟨cs, rfl, hs, hc⟩ := open_aggW (n := 3) Try.underlying77 (by kernel_rfl) Try.retryTypes rfl hv
  obtain ⟨c0, c1, c2, rfl⟩ := cells3 cs hs
  obtain ⟨m, rfl, hm⟩ := cell_int Try.underlying3 (hc 0 _ _ (by omega) rfl rfl)
  obtain ⟨f, rfl, hf⟩ := cell_int Try.underlying3 (hc 1 _ _ (by omega) rfl rfl)
  obtain ⟨k, rfl, hk⟩ := cell_int Try.underlying3 (hc 2 _ _ (by omega) rfl rfl)
  exact ⟨m, f, k, rfl, wf_i64 hm, wf_i64 hf, wf_i64 hk⟩

set_option maxRecDepth 100000 in
theorem open_stepR {W : World} {base : Nat} {v : Value} (hv : Value.okWide Try.prog W .any base 82 v) :
    ∃ s0 s1 s2 af an ac m f k l nk nt ka kn kc da dn dc nl, v = stepV s0 s1 s2 af an ac m f k l nk nt ka kn kc da dn dc nl ∧ I64 m ∧ I64 f ∧ I64 k ∧ I64 l := by
  obtain ⟨cs, rfl, hs, hc⟩ := open_aggW (n := 13) Try.underlying82 (by kernel_rfl) Try.stepTypes rfl hv
  obtain ⟨c0, c1, c2, c3, c4, c5, c6, c7, c8, c9, c10, c11, c12, rfl⟩ := cells13 cs hs
  obtain ⟨s0, rfl⟩ := cell_string Try.underlying9 (hc 0 _ _ (by omega) rfl rfl)
  obtain ⟨s1, rfl⟩ := cell_string Try.underlying9 (hc 1 _ _ (by omega) rfl rfl)
  obtain ⟨s2, rfl⟩ := cell_string Try.underlying9 (hc 2 _ _ (by omega) rfl rfl)
  obtain ⟨af, an, ac, rfl⟩ := cell_slice Try.underlying75 (hc 3 _ _ (by omega) rfl rfl)
  obtain ⟨m, rfl, hm⟩ := cell_int Try.underlying3 (hc 4 _ _ (by omega) rfl rfl)
  obtain ⟨f, rfl, hf⟩ := cell_int Try.underlying3 (hc 5 _ _ (by omega) rfl rfl)
  obtain ⟨k, rfl, hk⟩ := cell_int Try.underlying3 (hc 6 _ _ (by omega) rfl rfl)
  obtain ⟨l, rfl, hl⟩ := cell_int Try.underlying3 (hc 7 _ _ (by omega) rfl rfl)
  obtain ⟨nk, rfl, _⟩ := cell_int Try.underlying5 (hc 8 _ _ (by omega) rfl rfl)
  obtain ⟨nt, rfl⟩ := cell_string Try.underlying9 (hc 9 _ _ (by omega) rfl rfl)
  obtain ⟨ka, kn, kc, rfl⟩ := cell_slice Try.underlying75 (hc 10 _ _ (by omega) rfl rfl)
  obtain ⟨da, dn, dc, rfl⟩ := cell_slice Try.underlying78 (hc 11 _ _ (by omega) rfl rfl)
  obtain ⟨nl, rfl, _⟩ := cell_int Try.underlying3 (hc 12 _ _ (by omega) rfl rfl)
  exact ⟨s0, s1, s2, af, an, ac, m, f, k, l, nk, nt, ka, kn, kc, da, dn, dc, nl, rfl, wf_i64 hm, wf_i64 hf, wf_i64 hk, wf_i64 hl⟩
end Go.Proofs.Ytigeedaihbpjiaa
