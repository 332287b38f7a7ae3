/-
  Keys: Diags, texts.
-/
import Derived.DeepKeys4
import Derived.StringKeys
import Derived.Test.YtgfiogjfgbegpaaGreatBz44
namespace Go.Proofs.YtgfiogjfgbegpaaGreat
open Go Go.RowKit Go.Maps

structure OkG (x : DiagD) : Prop where
  step : I64w x.1
  err : I64w x.2.1
  text : x.2.2.size ≤ maxLen
def aggG (x : DiagD) : Value := .agg (encG x).toArray
theorem i64_wf {n : Int} (h : I64w n) : (Lit.int .i64 n).wf = true := by
  obtain ⟨h1, h2⟩ := h
  simp [Lit.wf, IntKind.min, IntKind.max, IntKind.bits, IntKind.signed]
  omega
theorem aggG_inj {x y : DiagD} (h : aggG x = aggG y) : x = y := by
  obtain ⟨a, b, c⟩ := x
  obtain ⟨a', b', c'⟩ := y
  simp [aggG, encG] at h
  obtain ⟨rfl, rfl, rfl⟩ := h
  rfl
theorem Tryz.laid : laidOutB Tryz.prog = true := by kernel_rfl
theorem Tryz.rowDiag : (154 : TypeId) < Tryz.prog.types.size := of_decide_eq_true (by kernel_rfl)
theorem Tryz.keyTDiag : Tryz.prog.keyTypeAt 3 154 = true := by kernel_rfl
theorem Tryz.wideDiag : (match Tryz.prog.underlying 154 with | some (.array _ _) | some (.struct _) => true | _ => false) = true := by rw [Tryz.underlying154]
set_option maxRecDepth 100000 in
theorem Tryz.lawDiag : WideMaps.KeyLaw Tryz.prog 154 := deep_law_laid Tryz.laid (m := 3) (by omega) Tryz.rowDiag Tryz.keyTDiag Tryz.wideDiag
theorem Tryz.deepDiag : Tryz.prog.keyType 154 = true := by kernel_rfl
theorem Tryz.cellsDiag : Tryz.prog.cellsOf 154 = 3 := by kernel_rfl
theorem Tryz.cellsInt : Tryz.prog.cellsOf 3 = 1 := by kernel_rfl
theorem Tryz.cellsErrno : Tryz.prog.cellsOf 49 = 1 := by kernel_rfl
theorem Tryz.cellsString : Tryz.prog.cellsOf 9 = 1 := by kernel_rfl
theorem Tryz.zeroInt (w : World) : (zeroValue 3).run Tryz.prog w = .ok (.int .i64 0) w := by kernel_rfl
theorem keyLits_int {P : Program} {n : Nat} {t : TypeId} (ht : P.underlying t = some (.int .i64)) {a : Int} (h : (Lit.int .i64 a).wf = true) : P.keyLits (n + 1) t [.int .i64 a] = some [.int .i64 a] := by
  simp [Program.keyLits, ht, h]
theorem keyLits_str {P : Program} {n : Nat} {t : TypeId} (ht : P.underlying t = some .string) {s : ByteArray} (h : s.size ≤ maxLen) : P.keyLits (n + 1) t [.string s] = some [.string s.data.toList] := by
  simp [Program.keyLits, ht, h]
theorem keyLits_struct {P : Program} {n : Nat} {t : TypeId} {fs : Array Field} (ht : P.underlying t = some (.struct fs)) {cs : List Value} (hc : cs.length = P.cellsOf t) (hn : fs.all (·.name != "_") = true) {ls : List (List Lit)} (h : (fs.toList.mapM fun f => P.keyLits n f.type ((cs.drop f.offset).take (P.cellsOf f.type))) = some ls) : P.keyLits (n + 1) t cs = some ls.flatten := by
  unfold Program.keyLits
  rw [ht]
  simp only [hc, hn, h, and_self, if_true, Option.map_some]
theorem keyOf_struct {P : Program} {t : TypeId} {fs : Array Field} (ht : P.underlying t = some (.struct fs)) {cs : Array Value} (hc : cs.size = P.cellsOf t) (hk : P.keyType t = true) {ls : List Lit} (h : P.keyLits (P.types.size + 1) t cs.toList = some ls) : keyOf P t (.agg cs) = some (.string (keyBytes ls)) := by
  unfold keyOf
  rw [ht]
  simp only [hk, Value.formed, ht, hc, Value.cells, h, beq_self_eq_true, Bool.and_self, if_true, Option.map_some]
theorem Tryz.keyOfDiag (a b : Int) (s : ByteArray) (h1 : (Lit.int .i64 a).wf = true) (h2 : (Lit.int .i64 b).wf = true) (h3 : s.size ≤ maxLen) : ∃ kl, keyOf Tryz.prog 154 (.agg #[.int .i64 a, .int .i64 b, .string s]) = some kl := by
  obtain ⟨n, hn⟩ : ∃ n, Tryz.prog.types.size = n + 1 := Nat.exists_eq_succ_of_ne_zero (Nat.ne_of_gt (Nat.lt_of_le_of_lt (Nat.zero_le _) Tryz.rowDiag))
  refine ⟨_, keyOf_struct Tryz.underlying154 (by rw [Tryz.cellsDiag]; rfl) Tryz.deepDiag (keyLits_struct Tryz.underlying154 (by rw [Tryz.cellsDiag]; rfl) (by decide +kernel) (ls := [[.int .i64 a], [.int .i64 b], [.string s.data.toList]]) ?_)⟩
  rw [hn]
  simp only [List.mapM_cons, List.mapM_nil, Tryz.cellsInt, Tryz.cellsErrno, Tryz.cellsString, List.drop_zero, List.take_succ_cons, List.take_zero, List.drop_succ_cons, keyLits_int Tryz.underlying3 h1, keyLits_int Tryz.underlying49 h2, keyLits_str Tryz.underlying9 h3]
  rfl
set_option maxRecDepth 100000 in
theorem Tryz.keyDiag : KeyI Tryz.prog 154 3 188 DiagD aggG OkG where
  keyed := Keyed.of_law Tryz.lawDiag
  map := Tryz.underlying188
  num := Tryz.underlying3
  zero := Tryz.zeroInt
  inj := aggG_inj
  key := fun {x} h => Tryz.keyOfDiag x.1 x.2.1 x.2.2 (i64_wf h.step) (i64_wf h.err) h.text
theorem Tryz.keyText : KeyI Tryz.prog 9 3 130 ByteArray Value.string (fun s => s.size ≤ maxLen) where
  keyed := string_keyed Tryz.underlying9
  map := Tryz.underlying130
  num := Tryz.underlying3
  zero := Tryz.zeroInt
  inj := fun h => by cases h; rfl
  key := fun h => ⟨_, WideMaps.keyOf_string_mk Tryz.underlying9 h⟩
end Go.Proofs.YtgfiogjfgbegpaaGreat
