/-
  bounds.Real, backoff.meant: contracts.
-/
import Derived.Test.YtgfiogjfgbegpaaGreatRows
import Derived.Deep.DeepMust
import Derived.Deep.QuietTactic
import Derived.BigQuiet
import Derived.Test.YtgfiogjfgbegpaaGreatBz1
import Derived.Test.YtgfiogjfgbegpaaGreatBz6
namespace Go.Proofs.YtgfiogjfgbegpaaGreat
open Go.RowKit

theorem bmeant_zero (b off : Nat) (n : Int) (w : World) (hc : w.cell? ⟨b, off, none⟩ = some (.int .i64 0)) (hf : w.frozen? ⟨b, off, none⟩ = false) :
    Calls Tryz.prog 78 #[.pointer (some ⟨b, off, none⟩), .int .i64 n] w fun e w' => e = .returned (.tuple #[]) ∧ w.setCell ⟨b, off, none⟩ (.int .i64 n) = w' := by
  go_enter Tryz.func78, Tryz.ntmps78
  go_wp2
  go_end0
  exact ⟨rfl, rfl⟩
theorem bmeant_not (b off : Nat) (c n : Int) (w : World) (hc : w.cell? ⟨b, off, none⟩ = some (.int .i64 c)) (h0 : (c == 0) = false) :
    Calls Tryz.prog 78 #[.pointer (some ⟨b, off, none⟩), .int .i64 n] w fun e w' => e = .returned (.tuple #[]) ∧ w = w' := by
  go_enter Tryz.func78, Tryz.ntmps78
  go_wp2
  go_end0
  exact ⟨rfl, rfl⟩


theorem setCell_self {w : World} {b off : Nat} {v : Value} (h : w.cell? ⟨b, off, none⟩ = some v) : w.setCell ⟨b, off, none⟩ v = w := by
  have hb := World.block_lt_of_cell? w _ h
  simp only [World.cell?] at h
  simp only [World.setCell]
  have : w.heap.modify b (fun | .cells c elem frozen => .cells (if (none : Option Nat).isSome then c else c.setIfInBounds off v) elem frozen | o => o) = w.heap := by
    apply Array.ext (by simp)
    intro i h1 h2
    rw [Array.getElem_modify]
    split
    · rename_i hi; subst hi
      rw [Array.getElem?_eq_getElem h2] at h
      cases ho : w.heap[b] with
      | cells c e fr =>
        rw [ho] at h
        simp at h
        simp only [Option.isSome_none, Bool.false_eq_true, if_false]
        congr 1
        apply Array.ext (by simp)
        intro j h3 h4
        rw [Array.getElem_setIfInBounds]
        split
        · rename_i hj; subst hj
          obtain ⟨_, h⟩ := Array.getElem?_eq_some_iff.1 h; exact h.symm
        · rfl
      | _ => rfl
    · rfl
  exact congrArg (fun h => ({ w with heap := h } : World)) this

theorem bmeant_any (b off : Nat) (c n : Int) (w : World) (hc : w.cell? ⟨b, off, none⟩ = some (.int .i64 c)) (hf : w.frozen? ⟨b, off, none⟩ = false) :
    Calls Tryz.prog 78 #[.pointer (some ⟨b, off, none⟩), .int .i64 n] w fun e w' => e = .returned (.tuple #[]) ∧ w.setCell ⟨b, off, none⟩ (.int .i64 (or0 c n)) = w' := by
  by_cases h : c = 0
  · subst h; exact bmeant_zero b off n w hc hf
  · have := bmeant_not b off c n w hc (by simpa using h)
    refine this.mono ?_
    rintro e w' ⟨rfl, rfl⟩
    refine ⟨rfl, ?_⟩
    rw [show or0 c n = c by unfold or0; rw [if_neg h], setCell_self hc]

def stepV (s0 s1 s2 : ByteArray) (af : Option Addr) (an ac : Nat) (m f k l : Int) (nk : Int) (nt : ByteArray) (ka : Option Addr) (kn kc : Nat) (da : Option Addr) (dn dc : Nat) (nl : Int) : Value :=
  .agg #[.string s0, .string s1, .string s2, .slice af an ac, .int .i64 m, .int .i64 f, .int .i64 k, .int .i64 l, .int .u8 nk, .string nt, .slice ka kn kc, .slice da dn dc, .int .i64 nl]

set_option maxRecDepth 100000 in
set_option maxHeartbeats 2000000 in
theorem Real_any (s0 s1 s2 : ByteArray) (af : Option Addr) (an ac : Nat) (m f k l : Int) (nk : Int) (nt : ByteArray) (ka : Option Addr) (kn kc : Nat) (da : Option Addr) (dn dc : Nat) (nl : Int) (w : World) :
    Calls Tryz.prog 39 #[stepV s0 s1 s2 af an ac m f k l nk nt ka kn kc da dn dc nl] w fun e w' => e = .returned (stepV s0 s1 s2 af an ac (or0 m 1) f (or0 k 1) (or0 l 100) nk nt ka kn kc da dn dc nl) ∧ Below w.heap.size w w' := by
  unfold stepV
  go_enter Tryz.func39, Tryz.ntmps39
  go_wp2_with fail
  refine (bmeant_any _ _ m _ _ (by go_simp) (by go_simp)).mono ?_
  rintro e w' ⟨rfl, rfl⟩
  go_wp2_with fail
  refine (bmeant_any _ _ k _ _ (by go_simp) (by go_simp)).mono ?_
  rintro e w' ⟨rfl, rfl⟩
  go_wp2_with fail
  refine (bmeant_any _ _ l _ _ (by go_simp) (by go_simp)).mono ?_
  rintro e w' ⟨rfl, rfl⟩
  go_wp2
  refine bodyPost_ret (v := .agg #[.string s0, .string s1, .string s2, .slice af an ac, .int .i64 _, .int .i64 f, .int .i64 _, .int .i64 _, .int .u8 nk, .string nt, .slice ka kn kc, .slice da dn dc, .int .i64 nl]) (by simp [results, Tryz.results39, go_sem]) rfl ⟨rfl, ((Below.refl _ w).alloc (Nat.le_refl _) _).alloc (by simp) _⟩
end Go.Proofs.YtgfiogjfgbegpaaGreat

/-
  graph: rows of numbers; the reference's Small, Has, Same, May: contracts.
-/
namespace Go.Proofs.YtgfiogjfgbegpaaGreat
open Go.RowKit

def Rows2 (w : World) (v : Value) (rows : List (List Int)) : Prop :=
  ∃ cs : List Value, RdS w v 1 rows.length cs ∧ cs.length = rows.length ∧ ∀ (i : Nat) (r : List Int), rows[i]? = some r → ∃ c : Value, cs[i]? = some c ∧ RdS w c 1 r.length (ints .i64 r)
theorem Rows2.below {w w' : World} {v : Value} {rows : List (List Int)} (h : Rows2 w v rows) (hb : Below w.heap.size w w') : Rows2 w' v rows := by
  obtain ⟨cs, h1, h2, h3⟩ := h
  exact ⟨cs, h1.below hb, h2, fun i r hi => by obtain ⟨c, hc, hr⟩ := h3 i r hi; exact ⟨c, hc, hr.below hb⟩⟩
theorem Rows2.form {w : World} {v : Value} {rows : List (List Int)} (h : Rows2 w v rows) : ∃ a c, v = .slice a rows.length c := by
  obtain ⟨cs, h1, _⟩ := h; exact h1.form
theorem Rows2.at {w : World} {a : Option Addr} {cap : Nat} {rows : List (List Int)} (h : Rows2 w (.slice a rows.length cap) rows) {i : Nat} (hi : i < rows.length) :
    ∃ g off ra rc, a = some ⟨g, off, none⟩ ∧ rows.length ≤ cap ∧ cap ≤ 9223372036854775807 ∧ w.cell? ⟨g, off + i, none⟩ = some (.slice ra (rows[i]).length rc) ∧ RdS w (.slice ra (rows[i]).length rc) 1 (rows[i]).length (ints .i64 rows[i]) := by
  obtain ⟨cs, h1, h2, h3⟩ := h
  obtain ⟨c, hc, hr⟩ := h3 i rows[i] (List.getElem?_eq_getElem hi)
  obtain ⟨ra, rc, rfl⟩ := hr.form
  rcases h1.cases (by decide) with ⟨h0, _⟩ | ⟨hn, _, g, off, cap', hq, q1, q2, q3⟩
  · omega
  · injection hq with e1 e2 e3
    subst e1 e3
    exact ⟨g, off, ra, rc, rfl, q1, q2, q3 i _ hc, hr⟩
theorem ints_at {w : World} {a : Option Addr} {cap : Nat} {k : IntKind} {l : List Int} (h : RdS w (.slice a l.length cap) 1 l.length (ints k l)) {i : Nat} (hi : i < l.length) :
    ∃ g off, a = some ⟨g, off, none⟩ ∧ l.length ≤ cap ∧ cap ≤ 9223372036854775807 ∧ w.cell? ⟨g, off + i, none⟩ = some (.int k l[i]) := by
  rcases h.cases (by decide) with ⟨h0, _⟩ | ⟨hn, _, g, off, cap', hq, q1, q2, q3⟩
  · omega
  · injection hq with e1 e2 e3
    subst e1 e3
    exact ⟨g, off, rfl, q1, q2, q3 i _ (by simp [ints, hi])⟩
theorem rds_len {w : World} {v : Value} {size n : Nat} {cs : List Value} (h : RdS w v size n cs) : n ≤ 9223372036854775807 := by
  obtain ⟨_, a, c, _, h1, h2, _⟩ := h
  unfold maxLen at h2; omega
theorem take_snocG {α : Type} (l : List α) (k : Nat) (h : k < l.length) : l.take (k + 1) = l.take k ++ [l[k]] := List.take_succ_eq_append_getElem h

end Go.Proofs.YtgfiogjfgbegpaaGreat

/-
  graph: the reference's Same, May: contracts.
-/
namespace Go.Proofs.YtgfiogjfgbegpaaGreat
open Go.RowKit

def okDep (n : Nat) (there : List Bool) (j : Int) : Bool := !decide (0 ≤ j ∧ j < n) || (decide (j.toNat < there.length) && there[j.toNat]?.getD false)
def mayB (rows : List (List Int)) (there : List Bool) (i : Nat) : Bool := (rows[i]?.getD []).all (okDep rows.length there)
def bls (l : List Bool) : List Value := l.map Value.bool
theorem bls_at {w : World} {a : Option Addr} {cap : Nat} {l : List Bool} (h : RdS w (.slice a l.length cap) 1 l.length (bls l)) {i : Nat} (hi : i < l.length) :
    ∃ g off, a = some ⟨g, off, none⟩ ∧ l.length ≤ cap ∧ cap ≤ 9223372036854775807 ∧ w.cell? ⟨g, off + i, none⟩ = some (.bool l[i]) := by
  rcases h.cases (by decide) with ⟨h0, _⟩ | ⟨hn, _, g, off, cap', hq, q1, q2, q3⟩
  · omega
  · injection hq with e1 e2 e3
    subst e1 e3
    exact ⟨g, off, rfl, q1, q2, q3 i _ (by simp [bls, hi])⟩
end Go.Proofs.YtgfiogjfgbegpaaGreat

/-
  The reference's Real: contract.
-/
namespace Go.Proofs.YtgfiogjfgbegpaaGreat
open Go.RowKit

end Go.Proofs.YtgfiogjfgbegpaaGreat
