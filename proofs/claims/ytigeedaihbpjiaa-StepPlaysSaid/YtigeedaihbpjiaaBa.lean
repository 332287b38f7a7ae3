/-
  bounds.Real, backoff.meant: contracts.
-/
import Derived.Test.YtigeedaihbpjiaaRows
import Derived.Test.YtigeedaihbpjiaaSl
import Derived.Test.YtigeedaihbpjiaaPb
import Derived.Deep.DeepMust
import Derived.Deep.QuietTactic
import Derived.BigQuiet
namespace Go.Proofs.Ytigeedaihbpjiaa
open Go.RowKit

theorem bmeant_zero (b off : Nat) (n : Int) (w : World) (hc : w.cell? ⟨b, off, none⟩ = some (.int .i64 0)) (hf : w.frozen? ⟨b, off, none⟩ = false) :
    Calls Try.prog 117 #[.pointer (some ⟨b, off, none⟩), .int .i64 n] w fun e w' => e = .returned (.tuple #[]) ∧ w.setCell ⟨b, off, none⟩ (.int .i64 n) = w' := by
  go_enter Try.func117, Try.ntmps117
  go_wp2
  go_end0
  exact ⟨rfl, rfl⟩
theorem bmeant_not (b off : Nat) (c n : Int) (w : World) (hc : w.cell? ⟨b, off, none⟩ = some (.int .i64 c)) (h0 : (c == 0) = false) :
    Calls Try.prog 117 #[.pointer (some ⟨b, off, none⟩), .int .i64 n] w fun e w' => e = .returned (.tuple #[]) ∧ w = w' := by
  go_enter Try.func117, Try.ntmps117
  go_wp2
  go_end0
  exact ⟨rfl, rfl⟩


theorem setCell_self {w : World} {b off : Nat} {v : Value} (h : w.cell? ⟨b, off, none⟩ = some v) : w.setCell ⟨b, off, none⟩ v = w := by
  have hb := World.block_lt_of_cell? w _ h
  simp only [World.cell?] at h
  simp only [World.setCell]
  have : w.heap.modify b (fun | .cells c elem frozen => .cells (if (none : Option Nat).isSome then c else c.setIfInBounds off v) elem frozen | o => o) = w.heap := by
    apply Array.ext (by simp)
    intro i h1 h2
    rw [Array.getElem_modify]
    split
    · rename_i hi; subst hi
      rw [Array.getElem?_eq_getElem h2] at h
      cases ho : w.heap[b] with
      | cells c e fr =>
        rw [ho] at h
        simp at h
        simp only [Option.isSome_none, Bool.false_eq_true, if_false]
        congr 1
        apply Array.ext (by simp)
        intro j h3 h4
        rw [Array.getElem_setIfInBounds]
        split
        · rename_i hj; subst hj
          obtain ⟨_, h⟩ := Array.getElem?_eq_some_iff.1 h; exact h.symm
        · rfl
      | _ => rfl
    · rfl
  exact congrArg (fun h => ({ w with heap := h } : World)) this

theorem bmeant_any (b off : Nat) (c n : Int) (w : World) (hc : w.cell? ⟨b, off, none⟩ = some (.int .i64 c)) (hf : w.frozen? ⟨b, off, none⟩ = false) :
    Calls Try.prog 117 #[.pointer (some ⟨b, off, none⟩), .int .i64 n] w fun e w' => e = .returned (.tuple #[]) ∧ w.setCell ⟨b, off, none⟩ (.int .i64 (or0 c n)) = w' := by
  by_cases h : c = 0
  · subst h; exact bmeant_zero b off n w hc hf
  · have := bmeant_not b off c n w hc (by simpa using h)
    refine this.mono ?_
    rintro e w' ⟨rfl, rfl⟩
    refine ⟨rfl, ?_⟩
    rw [show or0 c n = c by unfold or0; rw [if_neg h], setCell_self hc]

/-- A step as a value: its texts, its numbers. -/
def stepV (s0 s1 s2 : ByteArray) (af : Option Addr) (an ac : Nat) (m f k l : Int) (nk : Int) (nt : ByteArray) (ka : Option Addr) (kn kc : Nat) (da : Option Addr) (dn dc : Nat) (nl : Int) : Value :=
  .agg #[.string s0, .string s1, .string s2, .slice af an ac, .int .i64 m, .int .i64 f, .int .i64 k, .int .i64 l, .int .u8 nk, .string nt, .slice ka kn kc, .slice da dn dc, .int .i64 nl]

set_option maxRecDepth 100000 in
set_option maxHeartbeats 2000000 in
theorem Real_any (s0 s1 s2 : ByteArray) (af : Option Addr) (an ac : Nat) (m f k l : Int) (nk : Int) (nt : ByteArray) (ka : Option Addr) (kn kc : Nat) (da : Option Addr) (dn dc : Nat) (nl : Int) (w : World) :
    Calls Try.prog 108 #[stepV s0 s1 s2 af an ac m f k l nk nt ka kn kc da dn dc nl] w fun e w' => e = .returned (stepV s0 s1 s2 af an ac (or0 m 1) f (or0 k 1) (or0 l 100) nk nt ka kn kc da dn dc nl) ∧ Below w.heap.size w w' := by
  unfold stepV
  go_enter Try.func108, Try.ntmps108
  go_wp2_with fail
  refine (bmeant_any _ _ m _ _ (by go_simp) (by go_simp)).mono ?_
  rintro e w' ⟨rfl, rfl⟩
  go_wp2_with fail
  refine (bmeant_any _ _ k _ _ (by go_simp) (by go_simp)).mono ?_
  rintro e w' ⟨rfl, rfl⟩
  go_wp2_with fail
  refine (bmeant_any _ _ l _ _ (by go_simp) (by go_simp)).mono ?_
  rintro e w' ⟨rfl, rfl⟩
  go_wp2
  refine bodyPost_ret (v := .agg #[.string s0, .string s1, .string s2, .slice af an ac, .int .i64 _, .int .i64 f, .int .i64 _, .int .i64 _, .int .u8 nk, .string nt, .slice ka kn kc, .slice da dn dc, .int .i64 nl]) (by simp [results, Try.results108, go_sem]) rfl ⟨rfl, ((Below.refl _ w).alloc (Nat.le_refl _) _).alloc (by simp) _⟩
end Go.Proofs.Ytigeedaihbpjiaa
