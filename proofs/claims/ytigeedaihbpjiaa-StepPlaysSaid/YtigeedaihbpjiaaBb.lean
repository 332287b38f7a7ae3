/-
  The reference's Real: contract.
-/
import Derived.Test.YtigeedaihbpjiaaBa
namespace Go.Proofs.Ytigeedaihbpjiaa
open Go.RowKit

set_option maxRecDepth 100000 in
set_option maxHeartbeats 1000000 in
theorem rReal_any (s0 s1 s2 : ByteArray) (af : Option Addr) (an ac : Nat) (m f k l : Int) (nk : Int) (nt : ByteArray) (ka : Option Addr) (kn kc : Nat) (da : Option Addr) (dn dc : Nat) (nl : Int) (w : World) :
    Calls Try.prog 116 #[stepV s0 s1 s2 af an ac m f k l nk nt ka kn kc da dn dc nl] w fun e w' => e = .returned (stepV s0 s1 s2 af an ac (or0 m 1) f (or0 k 1) (or0 l 100) nk nt ka kn kc da dn dc nl) ∧ Below w.heap.size w w' := by
  unfold stepV
  have hm : (m == 0) = true ∧ or0 m 1 = 1 ∨ (m == 0) = false ∧ or0 m 1 = m := by unfold or0; by_cases h : m = 0 <;> simp [h]
  have hk : (k == 0) = true ∧ or0 k 1 = 1 ∨ (k == 0) = false ∧ or0 k 1 = k := by unfold or0; by_cases h : k = 0 <;> simp [h]
  have hl : (l == 0) = true ∧ or0 l 100 = 100 ∨ (l == 0) = false ∧ or0 l 100 = l := by unfold or0; by_cases h : l = 0 <;> simp [h]
  rcases hm with ⟨hm, em⟩ | ⟨hm, em⟩ <;> rcases hk with ⟨hk, ek⟩ | ⟨hk, ek⟩ <;> rcases hl with ⟨hl, el⟩ | ⟨hl, el⟩
  all_goals
    rw [em, ek, el]
    clear em ek el
    go_enter Try.func116, Try.ntmps116
    go_wp2
    refine bodyPost_ret (v := .agg #[.string s0, .string s1, .string s2, .slice af an ac, .int .i64 _, .int .i64 f, .int .i64 _, .int .i64 _, .int .u8 nk, .string nt, .slice ka kn kc, .slice da dn dc, .int .i64 nl]) (by simp [results, Try.results116, go_sem]) rfl ⟨rfl, ((Below.refl _ w).alloc (Nat.le_refl _) _).alloc (by simp) _⟩


end Go.Proofs.Ytigeedaihbpjiaa
