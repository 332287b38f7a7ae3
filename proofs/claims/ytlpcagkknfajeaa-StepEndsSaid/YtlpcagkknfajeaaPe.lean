/-
  step: plain law: with a tick at each number a step is settled, at most Span ticks behind its beginning.
-/
import Derived.Test.YtlpcagkknfajeaaZd
namespace Go.Proofs.Ytlpcagkknfajeaa
open Go.RowKit

/-- How many ticks may be gone when a try ends. -/
def endI (L f k : Int) (t : Nat) : Int := t * L + bSum f k (t - 1)
theorem endI_succ (L f k : Int) (t : Nat) (h1 : 1 ≤ t) (h2 : t ≤ 19) : endI L f k (t + 1) = endI L f k t + waitI f k t + L := by
  obtain ⟨i, rfl⟩ : ∃ i, t = i + 1 := ⟨t - 1, by omega⟩
  unfold endI
  have e : waitI f k ((i + 1 : Nat) : Int) = bSeq f k i := by
    have := waitI_succ f k i (by omega)
    rw [show ((i + 1 : Nat) : Int) = (i : Int) + 1 by omega]
    exact this
  rw [e, show i + 1 + 1 - 1 = i + 1 by omega, show i + 1 - 1 = i by omega]
  have e2 : ((i + 1 + 1 : Nat) : Int) * L = ((i + 1 : Nat) : Int) * L + L := by
    rw [show ((i + 1 + 1 : Nat) : Int) = ((i + 1 : Nat) : Int) + 1 by omega, Int.add_mul, Int.one_mul]
  rw [e2]
  simp only [bSum]
  omega
theorem endI_mono {L f k : Int} (hL : 0 ≤ L) : ∀ (d t : Nat), 1 ≤ t → t + d ≤ 20 → endI L f k t ≤ endI L f k (t + d) := by
  intro d
  induction d with
  | zero => intro t _ _; exact Int.le_refl _
  | succ d ih =>
    intro t h1 h2
    have h := ih t h1 (by omega)
    have e := endI_succ L f k (t + d) (by omega) (by omega)
    have hw := waitI_range f k ((t + d : Nat) : Int)
    rw [← Nat.add_assoc, e]
    omega

/-- What holds at n ticks behind the beginning: ahead of what happens (s = 0), or behind the tick (s = 1). -/
def stInv (m f k l now : Int) (n : Nat) (s : Int) (x : Int × Int × Int × Bool) : Prop :=
  x.2.2.2 = false ∧ (x.1 = 3 ∨ x.1 = 4 ∨ ∃ t : Nat, x.2.1 = t ∧ 1 ≤ t ∧ (t : Int) ≤ bMost m ∧ now + n + s ≤ x.2.2.1 ∧
    ((x.1 = 1 ∧ x.2.2.1 ≤ now + endI (limI l) f k t) ∨ (x.1 = 2 ∧ (t : Int) < bMost m ∧ x.2.2.1 ≤ now + endI (limI l) f k t + waitI f k t)))
theorem inc_nat {t : Nat} (h : t ≤ 20) : inc (t : Int) = ((t + 1 : Nat) : Int) := by unfold inc wrap64; omega
theorem now_in {now : Int} {n : Nat} (h0 : 0 ≤ now) (h1 : now ≤ 549755813888) (hn : n ≤ 3000) : nowI (now + n) = now + n := by unfold nowI; omega

theorem fail_inv {m f k l now : Int} {n t : Nat} {u : Int} (hl : 1 ≤ limI l) (h0 : 0 ≤ now) (h1 : now ≤ 549755813888) (hn : n ≤ 3000) (ht : 1 ≤ t) (htM : (t : Int) ≤ bMost m) (hE : (n : Int) ≤ endI (limI l) f k t) :
    stInv m f k l now n 1 (failT m f k l 1 t u false (now + n)) := by
  have hM := bMost_range m
  unfold failT
  rw [now_in h0 h1 hn]
  have hw := waitI_range f k (t : Int)
  have hs := endI_succ (limI l) f k t ht (by omega)
  by_cases hm : moreB m t = true
  · have hlt : (t : Int) < bMost m := by unfold moreB at hm; simp at hm; omega
    rw [hm]
    by_cases hz : waitI f k t = 0
    · rw [if_neg (by simp), if_pos hz, inc_nat (by omega)]
      exact ⟨rfl, .inr (.inr ⟨t + 1, rfl, by omega, by omega, by simp only []; omega, .inl ⟨rfl, by simp only []; omega⟩⟩)⟩
    · rw [if_neg (by simp), if_neg hz]
      exact ⟨rfl, .inr (.inr ⟨t, rfl, ht, htM, by simp only []; omega, .inr ⟨rfl, hlt, by simp only []; omega⟩⟩)⟩
  · rw [if_pos (by simp [hm])]
    exact ⟨rfl, .inr (.inl rfl)⟩
theorem stInv_weak {m f k l now : Int} {n : Nat} {x : Int × Int × Int × Bool} (h : stInv m f k l now n 1 x) : stInv m f k l now n 0 x := by
  obtain ⟨hb, h⟩ := h
  refine ⟨hb, ?_⟩
  rcases h with h | h | ⟨t, h1, h2, h3, h4, h5⟩
  · exact .inl h
  · exact .inr (.inl h)
  · exact .inr (.inr ⟨t, h1, h2, h3, by omega, h5⟩)
theorem stInv_next {m f k l now : Int} {n : Nat} {x : Int × Int × Int × Bool} (h : stInv m f k l now n 1 x) : stInv m f k l now (n + 1) 0 x := by
  obtain ⟨hb, h⟩ := h
  refine ⟨hb, ?_⟩
  rcases h with h | h | ⟨t, h1, h2, h3, h4, h5⟩
  · exact .inl h
  · exact .inr (.inl h)
  · exact .inr (.inr ⟨t, h1, h2, h3, by omega, h5⟩)
theorem begin_inv {m f k l now : Int} (hm : 0 ≤ m) (h0 : 0 ≤ now) (h1 : now ≤ 549755813888) (hl : 1 ≤ limI l) : stInv m f k l now 0 0 (1, inc 0, nowI now + limI l, false) := by
  have hM : 1 ≤ bMost m := by unfold bMost or0; split <;> omega
  have e := now_in (n := 0) h0 h1 (by omega)
  simp only [Int.natCast_zero, Int.add_zero] at e
  have e1 := inc_nat (t := 0) (by omega)
  simp only [Int.natCast_zero] at e1
  rw [e, e1]
  refine ⟨rfl, .inr (.inr ⟨1, rfl, Nat.le_refl _, by omega, by simp only []; omega, .inl ⟨rfl, ?_⟩⟩)⟩
  unfold endI
  simp [bSum]
theorem answer_inv {m f k l now : Int} {n : Nat} {p t u : Int} {b : Bool} (o : Int) (hl : 1 ≤ limI l) (h0 : 0 ≤ now) (h1 : now ≤ 549755813888) (hn : n ≤ 3000) (h : stInv m f k l now n 0 (p, t, u, b)) :
    stInv m f k l now n 0 (answerT m f k l p t u b (now + n) t o).1 := by
  by_cases hp : p = 1
  · subst hp
    have hb : b = false := h.1
    subst hb
    obtain ⟨_, h3 | h4 | ⟨T, e1, e2, e3, e4, e5⟩⟩ := id h
    · cases h3
    · cases h4
    · simp only at e1 e4 e5
      subst e1
      have hE : (n : Int) ≤ endI (limI l) f k T := by
        rcases e5 with ⟨_, e6⟩ | ⟨e6, _⟩
        · omega
        · cases e6
      unfold answerT
      rw [if_pos ⟨rfl, rfl⟩]
      split
      · exact ⟨rfl, .inl rfl⟩
      · split
        · exact stInv_weak (fail_inv (u := u) hl h0 h1 hn e2 e3 hE)
        · split
          · exact ⟨rfl, .inr (.inl rfl)⟩
          · exact h
  · unfold answerT
    rw [if_neg (fun hc => hp hc.1)]
    exact h
theorem tick_inv {m f k l now : Int} {n : Nat} {p t u : Int} {b : Bool} (hl : 1 ≤ limI l) (h0 : 0 ≤ now) (h1 : now ≤ 549755813888) (hn : n ≤ 3000) (h : stInv m f k l now n 0 (p, t, u, b)) :
    stInv m f k l now n 1 (tickT m f k l p t u b (now + n)).1 := by
  have hM := bMost_range m
  have hb : b = false := h.1
  subst hb
  unfold tickT
  rw [now_in h0 h1 hn]
  obtain ⟨_, h3 | h4 | ⟨T, e1, e2, e3, e4, e5⟩⟩ := id h
  · simp only at h3
    subst h3
    split
    · rw [if_neg (by decide), if_neg (by decide)]; exact ⟨rfl, .inl rfl⟩
    · exact ⟨rfl, .inl rfl⟩
  · simp only at h4
    subst h4
    split
    · rw [if_neg (by decide), if_neg (by decide)]; exact ⟨rfl, .inr (.inl rfl)⟩
    · exact ⟨rfl, .inr (.inl rfl)⟩
  · simp only at e1 e4 e5
    subst e1
    by_cases hlate : u ≤ now + n
    · rw [if_pos hlate]
      rcases e5 with ⟨rfl, e6⟩ | ⟨rfl, e6, e7⟩
      · rw [if_pos rfl]
        exact fail_inv (u := u) hl h0 h1 hn e2 e3 (by omega)
      · rw [if_neg (by decide), if_pos rfl]
        have hs := endI_succ (limI l) f k T e2 (by omega)
        rw [inc_nat (by omega)]
        exact ⟨rfl, .inr (.inr ⟨T + 1, rfl, by omega, by omega, by simp only []; omega, .inl ⟨rfl, by simp only []; omega⟩⟩)⟩
    · rw [if_neg hlate]
      exact ⟨rfl, .inr (.inr ⟨T, rfl, e2, e3, by simp only []; omega, e5⟩)⟩
theorem end_inv {m f k l now : Int} {n : Nat} {x : Int × Int × Int × Bool} (hl : 1 ≤ limI l) (hn : (n : Int) = spanI m f k l) (h : stInv m f k l now n 1 x) : settledB x.1 = true := by
  have hM := bMost_range m
  obtain ⟨_, h | h | ⟨T, e1, e2, e3, e4, e5⟩⟩ := h
  · rw [h]; rfl
  · rw [h]; rfl
  · exfalso
    obtain ⟨M, hMe⟩ : ∃ M : Nat, bMost m = M := ⟨(bMost m).toNat, by omega⟩
    have hsp : spanI m f k l = endI (limI l) f k M := by
      unfold spanI endI wN
      rw [hMe, Int.mul_comm, show ((M : Int) - 1).toNat = M - 1 by omega]
    rcases e5 with ⟨_, e6⟩ | ⟨_, e6, e7⟩
    · have := endI_mono (f := f) (k := k) (L := limI l) (by omega) (M - T) T e2 (by omega)
      rw [show T + (M - T) = M by omega] at this
      omega
    · have hs := endI_succ (limI l) f k T e2 (by omega)
      have := endI_mono (f := f) (k := k) (L := limI l) (by omega) (M - (T + 1)) (T + 1) (by omega) (by omega)
      rw [show T + 1 + (M - (T + 1)) = M by omega] at this
      omega
end Go.Proofs.Ytlpcagkknfajeaa
