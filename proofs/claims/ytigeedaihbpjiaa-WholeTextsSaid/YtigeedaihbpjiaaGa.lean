/-
  graph: rows of numbers; the reference's Small, Has, Same, May: contracts.
-/
import Derived.Test.YtigeedaihbpjiaaRows
import Derived.Test.YtigeedaihbpjiaaSl
import Derived.Deep.DeepMust
import Derived.Deep.QuietTactic
import Derived.BigQuiet
namespace Go.Proofs.Ytigeedaihbpjiaa
open Go.RowKit

/-- A slice of slices of numbers. -/
def Rows2 (w : World) (v : Value) (rows : List (List Int)) : Prop :=
  ∃ cs : List Value, RdS w v 1 rows.length cs ∧ cs.length = rows.length ∧ ∀ (i : Nat) (r : List Int), rows[i]? = some r → ∃ c : Value, cs[i]? = some c ∧ RdS w c 1 r.length (ints .i64 r)
theorem Rows2.below {w w' : World} {v : Value} {rows : List (List Int)} (h : Rows2 w v rows) (hb : Below w.heap.size w w') : Rows2 w' v rows := by
  obtain ⟨cs, h1, h2, h3⟩ := h
  exact ⟨cs, h1.below hb, h2, fun i r hi => by obtain ⟨c, hc, hr⟩ := h3 i r hi; exact ⟨c, hc, hr.below hb⟩⟩
theorem Rows2.form {w : World} {v : Value} {rows : List (List Int)} (h : Rows2 w v rows) : ∃ a c, v = .slice a rows.length c := by
  obtain ⟨cs, h1, _⟩ := h; exact h1.form
theorem Rows2.at {w : World} {a : Option Addr} {cap : Nat} {rows : List (List Int)} (h : Rows2 w (.slice a rows.length cap) rows) {i : Nat} (hi : i < rows.length) :
    ∃ g off ra rc, a = some ⟨g, off, none⟩ ∧ rows.length ≤ cap ∧ cap ≤ 9223372036854775807 ∧ w.cell? ⟨g, off + i, none⟩ = some (.slice ra (rows[i]).length rc) ∧ RdS w (.slice ra (rows[i]).length rc) 1 (rows[i]).length (ints .i64 rows[i]) := by
  obtain ⟨cs, h1, h2, h3⟩ := h
  obtain ⟨c, hc, hr⟩ := h3 i rows[i] (List.getElem?_eq_getElem hi)
  obtain ⟨ra, rc, rfl⟩ := hr.form
  rcases h1.cases (by decide) with ⟨h0, _⟩ | ⟨hn, _, g, off, cap', hq, q1, q2, q3⟩
  · omega
  · injection hq with e1 e2 e3
    subst e1 e3
    exact ⟨g, off, ra, rc, rfl, q1, q2, q3 i _ hc, hr⟩
theorem ints_at {w : World} {a : Option Addr} {cap : Nat} {k : IntKind} {l : List Int} (h : RdS w (.slice a l.length cap) 1 l.length (ints k l)) {i : Nat} (hi : i < l.length) :
    ∃ g off, a = some ⟨g, off, none⟩ ∧ l.length ≤ cap ∧ cap ≤ 9223372036854775807 ∧ w.cell? ⟨g, off + i, none⟩ = some (.int k l[i]) := by
  rcases h.cases (by decide) with ⟨h0, _⟩ | ⟨hn, _, g, off, cap', hq, q1, q2, q3⟩
  · omega
  · injection hq with e1 e2 e3
    subst e1 e3
    exact ⟨g, off, rfl, q1, q2, q3 i _ (by simp [ints, hi])⟩
theorem rds_len {w : World} {v : Value} {size n : Nat} {cs : List Value} (h : RdS w v size n cs) : n ≤ 9223372036854775807 := by
  obtain ⟨_, a, c, _, h1, h2, _⟩ := h
  unfold maxLen at h2; omega
theorem take_snocG {α : Type} (l : List α) (k : Nat) (h : k < l.length) : l.take (k + 1) = l.take k ++ [l[k]] := List.take_succ_eq_append_getElem h

def smallB (rows : List (List Int)) : Bool := decide (rows.length ≤ 40) && rows.all fun r => decide (r.length ≤ 60)
theorem small_all {rows : List (List Int)} (h : smallB rows = true) : rows.length ≤ 40 ∧ ∀ i (hi : i < rows.length), (rows[i]).length ≤ 60 := by
  unfold smallB at h
  simp at h
  exact ⟨h.1, fun i hi => h.2 _ (List.getElem_mem hi)⟩
set_option maxRecDepth 100000 in
theorem Small_any (rows : List (List Int)) (v : Value) (w : World) (hr : Rows2 w v rows) :
    Calls Try.prog 60 #[v] w fun e w' => e = .returned (.bool (smallB rows)) ∧ w = w' := by
  have HR := Lib.hid hr
  have hlen : rows.length ≤ 9223372036854775807 := by obtain ⟨_, h1, _⟩ := hr; exact rds_len h1
  obtain ⟨a, cap, rfl⟩ := hr.form
  clear hr
  by_cases hbig : 40 < rows.length
  · have HS : Hid (smallB rows = false) := Lib.hid (by unfold smallB; simp; omega)
    have hd : decide ((40 : Int) < rows.length) = true := by simp; omega
    go_enter Try.func60, Try.ntmps60
    go_wp2
    go_ret
    exact ⟨by rw [HS.out]; rfl, rfl⟩
  · have hd : decide ((40 : Int) < rows.length) = false := by simp; omega
    go_enter Try.func60, Try.ntmps60
    go_wp2
    go_loop [3] (fun i => ∃ k : Nat, k ≤ rows.length ∧ i = .int .i64 k ∧ Hid (∀ j (hj : j < rows.length), j < k → (rows[j]).length ≤ 60)) (fun i => rows.length - (intOf i).toNat)
    case atStart => exact ⟨0, by omega, rfl, Lib.hid (fun j hj h => by omega)⟩
    case round =>
      obtain ⟨k, hk, rfl, HA⟩ := hrel
      by_cases hlt : k < rows.length
      · obtain ⟨g, off, ra, rc, rfl, h1, h2, hcell, hrow⟩ := HR.out.at hlt
        have hrl := rds_len hrow
        have HB := Lib.hid (show (rows[k]).length ≤ 60 → ∀ j (hj : j < rows.length), j < k + 1 → (rows[j]).length ≤ 60 from fun h j hj hjk => by
          rcases Nat.lt_or_ge j k with h' | h'
          · exact HA.out j hj h'
          · have : j = k := by omega
            subst this; exact h)
        have HN := Lib.hid (show ¬ (rows[k]).length ≤ 60 → smallB rows = false from fun h => by
          cases hs : smallB rows with
          | false => rfl
          | true => exact absurd ((small_all hs).2 k hlt) h)
        generalize (rows[k]).length = n at *
        clear hrow
        by_cases hn : n ≤ 60
        · have hdn : decide ((60 : Int) < n) = false := by simp; omega
          go_wp2
          go_round
          case rel => exact ⟨k + 1, by omega, by go_num, Lib.hid (HB.out hn)⟩
          case measure => simp [intOf]; omega
        · have hdn : decide ((60 : Int) < n) = true := by simp; omega
          go_wp2
          go_ret
          exact ⟨by rw [HN.out hn]; rfl, rfl⟩
      · have HS : Hid (smallB rows = true) := Lib.hid (by
          unfold smallB; simp
          refine ⟨by omega, fun r hr => ?_⟩
          obtain ⟨j, hj, rfl⟩ := List.getElem_of_mem hr
          exact HA.out j hj (by omega))
        go_wp2
        go_ret
        exact ⟨by rw [HS.out]; rfl, rfl⟩

def hasB (l : List Int) (z : Int) : Bool := l.contains z
set_option maxRecDepth 100000 in
theorem Has_any (l : List Int) (z : Int) (v : Value) (w : World) (hr : RdS w v 1 l.length (ints .i64 l)) :
    Calls Try.prog 64 #[v, .int .i64 z] w fun e w' => e = .returned (.bool (hasB l z)) ∧ w = w' := by
  have HR := Lib.hid hr
  have hlen := rds_len hr
  obtain ⟨a, cap, rfl⟩ := hr.form
  clear hr
  go_enter Try.func64, Try.ntmps64
  go_wp2
  go_loop [5] (fun i => ∃ k : Nat, k ≤ l.length ∧ i = .int .i64 k ∧ Hid (hasB (l.take k) z = false)) (fun i => l.length - (intOf i).toNat)
  case atStart => exact ⟨0, by omega, rfl, Lib.hid (by simp [hasB])⟩
  case round =>
    obtain ⟨k, hk, rfl, HA⟩ := hrel
    by_cases hlt : k < l.length
    · obtain ⟨g, off, rfl, h1, h2, hcell⟩ := ints_at HR.out hlt
      have HT := Lib.hid (take_snocG l k hlt)
      have HM := Lib.hid (List.getElem_mem hlt)
      generalize l[k] = x at *
      have hlt' : (k : Int) < l.length := by omega
      by_cases hx : x = z
      · have hd : (x == z) = true := by simpa using hx
        have HY : Hid (hasB l z = true) := Lib.hid (by unfold hasB; rw [← hx]; simpa using HM.out)
        clear hx
        go_wp2
        go_ret
        exact ⟨by rw [HY.out]; rfl, rfl⟩
      · have hd : (x == z) = false := by simpa using hx
        have HY : Hid (hasB (l.take (k + 1)) z = false) := Lib.hid (by
          have := HA.out
          unfold hasB at this ⊢
          rw [HT.out, Bool.eq_false_iff]
          intro hc
          simp at hc this
          rcases hc with h | h
          · exact this h
          · exact hx h.symm)
        clear hx
        go_wp2
        go_round
        case rel => exact ⟨k + 1, by omega, by go_num, HY⟩
        case measure => simp [intOf]; omega
    · have HE : Hid (hasB l z = false) := Lib.hid (by have := HA.out; rwa [List.take_of_length_le (by omega)] at this)
      go_wp2
      go_ret
      exact ⟨by rw [HE.out]; rfl, rfl⟩
end Go.Proofs.Ytigeedaihbpjiaa
