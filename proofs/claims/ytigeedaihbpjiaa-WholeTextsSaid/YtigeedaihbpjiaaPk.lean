/-
  Texts with their lengths ahead: plain laws.
-/
import Derived.Test.YtigeedaihbpjiaaNd
import Derived.Test.YtigeedaihbpjiaaUe
import Derived.Test.YtigeedaihbpjiaaPw
namespace Go.Proofs.Ytigeedaihbpjiaa
open Go.RowKit

def okR (r : List Int) : Bool := r.all validI
def goodR (l : List (List Int)) : List (List Int) := l.filter okR
def itemB (r : List Int) : List Nat := putL 9 (textI r).length ++ textI r
def allB (l : List (List Int)) : List Nat := l.flatMap itemB
theorem okR_iff (r : List Int) : okR r = true ↔ ∀ n ∈ r, validI n = true := by unfold okR; simp
theorem take_snocP {α : Type} (l : List α) (k : Nat) (h : k < l.length) : l.take (k + 1) = l.take k ++ [l[k]] := List.take_succ_eq_append_getElem h
theorem goodR_yes {l : List (List Int)} {k : Nat} (h : k < l.length) (hg : okR l[k] = true) : goodR (l.take (k + 1)) = goodR (l.take k) ++ [l[k]] := by
  rw [take_snocP l k h]; unfold goodR; rw [List.filter_append]; simp [hg]
theorem goodR_no {l : List (List Int)} {k : Nat} (h : k < l.length) (hg : okR l[k] = false) : goodR (l.take (k + 1)) = goodR (l.take k) := by
  rw [take_snocP l k h]; unfold goodR; rw [List.filter_append]; simp [hg]
theorem goodR_len (l : List (List Int)) : (goodR l).length ≤ l.length := List.length_filter_le _ _
theorem goodR_mem {l : List (List Int)} {r : List Int} (h : r ∈ goodR l) : r ∈ l ∧ okR r = true := by simpa [goodR] using h
theorem allB_append (a b : List (List Int)) : allB (a ++ b) = allB a ++ allB b := by simp [allB]
theorem allB_one (r : List Int) : allB [r] = itemB r := by simp [allB]
theorem itemB_len {r : List Int} (h : r.length ≤ 100) : 1 ≤ (itemB r).length ∧ (itemB r).length ≤ 410 := by
  have h1 := textI_len r; have h2 := putL_len 9 (textI r).length; have h3 := putL_pos 9 (textI r).length
  unfold itemB; rw [List.length_append]; omega
theorem allB_len {l : List (List Int)} (h : ∀ r ∈ l, r.length ≤ 100) : (allB l).length ≤ 410 * l.length := by
  induction l with
  | nil => simp [allB]
  | cons a l ih =>
    have h1 := (itemB_len (h a (by simp))).2
    have h2 := ih (fun r hr => h r (by simp [hr]))
    have : allB (a :: l) = itemB a ++ allB l := by simp [allB]
    rw [this, List.length_append, List.length_cons]; omega
theorem textI_lt {r : List Int} (h : okR r = true) : AllLt 256 (textI r) := by
  refine textN_lt (fun c hc => ?_)
  obtain ⟨n, hn, rfl⟩ := List.mem_map.1 hc
  have hv := (okR_iff r).1 h n hn
  obtain ⟨c, rfl⟩ : ∃ c : Nat, n = c := ⟨n.toNat, by unfold validI at hv; simp at hv; omega⟩
  exact (validI_nat c).1 hv
theorem AllLt_append {a b : List Nat} (h1 : AllLt 256 a) (h2 : AllLt 256 b) : AllLt 256 (a ++ b) := by
  intro x hx; rcases List.mem_append.1 hx with h | h; exact h1 x h; exact h2 x h
theorem itemB_lt {r : List Int} (h : okR r = true) (hl : r.length ≤ 100) : AllLt 256 (itemB r) :=
  AllLt_append (putL9_all _ (by have := textI_len r; omega)) (textI_lt h)
theorem allB_lt {l : List (List Int)} (h : ∀ r ∈ l, okR r = true ∧ r.length ≤ 100) : AllLt 256 (allB l) := by
  intro x hx
  obtain ⟨r, hr, hx⟩ := List.mem_flatMap.1 hx
  exact itemB_lt (h r hr).1 (h r hr).2 x hx
/-- A number's bytes, cut off, are none. -/
theorem getGo_cut (f k acc m j : Nat) (hf : f + k = 9) (hj : j < (putL f m).length) : getGo k acc ((putL f m).take j) = (0, 0, 4) := by
  induction f generalizing k acc m j with
  | zero =>
    simp [putL] at hj
    subst hj; simp [getGo]
  | succ f ih =>
    cases j with
    | zero => simp [getGo]
    | succ j =>
      by_cases hlt : m < 128
      · rw [putL_lt _ _ hlt] at hj; simp at hj
      · rw [putL_ge _ _ hlt] at hj ⊢
        simp only [List.length_cons] at hj
        simp only [List.take_succ_cons, getGo]
        rw [if_neg (by omega), if_neg (by omega), if_neg (by omega)]
        exact ih (k + 1) _ (m / 128) j (by omega) (by omega)
theorem item_at {l : List (List Int)} {k : Nat} (hk : k < l.length) : (allB l).drop (allB (l.take k)).length = itemB l[k] ++ allB (l.drop (k + 1)) := by
  have h1 : l = l.take k ++ (l[k] :: l.drop (k + 1)) := by rw [← List.drop_eq_getElem_cons hk, List.take_append_drop]
  have h2 : allB l = allB (l.take k) ++ (itemB l[k] ++ allB (l.drop (k + 1))) := by
    have h3 := congrArg allB h1
    rw [allB_append] at h3
    rw [h3]; congr 1
  rw [h2, List.drop_left]
theorem allB_snoc {l : List (List Int)} {k : Nat} (hk : k < l.length) : allB (l.take (k + 1)) = allB (l.take k) ++ itemB l[k] := by
  rw [take_snocP l k hk, allB_append, allB_one]
theorem allB_take_le (l : List (List Int)) (k : Nat) : (allB (l.take k)).length ≤ (allB l).length := by
  conv => rhs; rw [← List.take_append_drop k l, allB_append, List.length_append]
  omega
theorem getL_item {r : List Int} (hl : r.length ≤ 100) (more : List Nat) : getL (itemB r ++ more) = ((textI r).length, (putL 9 (textI r).length).length, 0) := by
  unfold itemB; rw [List.append_assoc]; exact getL_put _ (by have := textI_len r; omega) _
/-- What is read of a whole one. -/
theorem whole_at {l : List (List Int)} (hl : ∀ r ∈ l, r.length ≤ 100) {k T : Nat} (hk : k < l.length) (hT : (allB (l.take (k + 1))).length ≤ T) (hT2 : T ≤ (allB l).length) :
    getL (((allB l).take T).drop (allB (l.take k)).length) = ((textI l[k]).length, (putL 9 (textI l[k]).length).length, 0) ∧
    (((allB l).take T).drop ((allB (l.take k)).length + (putL 9 (textI l[k]).length).length)).take (textI l[k]).length = textI l[k] ∧
    (allB (l.take k)).length + (putL 9 (textI l[k]).length).length + (textI l[k]).length = (allB (l.take (k + 1))).length := by
  have h1 := item_at hk
  have h2 := allB_snoc hk
  have h3 : (allB (l.take (k + 1))).length = (allB (l.take k)).length + (itemB l[k]).length := by rw [h2, List.length_append]
  have h4 : (itemB l[k]).length = (putL 9 (textI l[k]).length).length + (textI l[k]).length := by unfold itemB; rw [List.length_append]
  have h5 : ((allB l).take T).drop (allB (l.take k)).length = itemB l[k] ++ (allB (l.drop (k + 1))).take (T - (allB (l.take k)).length - (itemB l[k]).length) := by
    rw [List.drop_take, h1, List.take_append, List.take_of_length_le (by omega)]
  refine ⟨by rw [h5]; exact getL_item (hl _ (List.getElem_mem hk)) _, ?_, by omega⟩
  rw [← List.drop_drop, h5]
  unfold itemB
  rw [List.append_assoc, List.drop_left, List.take_left]
/-- What is read of one that is cut off. -/
theorem cut_at {l : List (List Int)} (hl : ∀ r ∈ l, r.length ≤ 100) {k T : Nat} (hk : k < l.length) (hT : T < (allB (l.take (k + 1))).length) (hT2 : (allB (l.take k)).length ≤ T) :
    (bytesR (((allB l).take T).drop (allB (l.take k)).length) 1000).1 = 4 := by
  have h1 := item_at hk
  have h2 := allB_snoc hk
  have h3 : (allB (l.take (k + 1))).length = (allB (l.take k)).length + (itemB l[k]).length := by rw [h2, List.length_append]
  have h5 : ((allB l).take T).drop (allB (l.take k)).length = (itemB l[k]).take (T - (allB (l.take k)).length) := by
    rw [List.drop_take, h1, List.take_append_of_le_length (by omega)]
  rw [h5]
  have hj : T - (allB (l.take k)).length < (itemB l[k]).length := by omega
  generalize T - (allB (l.take k)).length = j at *
  have hll := hl _ (List.getElem_mem hk)
  generalize l[k] = r at *
  have htl := textI_len r
  unfold itemB at hj ⊢
  rw [List.length_append] at hj
  by_cases h : j < (putL 9 (textI r).length).length
  · rw [List.take_append_of_le_length (by omega)]
    unfold bytesR getL
    rw [getGo_cut 9 0 0 _ _ rfl h]
    rfl
  · have e : (putL 9 (textI r).length ++ textI r).take j = putL 9 (textI r).length ++ (textI r).take (j - (putL 9 (textI r).length).length) := by
      rw [List.take_append, List.take_of_length_le (by omega)]
    rw [e]
    unfold bytesR
    rw [getL_put _ (by omega)]
    dsimp only
    rw [if_neg (by omega), if_neg (by omega), if_pos (by rw [List.length_append, List.length_take]; omega)]
theorem nats_ints {r : List Int} (h : okR r = true) : natsI (r.map Int.toNat) = r := by
  unfold natsI
  rw [List.map_map]
  conv => rhs; rw [← List.map_id r]
  refine List.map_congr_left (fun n hn => ?_)
  have hv := (okR_iff r).1 h n hn
  unfold validI at hv; simp at hv
  simp; omega
theorem runes_back {r : List Int} (h : okR r = true) : runesR (textI r) = (r, 0, 0) := by
  have hv : ValidAll (r.map Int.toNat) := fun c hc => by
    obtain ⟨n, hn, rfl⟩ := List.mem_map.1 hc
    have hv := (okR_iff r).1 h n hn
    obtain ⟨c, rfl⟩ : ∃ c : Nat, n = c := ⟨n.toNat, by unfold validI at hv; simp at hv; omega⟩
    exact (validI_nat c).1 hv
  unfold runesR textI
  rw [first_ok hv, if_pos (by omega), runes_text hv, nats_ints h]
theorem strCells_u8s (s : ByteArray) : Lib.strCells s = u8s (bsN s) := by simp [Lib.strCells, u8s, bsN]
end Go.Proofs.Ytigeedaihbpjiaa
