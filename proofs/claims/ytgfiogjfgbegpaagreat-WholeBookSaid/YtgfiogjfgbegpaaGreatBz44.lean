/-
  Plain: Diags in order, each once.
-/
import Derived.Test.YtgfiogjfgbegpaaGreatBz9
import Derived.Test.YtgfiogjfgbegpaaGreatBz42
namespace Go.Proofs.YtgfiogjfgbegpaaGreat
open Go Go.RowKit Go.Sort

def StrD (l : List DiagD) : Prop := l.Pairwise fun a b => cmpD a b < 0
theorem strD_uniq : ∀ {l m : List DiagD}, StrD l → StrD m → (∀ x, x ∈ l ↔ x ∈ m) → l = m
  | [], [], _, _, _ => rfl
  | [], b :: m, _, _, h => by have := (h b).2 (by simp); simp at this
  | a :: l, [], _, _, h => by have := (h a).1 (by simp); simp at this
  | a :: l, b :: m, h1, h2, h => by
    unfold StrD at h1 h2
    rw [List.pairwise_cons] at h1 h2
    have hab : a = b := by
      rcases List.mem_cons.1 ((h a).1 (by simp)) with h3 | h3
      · exact h3
      · rcases List.mem_cons.1 ((h b).2 (by simp)) with h4 | h4
        · exact h4.symm
        · have h5 := h2.1 a h3
          have h6 := h1.1 b h4
          have h7 := cmpD_swap a b
          omega
    subst hab
    rw [strD_uniq h1.2 h2.2 fun x => ⟨fun hx => ?_, fun hx => ?_⟩]
    · rcases List.mem_cons.1 ((h x).1 (by simp [hx])) with rfl | h3
      · have := h1.1 x hx; rw [cmpD_refl] at this; omega
      · exact h3
    · rcases List.mem_cons.1 ((h x).2 (by simp [hx])) with rfl | h3
      · have := h2.1 x hx; rw [cmpD_refl] at this; omega
      · exact h3
def insD (x : DiagD) : List DiagD → List DiagD
  | [] => [x]
  | y :: l => if cmpD y x < 0 then y :: insD x l else if y = x then y :: l else x :: y :: l
theorem insD_mem (x : DiagD) : ∀ (l : List DiagD) (z : DiagD), z ∈ insD x l ↔ z = x ∨ z ∈ l
  | [], z => by simp [insD]
  | y :: l, z => by
    unfold insD
    split
    · simp only [List.mem_cons, insD_mem x l z]
      constructor <;> (rintro (h | h | h) <;> simp [h])
    · split
      · rename_i h; subst h; simp
      · simp
theorem insD_str (x : DiagD) : ∀ {l : List DiagD}, StrD l → StrD (insD x l)
  | [], _ => by unfold StrD insD; simp
  | y :: l, h => by
    unfold StrD at h
    have h' := List.pairwise_cons.1 h
    unfold insD
    split
    · rename_i h1
      refine List.pairwise_cons.2 ⟨fun z hz => ?_, insD_str x h'.2⟩
      rcases (insD_mem x l z).1 hz with rfl | hz
      · exact h1
      · exact h'.1 z hz
    · split
      · exact h
      · rename_i h1 h2
        have h3 : cmpD x y < 0 := by
          have h4 := cmpD_swap x y
          have h5 : cmpD x y ≠ 0 := fun e => h2 (cmpD_zero e).symm
          omega
        refine List.pairwise_cons.2 ⟨fun z hz => ?_, h⟩
        rcases List.mem_cons.1 hz with rfl | hz
        · exact h3
        · exact cmpD_trans h3 (h'.1 z hz)
theorem insD_len (x : DiagD) : ∀ (l : List DiagD), (insD x l).length ≤ l.length + 1
  | [] => Nat.le_refl _
  | y :: l => by
    unfold insD
    have := insD_len x l
    split
    · simp; omega
    · split <;> simp
def sortD (l : List DiagD) : List DiagD := l.foldl (fun a x => insD x a) []
theorem sortD_snoc (l : List DiagD) (x : DiagD) : sortD (l ++ [x]) = insD x (sortD l) := by
  unfold sortD; rw [List.foldl_append]; rfl
theorem sortD_str (l : List DiagD) : StrD (sortD l) := by
  induction l using snocRec with
  | h0 => exact .nil
  | h1 l y ih => rw [sortD_snoc]; exact insD_str y ih
theorem sortD_mem (l : List DiagD) : ∀ x, x ∈ sortD l ↔ x ∈ l := by
  induction l using snocRec with
  | h0 => intro x; rfl
  | h1 l y ih => intro x; rw [sortD_snoc, insD_mem, ih]; simp [or_comm]
theorem sortD_len (l : List DiagD) : (sortD l).length ≤ l.length := by
  induction l using snocRec with
  | h0 => exact Nat.le_refl _
  | h1 l y ih => rw [sortD_snoc]; have := insD_len y (sortD l); simp; omega
theorem sortD_of {l m : List DiagD} (h1 : StrD m) (h2 : ∀ x, x ∈ m ↔ x ∈ l) : m = sortD l :=
  strD_uniq h1 (sortD_str l) fun x => by rw [h2, sortD_mem]
theorem sortD_congr {l m : List DiagD} (h : ∀ x, x ∈ l ↔ x ∈ m) : sortD l = sortD m :=
  strD_uniq (sortD_str l) (sortD_str m) fun x => by rw [sortD_mem, sortD_mem, h]
theorem sorted_is {l : List DiagD} {d' : Array DiagD} (hp : PermIn 0 (onceL l).toArray.size (onceL l).toArray d') (hs : SortedIn (Go.Proofs.ltOf cmpD) 0 (onceL l).toArray.size d') : d'.toList = sortD l := by
  obtain ⟨h1, -, h3⟩ := hp
  have h4 : d'.toList.Perm (onceL l) := by
    have e1 : (d'.extract 0 (onceL l).toArray.size) = d' := by rw [← h1]; simp
    have e2 : ((onceL l).toArray.extract 0 (onceL l).toArray.size) = (onceL l).toArray := by simp
    rw [e1, e2] at h3
    exact h3
  have h5 : d'.toList.Nodup := h4.nodup_iff.2 (onceL_nodup l)
  refine sortD_of (List.pairwise_iff_getElem.2 fun i j hi hj hij => ?_) fun x => by rw [h4.mem_iff, onceL_mem]
  have hi' : i < d'.size := by simpa using hi
  have hj' : j < d'.size := by simpa using hj
  have h6 := hs i j (Nat.zero_le _) hij (by rw [← h1]; exact hj')
  unfold Go.Proofs.ltOf at h6
  simp only [decide_eq_false_iff_not, getElem!_pos d' i hi', getElem!_pos d' j hj'] at h6
  have h7 := cmpD_swap d'[i] d'[j]
  have h8 : cmpD d'[i] d'[j] ≠ 0 := fun e => by
    have h9 := cmpD_zero e
    have h10 := List.pairwise_iff_getElem.1 h5 i j hi hj hij
    simp only [Array.getElem_toList] at h10
    exact h10 h9
  simp only [Array.getElem_toList]
  omega
end Go.Proofs.YtgfiogjfgbegpaaGreat
