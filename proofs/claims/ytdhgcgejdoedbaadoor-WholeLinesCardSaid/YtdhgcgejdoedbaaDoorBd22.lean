/-
  block.Copy, def.tree: contracts.
-/
import Derived.Test.YtdhgcgejdoedbaaDoorBd18
import Derived.Test.YtdhgcgejdoedbaaDoorBd20
namespace Go.Proofs.YtdhgcgejdoedbaaDoor
open Go Go.RowKit Go.WideShapes

def sName : ByteArray := { data := #[110, 97, 109, 101] }
def sAction : ByteArray := { data := #[97, 99, 116, 105, 111, 110] }
def sUndo : ByteArray := { data := #[117, 110, 100, 111] }
def sAfter : ByteArray := { data := #[97, 102, 116, 101, 114] }
def sRetry : ByteArray := { data := #[114, 101, 116, 114, 121] }
def sLimit : ByteArray := { data := #[108, 105, 109, 105, 116] }
def sNote : ByteArray := { data := #[110, 111, 116, 101] }
def sSaga : ByteArray := { data := #[115, 97, 103, 97] }
def sText : ByteArray := { data := #[116, 101, 120, 116] }
def sSteps : ByteArray := { data := #[115, 116, 101, 112, 115] }
def hasUndo (s : StepD) : Bool := !s.undo.toList.isEmpty
def hasAfter (s : StepD) : Bool := decide (0 < s.after.length)
def hasRetry (s : StepD) : Bool := !((s.most == 0 && s.first == 0) && s.factor == 0)
def hasLimit (s : StepD) : Bool := s.limit != 0
def hasNote (s : StepD) : Bool := !noneT s.note
def stepKs (s : StepD) : List ByteArray := consIf (hasNote s) (consIf (hasLimit s) (consIf (hasRetry s) (consIf (hasAfter s) (consIf (hasUndo s) [sName, sAction] sUndo) sAfter) sRetry) sLimit) sNote
def stepCs (s : StepD) : List Tree := consIf (hasNote s) (consIf (hasLimit s) (consIf (hasRetry s) (consIf (hasAfter s) (consIf (hasUndo s) [scalarT s.name, scalarT s.action] (scalarT s.undo)) (seqT (s.after.map scalarT))) (retryT s.most s.first s.factor)) (numT s.limit)) s.note
theorem heldN3 {W W' : World} {p q r : Addr} {a b c : Value} (h : W.cell? p = some a ∧ W.cell? q = some b ∧ W.cell? r = some c) (hb : Below W.heap.size W W') : W'.cell? p = some a ∧ W'.cell? q = some b ∧ W'.cell? r = some c := ⟨cellB hb h.1, cellB hb h.2.1, cellB hb h.2.2⟩
theorem heldN5 {W W' : World} {p q r s u : Addr} {a b c d e : Value} (h : W.cell? p = some a ∧ W.cell? q = some b ∧ W.cell? r = some c ∧ W.cell? s = some d ∧ W.cell? u = some e) (hb : Below W.heap.size W W') : W'.cell? p = some a ∧ W'.cell? q = some b ∧ W'.cell? r = some c ∧ W'.cell? s = some d ∧ W'.cell? u = some e := ⟨cellB hb h.1, cellB hb h.2.1, cellB hb h.2.2.1, cellB hb h.2.2.2.1, cellB hb h.2.2.2.2⟩
theorem consIf_le {α : Type} {b : Bool} {l : List α} {x : α} {n : Nat} (h : l.length ≤ n) : (consIf b l x).length ≤ n + 1 := by have := consIf_len b l x; omega
theorem hasRetry_ifs (s : StepD) (w : World) : (if s.most = 0 then if s.first = 0 then if s.factor = 0 then Result.ok (Next.value (Value.bool false)) w else Result.ok (Next.value (Value.bool true)) w else Result.ok (Next.value (Value.bool true)) w else Result.ok (Next.value (Value.bool true)) w) = Result.ok (Next.value (.bool (hasRetry s))) w := by
  unfold hasRetry
  by_cases h1 : s.most = 0 <;> by_cases h2 : s.first = 0 <;> by_cases h3 : s.factor = 0 <;> simp [h1, h2, h3]
/-- A step's tree. -/
def stepT (s : StepD) : Tree := mapT (stepKs s) (stepCs s)

end Go.Proofs.YtdhgcgejdoedbaaDoor

/-
  def.Tree: contract.
-/
namespace Go.Proofs.YtdhgcgejdoedbaaDoor
open Go Go.RowKit Go.WideShapes

/-- What a builder may write: its two blocks, and those that came before. -/
def Zb (lo N B0 g : Nat) : Prop := g < lo ∨ N ≤ g ∧ g < B0
def hasText (d : DefD) : Bool := !d.text.toList.isEmpty
def defKs (d : DefD) : List ByteArray := consIf (hasText d) [sSaga] sText ++ [sSteps]
def defCs (d : DefD) : List Tree := consIf (hasText d) [scalarT d.name] (scalarT d.text) ++ [seqT (d.steps.map stepT)]
/-- A definition's tree. -/
def defT (d : DefD) : Tree := mapT (defKs d) (defCs d)
theorem held14 {W W' : World} {p : Addr} {g : Nat} {v c0 c1 c2 c3 c4 c5 c6 c7 c8 c9 c10 c11 c12 : Value} (h : W.cell? p = some v ∧ W.cell? ⟨g, 0, none⟩ = some c0 ∧ W.cell? ⟨g, 1, none⟩ = some c1 ∧ W.cell? ⟨g, 2, none⟩ = some c2 ∧ W.cell? ⟨g, 3, none⟩ = some c3 ∧ W.cell? ⟨g, 4, none⟩ = some c4 ∧ W.cell? ⟨g, 5, none⟩ = some c5 ∧ W.cell? ⟨g, 6, none⟩ = some c6 ∧ W.cell? ⟨g, 7, none⟩ = some c7 ∧ W.cell? ⟨g, 8, none⟩ = some c8 ∧ W.cell? ⟨g, 9, none⟩ = some c9 ∧ W.cell? ⟨g, 10, none⟩ = some c10 ∧ W.cell? ⟨g, 11, none⟩ = some c11 ∧ W.cell? ⟨g, 12, none⟩ = some c12) (hb : Below W.heap.size W W') : W'.cell? p = some v ∧ W'.cell? ⟨g, 0, none⟩ = some c0 ∧ W'.cell? ⟨g, 1, none⟩ = some c1 ∧ W'.cell? ⟨g, 2, none⟩ = some c2 ∧ W'.cell? ⟨g, 3, none⟩ = some c3 ∧ W'.cell? ⟨g, 4, none⟩ = some c4 ∧ W'.cell? ⟨g, 5, none⟩ = some c5 ∧ W'.cell? ⟨g, 6, none⟩ = some c6 ∧ W'.cell? ⟨g, 7, none⟩ = some c7 ∧ W'.cell? ⟨g, 8, none⟩ = some c8 ∧ W'.cell? ⟨g, 9, none⟩ = some c9 ∧ W'.cell? ⟨g, 10, none⟩ = some c10 ∧ W'.cell? ⟨g, 11, none⟩ = some c11 ∧ W'.cell? ⟨g, 12, none⟩ = some c12 :=
  ⟨cellB hb h.1, cellB hb h.2.1, cellB hb h.2.2.1, cellB hb h.2.2.2.1, cellB hb h.2.2.2.2.1, cellB hb h.2.2.2.2.2.1, cellB hb h.2.2.2.2.2.2.1, cellB hb h.2.2.2.2.2.2.2.1, cellB hb h.2.2.2.2.2.2.2.2.1, cellB hb h.2.2.2.2.2.2.2.2.2.1, cellB hb h.2.2.2.2.2.2.2.2.2.2.1, cellB hb h.2.2.2.2.2.2.2.2.2.2.2.1, cellB hb h.2.2.2.2.2.2.2.2.2.2.2.2.1, cellB hb h.2.2.2.2.2.2.2.2.2.2.2.2.2⟩

end Go.Proofs.YtdhgcgejdoedbaaDoor

/-
  Plain: the tree of a definition that may be, is one that may be; like definitions have like trees (no program).
-/
namespace Go.Proofs.YtdhgcgejdoedbaaDoor
open Go Go.RowKit

theorem c64_4096 {s : ByteArray} (h : c64 s = 0) : checkN (bsN s) 4096 = 0 := by
  unfold c64 at h
  unfold checkN at h ⊢
  split at h
  · cases h
  · rw [if_neg (by omega)]; exact h
theorem enc_ascii {l : List Nat} (h : ∀ b ∈ l, b < 128) : textN l = l := by
  induction l with
  | nil => rfl
  | cons a l ih => rw [textN_cons, ih (fun b hb => h b (List.mem_cons_of_mem _ hb)), encN, if_pos (h a (List.mem_cons_self ..))]; rfl
theorem valid_ascii {l : List Nat} (h : ∀ b ∈ l, b < 128) : ValidAll l := fun c hc => by have := h c hc; unfold validN; omega
theorem check_ascii {l : List Nat} (h : ∀ b ∈ l, b < 128) {most : Int} (hm : (l.length : Int) ≤ most) : checkN l most = 0 := by
  unfold checkN
  have := first_ok (valid_ascii h) 0
  rw [enc_ascii h] at this
  rw [if_neg (by omega), if_pos (by omega)]
theorem digS_check (n : Int) : checkN (bsN (digS n)) 4096 = 0 := by
  refine check_ascii (fun b hb => ?_) (by rw [bsN_len]; have := digS_size n; omega)
  unfold digS at hb
  split at hb
  · rw [bsN_mkS (digN_lt _)] at hb
    have := digN_all _ b hb; omega
  · simp [bsN] at hb

theorem rcheckTs_all {lev : Nat} {l : List Tree} (h : ∀ x ∈ l, rcheckT lev x = 0) : rcheckTs lev l = 0 := by
  induction l with
  | nil => rfl
  | cons a l ih => rw [rcheckTs, if_pos (h a (List.mem_cons_self ..))]; exact ih fun x hx => h x (List.mem_cons_of_mem _ hx)
theorem rcheckTs_mem {lev : Nat} {l : List Tree} (h : rcheckTs lev l = 0) : ∀ x ∈ l, rcheckT lev x = 0 := by
  induction l with
  | nil => intro x hx; cases hx
  | cons a l ih =>
    rw [rcheckTs] at h
    split at h
    · rename_i h0
      intro x hx
      rcases List.mem_cons.1 hx with rfl | hx
      · exact h0
      · exact ih h x hx
    · exact absurd h (by assumption)
theorem rcheck_mk {lev k : Nat} {t : ByteArray} {ks : List ByteArray} {kids : List Tree} {l : Int} (hn : nodeC lev (.mk k t ks kids l) = 0) (hk : ∀ x ∈ kids, rcheckT (lev + 1) x = 0) : rcheckT lev (.mk k t ks kids l) = 0 := by
  rw [rcheckT, if_pos hn]; exact rcheckTs_all hk
theorem nodeC_lev {lev lev' : Nat} {x : Tree} (h : nodeC lev x = 0) (h' : lev' ≤ 16) : nodeC lev' x = 0 := by
  unfold nodeC at h ⊢
  split at h
  · cases h
  · rw [if_neg (by omega)]; exact h
theorem depthTs_lim {n m : Nat} {l : List Tree} : depthTs n l ≤ m ↔ ∀ x ∈ l, depthT n x ≤ m := by
  induction l with
  | nil => simp [depthTs]
  | cons a l ih => rw [depthTs]; simp only [List.mem_cons, forall_eq_or_imp, ← ih]; omega
theorem depthT_mono : ∀ (x : Tree) (n n' : Nat), n ≤ n' → depthT n x ≤ depthT n' x := by
  refine Tree.ind fun k t ks kids l ih n n' hn => ?_
  cases n with
  | zero => rw [depthT]; omega
  | succ n =>
    obtain ⟨m, rfl⟩ : ∃ m, n' = m + 1 := ⟨n' - 1, by omega⟩
    rw [depthT, depthT]
    have hmm : n ≤ m := by omega
    have : depthTs n kids ≤ depthTs m kids := depthTs_lim.2 fun x hx => Nat.le_trans (ih x hx n m hmm) (depthTs_lim.1 (Nat.le_refl _) x hx)
    omega
theorem rcheck_lev : ∀ (x : Tree) (lev lev' n m : Nat), rcheckT lev x = 0 → depthT n x ≤ m → m < n → lev' + m ≤ 17 → rcheckT lev' x = 0 := by
  refine Tree.ind fun k t ks kids l ih lev lev' n m h hd hm hl => ?_
  obtain ⟨n, rfl⟩ : ∃ p, n = p + 1 := ⟨n - 1, by omega⟩
  rw [depthT] at hd
  rw [rcheckT] at h
  split at h
  · rename_i h0
    refine rcheck_mk (nodeC_lev h0 (by omega)) fun x hx => ?_
    exact ih x hx (lev + 1) (lev' + 1) n (m - 1) (rcheckTs_mem h x hx) (depthTs_lim.1 (show depthTs n kids ≤ m - 1 by omega) x hx) (by omega) (by omega)
  · exact absurd h (by assumption)

theorem mem_consIf {α : Type} {b : Bool} {l : List α} {x y : α} (h : y ∈ consIf b l x) : y ∈ l ∨ (b = true ∧ y = x) := by
  unfold consIf at h
  split at h
  · rcases List.mem_append.1 h with h | h
    · exact .inl h
    · exact .inr ⟨by assumption, List.mem_singleton.1 h⟩
  · exact .inl h
theorem consIf_lens {α β : Type} (b : Bool) {l : List α} {m : List β} (x : α) (y : β) (h : l.length = m.length) : (consIf b l x).length = (consIf b m y).length := by
  cases b <;> simp [consIf, h]
theorem stepKs_keys (s : StepD) : keysC (stepKs s) = 0 := by
  unfold stepKs
  generalize hasNote s = b1
  generalize hasLimit s = b2
  generalize hasRetry s = b3
  generalize hasAfter s = b4
  generalize hasUndo s = b5
  revert b1 b2 b3 b4 b5
  decide +kernel
theorem defKs_keys (d : DefD) : keysC (defKs d) = 0 := by
  unfold defKs
  generalize hasText d = b1
  revert b1
  decide +kernel
theorem step_lens (s : StepD) : (stepKs s).length = (stepCs s).length :=
  consIf_lens _ _ _ (consIf_lens _ _ _ (consIf_lens _ _ _ (consIf_lens _ _ _ (consIf_lens _ _ _ rfl))))
theorem def_lens (d : DefD) : (defKs d).length = (defCs d).length := by
  unfold defKs defCs
  rw [List.length_append, List.length_append, consIf_lens (hasText d) sText (scalarT d.text) (l := [sSaga]) (m := [scalarT d.name]) rfl]; rfl

theorem scalar_check {s : ByteArray} {lev : Nat} (hl : lev ≤ 16) (h : checkN (bsN s) 4096 = 0) : rcheckT lev (scalarT s) = 0 := by
  refine rcheck_mk ?_ fun x hx => by cases hx
  rw [nodeC, if_neg (by omega), if_neg (by simp [Tree.kind]), if_neg (by simp [oddT]), if_pos (by exact h)]; rfl
theorem empty_check : checkN (bsN { data := #[] }) 4096 = 0 := by decide +kernel
theorem map_check {ks : List ByteArray} {kids : List Tree} {lev : Nat} (hl : lev ≤ 16) (hk : keysC ks = 0) (hlen : ks.length = kids.length) (h : ∀ x ∈ kids, rcheckT (lev + 1) x = 0) : rcheckT lev (mapT ks kids) = 0 := by
  refine rcheck_mk ?_ h
  have e := empty_check
  rw [nodeC, if_neg (by omega), if_neg (by simp [Tree.kind]), if_neg (by simp [oddT, hlen, ByteArray.size]), if_pos (by exact e)]; exact hk
theorem seq_check {kids : List Tree} {lev : Nat} (hl : lev ≤ 16) (h : ∀ x ∈ kids, rcheckT (lev + 1) x = 0) : rcheckT lev (seqT kids) = 0 := by
  refine rcheck_mk ?_ h
  have e := empty_check
  rw [nodeC, if_neg (by omega), if_neg (by simp [Tree.kind]), if_neg (by simp [oddT, ByteArray.size]), if_pos (by exact e)]; rfl
theorem retryKs_keys : keysC [sMost, sFirst, sFactor] = 0 := by decide +kernel
theorem textsC_mem {l : List ByteArray} (h : textsC l = 0) : ∀ s ∈ l, c64 s = 0 := fun s hs => firstNZ_zero.1 h _ (List.mem_map.2 ⟨s, hs, rfl⟩)

/-- What it is for a step to be right. -/
structure StepFine (s : StepD) : Prop where
  texts : ∀ x ∈ [s.name, s.action, s.undo], c64 x = 0
  after : ∀ x ∈ s.after, c64 x = 0
  fits : fitsB [s.most, s.first, s.factor, s.limit] = true
  note : noneT s.note = true ∨ (checkT s.note = 0 ∧ depthT 18 s.note ≤ 13)
theorem stepC_fine {s : StepD} (h : stepC s = 0) : StepFine s := by
  unfold stepC at h
  split at h
  · rename_i h1; exact absurd h h1
  · rename_i h1
    split at h
    · cases h
    · split at h
      · rename_i h2; exact absurd h h2
      · rename_i h2
        split at h
        · cases h
        · rename_i h3
          refine ⟨textsC_mem (by omega), textsC_mem (by omega), by simpa using h3, ?_⟩
          split at h
          · exact .inl (by assumption)
          · split at h
            · rename_i h4; exact absurd h h4
            · split at h
              · cases h
              · exact .inr ⟨by omega, by omega⟩
theorem stepsC_zero : ∀ {l : List StepD} {i : Nat}, stepsC l i = (0, 0) → ∀ s ∈ l, stepC s = 0
  | [], _, _, s, hs => by cases hs
  | a :: l, i, h, s, hs => by
    rw [stepsC] at h
    split at h
    · rename_i h0
      rcases List.mem_cons.1 hs with rfl | hs
      · exact h0
      · exact stepsC_zero h s hs
    · rename_i h0; exact absurd (congrArg Prod.fst h) h0
structure DefFine (d : DefD) : Prop where
  name : c64 d.name = 0
  text : checkN (bsN d.text) 4096 = 0
  steps : ∀ s ∈ d.steps, StepFine s
theorem stepsC_fst {l : List StepD} : ∀ {i : Nat}, (stepsC l i).1 = 0 → stepsC l i = (0, 0) := by
  induction l with
  | nil => intro i _; rfl
  | cons a l ih =>
    intro i h
    rw [stepsC] at h ⊢
    split at h
    · rw [if_pos (by assumption)]; exact ih h
    · exact absurd h (by assumption)
theorem defC_fine {d : DefD} (h : (defC d).1 = 0) : DefFine d := by
  unfold defC at h
  split at h
  · rename_i h1; exact absurd h h1
  · split at h
    · rename_i h1; exact absurd h h1
    · split at h
      · cases h
      · exact ⟨by omega, by omega, fun s hs => stepC_fine (stepsC_zero (stepsC_fst h) s hs)⟩

theorem stepCs_mem {s : StepD} {x : Tree} (h : x ∈ stepCs s) : x = scalarT s.name ∨ x = scalarT s.action ∨ x = scalarT s.undo ∨ x = seqT (s.after.map scalarT) ∨ x = retryT s.most s.first s.factor ∨ x = numT s.limit ∨ (noneT s.note = false ∧ x = s.note) := by
  unfold stepCs at h
  rcases mem_consIf h with h | ⟨h1, rfl⟩
  · rcases mem_consIf h with h | ⟨-, rfl⟩
    · rcases mem_consIf h with h | ⟨-, rfl⟩
      · rcases mem_consIf h with h | ⟨-, rfl⟩
        · rcases mem_consIf h with h | ⟨-, rfl⟩
          · simp at h; rcases h with rfl | rfl <;> simp
          · simp
        · simp
      · simp
    · simp
  · unfold hasNote at h1; simp at h1; simp [h1]
theorem stepT_check {s : StepD} (h : StepFine s) : rcheckT 3 (stepT s) = 0 := by
  refine map_check (by omega) (stepKs_keys s) (step_lens s) fun x hx => ?_
  rcases stepCs_mem hx with rfl | rfl | rfl | rfl | rfl | rfl | ⟨hn, rfl⟩
  · exact scalar_check (by omega) (c64_4096 (h.texts _ (by simp)))
  · exact scalar_check (by omega) (c64_4096 (h.texts _ (by simp)))
  · exact scalar_check (by omega) (c64_4096 (h.texts _ (by simp)))
  · refine seq_check (by omega) fun x hx => ?_
    obtain ⟨a, ha, rfl⟩ := List.mem_map.1 hx
    exact scalar_check (by omega) (c64_4096 (h.after a ha))
  · refine map_check (by omega) retryKs_keys rfl fun x hx => ?_
    simp at hx
    rcases hx with rfl | rfl | rfl <;> exact scalar_check (by omega) (digS_check _)
  · exact scalar_check (by omega) (digS_check _)
  · rcases h.note with h1 | ⟨h1, h2⟩
    · rw [hn] at h1; cases h1
    · rw [← rcheckT_check] at h1
      exact rcheck_lev _ 1 4 18 13 h1 h2 (by omega) (by omega)
theorem defCs_mem {d : DefD} {x : Tree} (h : x ∈ defCs d) : x = scalarT d.name ∨ x = scalarT d.text ∨ x = seqT (d.steps.map stepT) := by
  unfold defCs at h
  rcases List.mem_append.1 h with h | h
  · rcases mem_consIf h with h | ⟨-, rfl⟩
    · simp at h; simp [h]
    · simp
  · simp at h; simp [h]
/-- The tree of a definition that may be, may be. -/
theorem defT_check {d : DefD} (h : DefFine d) : checkT (defT d) = 0 := by
  rw [← rcheckT_check]
  refine map_check (by omega) (defKs_keys d) (def_lens d) fun x hx => ?_
  rcases defCs_mem hx with rfl | rfl | rfl
  · exact scalar_check (by omega) (c64_4096 h.name)
  · exact scalar_check (by omega) h.text
  · refine seq_check (by omega) fun x hx => ?_
    obtain ⟨s, hs, rfl⟩ := List.mem_map.1 hx
    exact stepT_check (h.steps s hs)

theorem depth_mk {n m k : Nat} {t : ByteArray} {ks : List ByteArray} {kids : List Tree} {l : Int} (h : ∀ x ∈ kids, depthT n x ≤ m) : depthT (n + 1) (.mk k t ks kids l) ≤ m + 1 := by
  rw [depthT]; have := depthTs_lim.2 h; omega
theorem depth_scalar (n : Nat) (s : ByteArray) : depthT n (scalarT s) ≤ 1 := by
  cases n with
  | zero => simp [depthT]
  | succ n => exact depth_mk fun x hx => by cases hx
theorem stepT_depth {s : StepD} (h : StepFine s) : depthT 16 (stepT s) ≤ 14 := by
  refine depth_mk (n := 15) (m := 13) fun x hx => ?_
  rcases stepCs_mem hx with rfl | rfl | rfl | rfl | rfl | rfl | ⟨hn, rfl⟩
  · exact Nat.le_trans (depth_scalar _ _) (by omega)
  · exact Nat.le_trans (depth_scalar _ _) (by omega)
  · exact Nat.le_trans (depth_scalar _ _) (by omega)
  · refine Nat.le_trans (depth_mk (n := 14) (m := 1) fun x hx => ?_) (by omega)
    obtain ⟨a, ha, rfl⟩ := List.mem_map.1 hx
    exact depth_scalar _ _
  · refine Nat.le_trans (depth_mk (n := 14) (m := 1) fun x hx => ?_) (by omega)
    simp at hx
    rcases hx with rfl | rfl | rfl <;> exact depth_scalar _ _
  · exact Nat.le_trans (depth_scalar _ _) (by omega)
  · rcases h.note with h1 | ⟨-, h2⟩
    · rw [hn] at h1; cases h1
    · exact Nat.le_trans (depthT_mono _ 15 18 (by omega)) h2
theorem defT_depth {d : DefD} (h : DefFine d) : depthT 18 (defT d) ≤ 16 := by
  refine depth_mk (n := 17) (m := 15) fun x hx => ?_
  rcases defCs_mem hx with rfl | rfl | rfl
  · exact Nat.le_trans (depth_scalar _ _) (by omega)
  · exact Nat.le_trans (depth_scalar _ _) (by omega)
  · refine depth_mk (n := 16) (m := 14) fun x hx => ?_
    obtain ⟨s, hs, rfl⟩ := List.mem_map.1 hx
    exact stepT_depth (h.steps s hs)

theorem small_scalar {n : Nat} {s : ByteArray} (h : s.size ≤ 5000) : SmallP (n + 1) (scalarT s) := .mk h (by simp) (fun s hs => by cases hs) (fun x hx => by cases hx) (by simp)
theorem keys200 {ks : List ByteArray} (h : ks.all (fun s => decide (s.size ≤ 200)) = true) : ∀ s ∈ ks, s.size ≤ 200 := fun s hs => by simpa using List.all_eq_true.1 h s hs
theorem stepKs_small (s : StepD) : (stepKs s).all (fun s => decide (s.size ≤ 200)) = true ∧ (stepKs s).length ≤ 7 := by
  unfold stepKs
  generalize hasNote s = b1
  generalize hasLimit s = b2
  generalize hasRetry s = b3
  generalize hasAfter s = b4
  generalize hasUndo s = b5
  revert b1 b2 b3 b4 b5
  decide +kernel
theorem defKs_small (d : DefD) : (defKs d).all (fun s => decide (s.size ≤ 200)) = true ∧ (defKs d).length ≤ 3 := by
  unfold defKs
  generalize hasText d = b1
  revert b1
  decide +kernel
theorem small_seq {n : Nat} {kids : List Tree} (h : ∀ x ∈ kids, SmallP n x) (hl : kids.length ≤ 150) : SmallP (n + 1) (seqT kids) := .mk (by decide) (by simp) (fun s hs => by cases hs) h hl
theorem stepT_small {s : StepD} (h : SmallS s) : SmallP 19 (stepT s) := by
  have hk := stepKs_small s
  have hl := step_lens s
  refine .mk (by decide) (by omega) (keys200 hk.1) (fun x hx => ?_) (by omega)
  rcases stepCs_mem hx with rfl | rfl | rfl | rfl | rfl | rfl | ⟨hn, rfl⟩
  · exact small_scalar (by have := h.name; omega)
  · exact small_scalar (by have := h.action; omega)
  · exact small_scalar (by have := h.undo; omega)
  · refine small_seq (n := 17) (fun x hx => ?_) (by have := h.after; simp; omega)
    obtain ⟨a, ha, rfl⟩ := List.mem_map.1 hx
    exact small_scalar (by have := h.aft a ha; omega)
  · refine .mk (n := 17) (by decide) (by decide) (keys200 (by decide +kernel)) (fun x hx => ?_) (by simp)
    simp at hx
    rcases hx with rfl | rfl | rfl <;> exact small_scalar (by have := digS_size s.most; have := digS_size s.first; have := digS_size s.factor; omega)
  · exact small_scalar (by have := digS_size s.limit; omega)
  · exact h.note
theorem defT_small {d : DefD} (h : SmallD d) : SmallP 21 (defT d) := by
  have hk := defKs_small d
  have hl := def_lens d
  refine .mk (by decide) (by omega) (keys200 hk.1) (fun x hx => ?_) (by omega)
  rcases defCs_mem hx with rfl | rfl | rfl
  · exact small_scalar (by have := h.name; omega)
  · exact small_scalar (by have := h.text; omega)
  · refine small_seq (n := 19) (fun x hx => ?_) (by have := h.steps; simp; omega)
    obtain ⟨s, hs, rfl⟩ := List.mem_map.1 hx
    exact stepT_small (h.each s hs)

/-- Are steps alike? -/
def sameS (s t : StepD) : Bool := decide (s.name = t.name) && decide (s.action = t.action) && decide (s.undo = t.undo) && decide (s.after = t.after) && (decide (s.most = t.most) && decide (s.first = t.first) && decide (s.factor = t.factor)) && decide (s.limit = t.limit) && sameT s.note t.note
def sameSs : List StepD → List StepD → Bool
  | [], [] => true
  | a :: l, b :: m => sameS a b && sameSs l m
  | [], _ :: _ => false
  | _ :: _, [] => false
def sameD (a b : DefD) : Bool := decide (a.name = b.name) && decide (a.text = b.text) && sameSs a.steps b.steps
theorem sameS_refl (s : StepD) : sameS s s = true := by simp [sameS, sameT_refl]
theorem sameSs_refl : ∀ l, sameSs l l = true
  | [] => rfl
  | a :: l => by simp [sameSs, sameS_refl, sameSs_refl l]
theorem sameD_refl (d : DefD) : sameD d d = true := by simp [sameD, sameSs_refl]
theorem sameS_symm (s t : StepD) : sameS s t = sameS t s := by
  have h1 : decide (s.name = t.name) = decide (t.name = s.name) := decide_eq_decide.2 eq_comm
  have h2 : decide (s.action = t.action) = decide (t.action = s.action) := decide_eq_decide.2 eq_comm
  have h3 : decide (s.undo = t.undo) = decide (t.undo = s.undo) := decide_eq_decide.2 eq_comm
  have h4 : decide (s.after = t.after) = decide (t.after = s.after) := decide_eq_decide.2 eq_comm
  have h5 : decide (s.most = t.most) = decide (t.most = s.most) := decide_eq_decide.2 eq_comm
  have h6 : decide (s.first = t.first) = decide (t.first = s.first) := decide_eq_decide.2 eq_comm
  have h7 : decide (s.factor = t.factor) = decide (t.factor = s.factor) := decide_eq_decide.2 eq_comm
  have h8 : decide (s.limit = t.limit) = decide (t.limit = s.limit) := decide_eq_decide.2 eq_comm
  unfold sameS
  rw [h1, h2, h3, h4, h5, h6, h7, h8, sameT_symm s.note]
theorem sameSs_iff : ∀ {l m : List StepD}, sameSs l m = true ↔ l.length = m.length ∧ ∀ (i : Nat) (a b : StepD), l[i]? = some a → m[i]? = some b → sameS a b = true
  | [], [] => by simp [sameSs]
  | a :: l, b :: m => by
    simp only [sameSs, Bool.and_eq_true, List.length_cons, Nat.add_right_cancel_iff]
    rw [sameSs_iff]
    constructor
    · rintro ⟨h1, h2, h3⟩
      refine ⟨h2, fun i x y hx hy => ?_⟩
      cases i with
      | zero => simp at hx hy; subst hx hy; exact h1
      | succ i => exact h3 i x y (by simpa using hx) (by simpa using hy)
    · rintro ⟨h2, h3⟩
      exact ⟨h3 0 a b rfl rfl, h2, fun i x y hx hy => h3 (i + 1) x y (by simpa using hx) (by simpa using hy)⟩
  | [], _ :: _ => by simp [sameSs]
  | _ :: _, [] => by simp [sameSs]
theorem sameTs_snoc {l m : List Tree} {x y : Tree} (h : sameTs l m = true) (hx : sameT x y = true) : sameTs (l ++ [x]) (m ++ [y]) = true := by
  induction l generalizing m with
  | nil =>
    cases m with
    | nil => simp [sameTs, hx]
    | cons b m => simp [sameTs] at h
  | cons a l ih =>
    cases m with
    | nil => simp [sameTs] at h
    | cons b m =>
      simp only [sameTs, Bool.and_eq_true, List.cons_append] at h ⊢
      exact ⟨h.1, ih h.2⟩
theorem sameTs_consIf {b : Bool} {l m : List Tree} {x y : Tree} (h : sameTs l m = true) (hx : sameT x y = true) : sameTs (consIf b l x) (consIf b m y) = true := by
  cases b with
  | false => exact h
  | true => exact sameTs_snoc h hx
theorem noneT_like {x y : Tree} (h : sameT x y = true) : noneT x = noneT y := by
  obtain ⟨k, t, ks, kids, l⟩ := x
  obtain ⟨k', t', ks', kids', l'⟩ := y
  simp only [sameT, Bool.and_eq_true, decide_eq_true_eq] at h
  obtain ⟨⟨⟨rfl, rfl⟩, rfl⟩, h4⟩ := h
  have := sameTs_len h4
  exact congrArg (fun b => (decide (k = 0) && decide (t.size = 0) && decide (ks.length = 0) && b)) (show decide (kids.length = 0) = decide (kids'.length = 0) by rw [this])
theorem sameS_trees {s t : StepD} (h : sameS s t = true) : sameT (stepT s) (stepT t) = true := by
  simp only [sameS, Bool.and_eq_true, decide_eq_true_eq] at h
  obtain ⟨⟨⟨⟨⟨⟨h1, h2⟩, h3⟩, h4⟩, ⟨h5, h6⟩, h7⟩, h8⟩, h9⟩ := h
  have e1 : hasNote s = hasNote t := by unfold hasNote; rw [noneT_like h9]
  have e2 : hasLimit s = hasLimit t := by unfold hasLimit; rw [h8]
  have e3 : hasRetry s = hasRetry t := by unfold hasRetry; rw [h5, h6, h7]
  have e4 : hasAfter s = hasAfter t := by unfold hasAfter; rw [h4]
  have e5 : hasUndo s = hasUndo t := by unfold hasUndo; rw [h3]
  have ek : stepKs s = stepKs t := by unfold stepKs; rw [e1, e2, e3, e4, e5]
  unfold stepT mapT
  simp only [sameT, ek, decide_true, Bool.true_and]
  unfold stepCs
  rw [e1, e2, e3, e4, e5, h1, h2, h3, h4, h5, h6, h7, h8]
  exact sameTs_consIf (sameTs_iff.2 ⟨rfl, fun i a b ha hb => by rw [ha] at hb; cases hb; exact sameT_refl a⟩) h9
theorem sameSs_trees : ∀ {l m : List StepD}, sameSs l m = true → sameTs (l.map stepT) (m.map stepT) = true
  | [], [], _ => rfl
  | a :: l, b :: m, h => by
    simp only [sameSs, Bool.and_eq_true] at h
    simp [sameTs, sameS_trees h.1, sameSs_trees h.2]
  | [], _ :: _, h => by simp [sameSs] at h
  | _ :: _, [], h => by simp [sameSs] at h
/-- Like definitions have like trees. -/
theorem sameD_trees {a b : DefD} (h : sameD a b = true) : sameT (defT a) (defT b) = true := by
  simp only [sameD, Bool.and_eq_true, decide_eq_true_eq] at h
  obtain ⟨⟨h1, h2⟩, h3⟩ := h
  have e1 : hasText a = hasText b := by unfold hasText; rw [h2]
  have ek : defKs a = defKs b := by unfold defKs; rw [e1]
  unfold defT mapT
  simp only [sameT, ek, decide_true, Bool.true_and]
  unfold defCs
  rw [e1, h1, h2]
  refine sameTs_snoc (sameTs_consIf (by simp [sameTs, sameT_refl]) (sameT_refl _)) ?_
  unfold seqT
  simp [sameT, sameSs_trees h3]
end Go.Proofs.YtdhgcgejdoedbaaDoor
