/-
  Sagas (no program): what becomes of a saga of which one step fails for good, each other one is done at once, and each undoing is answered.
-/
import Derived.Test.YtgfiogjfgbegpaaGreatBz41
import Derived.Test.YtgfiogjfgbegpaaGreatBz49
import Derived.Test.YtgfiogjfgbegpaaGreatBz50
import Derived.Test.YtgfiogjfgbegpaaGreatBz53
namespace Go.Proofs.YtgfiogjfgbegpaaGreat
open Go Go.RowKit

structure BegS (l : List StepD) (rs : List (List Int)) (now : Int) (X : AskX) (j : Nat) (Y : AskX) : Prop where
  runs : ∀ k : WayD, Y.1.runs k = if k.2 = false ∧ 0 ≤ k.1 ∧ k.1 < (j : Int) ∧ readyB rs X.1 k.1.toNat = true then beginR (l[k.1.toNat]?.getD default) now else X.1.runs k
  done : Y.1.done = X.1.done
  undone : Y.1.undone = X.1.undone
  status : Y.1.status = X.1.status
  out : Y.2 = X.2 ++ ((List.range j).filter fun i => readyB rs X.1 i).map fun i : Nat => (((i : Int), 1, false, nowI now + limI (l[i]?.getD default).limit) : OrdD)
theorem ready_idle {rs : List (List Int)} {S : SagD} {i : Nat} (h : readyB rs S i = true) : phaseI S (i : Int) = 0 := by
  unfold readyB at h
  simp only [Bool.and_eq_true, decide_eq_true_eq] at h
  exact h.1
theorem BegS.three {l : List StepD} {rs : List (List Int)} {now : Int} {X Y : AskX} {j : Nat} (h : BegS l rs now X j Y) (i : Int) : phaseI Y.1 i = 3 ↔ phaseI X.1 i = 3 := by
  unfold phaseI
  rw [h.runs]
  split
  · rename_i hc
    have h0 := ready_idle hc.2.2.2
    unfold phaseI at h0
    have e : ((i.toNat : Nat) : Int) = i := by have := hc.2.1; omega
    rw [e] at h0
    constructor
    · intro e1
      exact absurd (show (1 : Int) = 3 from e1) (by decide)
    · intro e1
      omega
  · rfl
theorem BegS.ready {l : List StepD} {rs : List (List Int)} {now : Int} {X Y : AskX} {j : Nat} (h : BegS l rs now X j Y) {i : Nat} (hi : j ≤ i) : readyB rs Y.1 i = readyB rs X.1 i := by
  unfold readyB
  have e1 : phaseI Y.1 (i : Int) = phaseI X.1 (i : Int) := by
    unfold phaseI
    rw [h.runs, if_neg]
    rintro ⟨_, _, h1, _⟩
    have h1 : (i : Int) < (j : Int) := h1
    omega
  have e2 : (fun x => decide (phaseI Y.1 x = 3)) = (fun x => decide (phaseI X.1 x = 3)) := by
    funext x
    exact decide_eq_decide.2 (h.three x)
  rw [e1, e2]
theorem begs_spec (l : List StepD) (rs : List (List Int)) (now : Int) (X : AskX) (hI : ∀ i : Int, (X.1.runs (i, false)).1 = 0 → (X.1.runs (i, false)).2.1 = 0) : ∀ j, BegS l rs now X j ((List.range j).foldl (begX l rs now) X)
  | 0 => ⟨fun k => by rw [if_neg (by rintro ⟨_, h1, h2, _⟩; omega)]; rfl, rfl, rfl, rfl, by simp⟩
  | j + 1 => by
    have ih := begs_spec l rs now X hI j
    rw [List.range_succ, List.foldl_append, List.foldl_cons, List.foldl_nil]
    generalize (List.range j).foldl (begX l rs now) X = Y at *
    have hr := ih.ready (Nat.le_refl j)
    unfold begX
    rw [hr]
    have hjn : ((j : Int)).toNat = j := by omega
    by_cases h : readyB rs X.1 j = true
    · rw [if_pos h]
      have h0 : (X.1.runs ((j : Int), false)).1 = 0 := ready_idle h
      have hY : Y.1.runs ((j : Int), false) = X.1.runs ((j : Int), false) := by
        rw [ih.runs, if_neg]
        rintro ⟨_, _, h1, _⟩
        exact absurd (show (j : Int) < (j : Int) from h1) (by omega)
      have ht : (beginR (l[j]?.getD default) now).2.1 ≠ (Y.1.runs ((j : Int), false)).2.1 := by
        rw [hY, hI _ h0]
        show inc 0 ≠ 0
        rw [inc_zero]
        decide
      have e : putX Y ((j : Int), false) (beginR (l[j]?.getD default) now) = (Y.1.set ((j : Int), false) (beginR (l[j]?.getD default) now), Y.2 ++ [((j : Int), (beginR (l[j]?.getD default) now).2.1, false, (beginR (l[j]?.getD default) now).2.2.1)]) := by
        unfold putX
        rw [if_neg (fun e => absurd (show (1 : Int) = 3 from e.1) (by decide)), if_pos ⟨rfl, ht⟩]
      rw [e]
      refine ⟨fun k => ?_, ih.done, ih.undone, ih.status, ?_⟩
      · show (if k = ((j : Int), false) then beginR (l[j]?.getD default) now else Y.1.runs k) = _
        by_cases hk : k = ((j : Int), false)
        · subst hk
          rw [if_pos rfl, if_pos ⟨rfl, by show (0 : Int) ≤ (j : Int); omega, by show (j : Int) < ((j + 1 : Nat) : Int); omega, by show readyB rs X.1 ((j : Int)).toNat = true; rw [hjn]; exact h⟩]
          show _ = beginR (l[((j : Int)).toNat]?.getD default) now
          rw [hjn]
        · rw [if_neg hk, ih.runs]
          have hiff : (k.2 = false ∧ 0 ≤ k.1 ∧ k.1 < (j : Int) ∧ readyB rs X.1 k.1.toNat = true) ↔ (k.2 = false ∧ 0 ≤ k.1 ∧ k.1 < ((j + 1 : Nat) : Int) ∧ readyB rs X.1 k.1.toNat = true) := by
            constructor
            · rintro ⟨a, b, c, d⟩
              exact ⟨a, b, by omega, d⟩
            · rintro ⟨a, b, c, d⟩
              refine ⟨a, b, ?_, d⟩
              have : k.1 ≠ (j : Int) := fun e2 => hk (Prod.ext e2 a)
              omega
          by_cases hc : (k.2 = false ∧ 0 ≤ k.1 ∧ k.1 < (j : Int) ∧ readyB rs X.1 k.1.toNat = true)
          · rw [if_pos hc, if_pos (hiff.1 hc)]
          · rw [if_neg hc, if_neg (fun e2 => hc (hiff.2 e2))]
      · show Y.2 ++ [((j : Int), inc 0, false, nowI now + limI (l[j]?.getD default).limit)] = _
        rw [ih.out, List.range_succ, List.filter_append, List.map_append, List.append_assoc, List.filter_cons_of_pos (by simpa using h), inc_zero]
        rfl
    · rw [if_neg h]
      refine ⟨fun k => ?_, ih.done, ih.undone, ih.status, ?_⟩
      · rw [ih.runs]
        have hiff : (k.2 = false ∧ 0 ≤ k.1 ∧ k.1 < (j : Int) ∧ readyB rs X.1 k.1.toNat = true) ↔ (k.2 = false ∧ 0 ≤ k.1 ∧ k.1 < ((j + 1 : Nat) : Int) ∧ readyB rs X.1 k.1.toNat = true) := by
          constructor
          · rintro ⟨a, b, c, d⟩
            exact ⟨a, b, by omega, d⟩
          · rintro ⟨a, b, c, d⟩
            refine ⟨a, b, ?_, d⟩
            have : k.1.toNat ≠ j := fun e2 => h (e2 ▸ d)
            omega
        by_cases hc : (k.2 = false ∧ 0 ≤ k.1 ∧ k.1 < (j : Int) ∧ readyB rs X.1 k.1.toNat = true)
        · rw [if_pos hc, if_pos (hiff.1 hc)]
        · rw [if_neg hc, if_neg (fun e2 => hc (hiff.2 e2))]
      · rw [ih.out, List.range_succ, List.filter_append, List.filter_cons_of_neg (by simpa using h)]
        simp

def undB (l : List StepD) (i : Int) : Bool := !decide ((l[i.toNat]?.getD default).undo = { data := #[] })
structure RunQ (n : Nat) (S : SagD) (todo : List OrdD) : Prop where
  inv : InvS n S
  un : S.undone = []
  nk : (todo.map (·.1)).Nodup
  td : ∀ o ∈ todo, 0 ≤ o.1 ∧ o.1 < (n : Int) ∧ o.2.2.1 = false ∧ o.2.1 = 1 ∧ (S.runs (o.1, false)).1 = 1 ∧ (S.runs (o.1, false)).2.1 = 1
  ask : ∀ i : Nat, i < n → phaseI S (i : Int) = 1 → ∃ o ∈ todo, o.1 = (i : Int)
  ud : ∀ i, S.runs (i, true) = idleR
structure BackA (l : List StepD) (rs : List (List Int)) (fail : Int) (S : SagD) (todo : List OrdD) : Prop where
  q : RunQ l.length S todo
  st : S.status = 1
  ph : ∀ i : Nat, i < l.length → phaseI S (i : Int) = 0 ∨ phaseI S (i : Int) = 1 ∨ phaseI S (i : Int) = 3
  id : ∀ i : Int, (S.runs (i, false)).1 = 0 → (S.runs (i, false)).2.1 = 0
  rd : ∀ i : Nat, i < l.length → readyB rs S i = false
  ff : phaseI S fail ≠ 3
structure BackB (l : List StepD) (fail : Int) (S : SagD) (todo : List OrdD) : Prop where
  q : RunQ l.length S todo
  st : S.status = 2
  ne : todo ≠ []
  ph : ∀ i : Nat, i < l.length → phaseI S (i : Int) = 1 ∨ phaseI S (i : Int) = 3 ∨ phaseI S (i : Int) = 4
  ff : phaseI S fail = 4
structure UnQ (l : List StepD) (fail : Int) (S : SagD) (m : Nat) : Prop where
  inv : InvS l.length S
  st : S.status = 2
  no1 : anyB l.length S 1 = false
  ml : m ≤ S.done.length
  un : S.undone = (S.done.drop m).reverse
  id : ∀ i ∈ S.done.take m, S.runs (i, true) = idleR
  ff : fail ∉ S.done
structure BackC (l : List StepD) (fail : Int) (S : SagD) (todo : List OrdD) (und : List Int) (m : Nat) (i u : Int) : Prop where
  inv : InvS l.length S
  st : S.status = 2
  no1 : anyB l.length S 1 = false
  mi : S.done[m]? = some i
  td : todo = [(i, 1, true, u)]
  un : S.undone = (S.done.drop (m + 1)).reverse
  r1 : (S.runs (i, true)).1 = 1
  r2 : (S.runs (i, true)).2.1 = 1
  id : ∀ j ∈ S.done.take m, S.runs (j, true) = idleR
  hu : undB l i = true
  ud : und = S.undone.filter (undB l)
  ff : fail ∉ S.done
structure BackD (l : List StepD) (fail : Int) (S : SagD) (todo : List OrdD) (und : List Int) : Prop where
  inv : InvS l.length S
  st : S.status = 4
  td : todo = []
  un : S.undone = S.done.reverse
  ud : und = S.undone.filter (undB l)
  ff : fail ∉ S.done
def BackQ (l : List StepD) (rs : List (List Int)) (fail : Int) (S : SagD) (todo : List OrdD) (und : List Int) (c : Nat) : Prop :=
  (BackA l rs fail S todo ∧ und = [] ∧ 4 * l.length + 1 ≤ c + S.done.length) ∨ (BackB l fail S todo ∧ und = [] ∧ 2 * todo.length + S.done.length ≤ c) ∨ (∃ m i u, BackC l fail S todo und m i u ∧ m + 1 ≤ c) ∨ BackD l fail S todo und
theorem RunQ.short {n : Nat} {S : SagD} {todo : List OrdD} (h : RunQ n S todo) : todo.length ≤ n := by
  have := nodup_sub_len (M := (List.range n).map fun i : Nat => (i : Int)) h.nk (fun x hx => by
    obtain ⟨o, ho, rfl⟩ := List.mem_map.1 hx
    have h1 := h.td o ho
    exact List.mem_map.2 ⟨o.1.toNat, List.mem_range.2 (by omega), by omega⟩)
  simpa using this
theorem anyB_iff {n : Nat} {S : SagD} {ph : Int} : anyB n S ph = true ↔ ∃ i : Nat, i < n ∧ phaseI S (i : Int) = ph := by
  unfold anyB
  rw [List.any_eq_true]
  constructor
  · rintro ⟨i, hi, h⟩
    exact ⟨i, List.mem_range.1 hi, by simpa using h⟩
  · rintro ⟨i, hi, h⟩
    exact ⟨i, List.mem_range.2 hi, by simpa using h⟩
theorem anyB_not {n : Nat} {S : SagD} {ph : Int} (h : ∀ i : Nat, i < n → phaseI S (i : Int) ≠ ph) : anyB n S ph = false := by
  cases e : anyB n S ph with
  | false => rfl
  | true =>
    obtain ⟨i, hi, h1⟩ := anyB_iff.1 e
    exact absurd h1 (h i hi)
theorem anyB_setT {n : Nat} {S : SagD} {i : Int} {r : RunD} {ph : Int} : anyB n (S.set (i, true) r) ph = anyB n S ph := by
  unfold anyB
  congr 1
  funext j
  have e : phaseI (S.set (i, true) r) (j : Int) = phaseI S (j : Int) := by
    show (if ((((j : Int), false)) : WayD) = (i, true) then r else S.runs ((j : Int), false)).1 = _
    rw [if_neg (fun e => by cases congrArg Prod.snd e)]
    rfl
  rw [e]
theorem backL_go {l : List StepD} {fail : Int} : ∀ (m : Nat) (X : AskX), UnQ l fail X.1 m →
    (∃ m' i u, m' < m ∧ BackC l fail (backL l 0 m X).1 [(i, 1, true, u)] (X.1.undone.filter (undB l)) m' i u ∧ (backL l 0 m X).2 = X.2 ++ [(i, 1, true, u)]) ∨
    (BackD l fail (backL l 0 m X).1 [] (X.1.undone.filter (undB l)) ∧ (backL l 0 m X).2 = X.2)
  | 0, X, h => by
    refine .inr ⟨⟨h.inv.status 4, rfl, rfl, ?_, rfl, h.ff⟩, rfl⟩
    show X.1.undone = X.1.done.reverse
    rw [h.un, List.drop_zero]
  | m + 1, X, h => by
    have hml := h.ml
    have hul : X.1.undone.length = X.1.done.length - (m + 1) := by rw [h.un]; simp
    have hix : X.1.done.length - 1 - X.1.undone.length = m := by omega
    have hg : X.1.done[m]? = some X.1.done[m] := List.getElem?_eq_getElem (by omega)
    have hin : X.1.done[m] ∈ X.1.done.take (m + 1) := by
      rw [List.take_add_one, hg]
      exact List.mem_append_right _ (List.mem_singleton.2 rfl)
    have hid := h.id _ hin
    have hdr : (X.1.done.drop m).reverse = (X.1.done.drop (m + 1)).reverse ++ [X.1.done[m]] := by
      rw [List.drop_eq_getElem_cons (by omega : m < X.1.done.length), List.reverse_cons]
    unfold backL
    dsimp only
    rw [hix, hg, Option.getD_some]
    generalize hi : X.1.done[m] = i at *
    by_cases hu : (l[i.toNat]?.getD default).undo = { data := #[] }
    · rw [if_pos (.inl hu)]
      have hno : undB l i = false := by
        unfold undB
        rw [decide_eq_true hu]
        rfl
      have ih := backL_go (l := l) (fail := fail) m ({ X.1 with undone := X.1.undone ++ [i] }, X.2) ⟨⟨h.inv.dn, h.inv.nd, h.inv.ov, by show (X.1.undone ++ [i]).length ≤ X.1.done.length; rw [List.length_append, List.length_singleton]; omega⟩, h.st, h.no1, by show m ≤ X.1.done.length; omega, by show X.1.undone ++ [i] = (X.1.done.drop m).reverse; rw [h.un, hdr], fun j hj => h.id j (by
        have hj : j ∈ X.1.done.take m := hj
        rw [List.take_add_one]
        exact List.mem_append_left _ hj), h.ff⟩
      have hfl : (X.1.undone ++ [i]).filter (undB l) = X.1.undone.filter (undB l) := by
        rw [List.filter_append, List.filter_cons_of_neg (by simp [hno])]
        simp
      dsimp only at ih
      rw [hfl] at ih
      rcases ih with ⟨m', i', u, h1, h2, h3⟩ | h2
      · exact .inl ⟨m', i', u, by omega, h2, h3⟩
      · exact .inr h2
    · rw [if_neg (by
        rintro (e | e)
        · exact hu e
        · rw [hid] at e
          exact absurd (show (0 : Int) = 3 from e) (by decide)), if_neg (by
        rw [hid]
        show ¬ (0 : Int) = 4
        decide), if_pos (by rw [hid]; rfl)]
      have hpx : putX X (i, true) (beginR (l[i.toNat]?.getD default) 0) = (X.1.set (i, true) (beginR (l[i.toNat]?.getD default) 0), X.2 ++ [(i, 1, true, (beginR (l[i.toNat]?.getD default) 0).2.2.1)]) := by
        unfold putX
        rw [if_neg (fun e => absurd (show (1 : Int) = 3 from e.1) (by decide)), if_pos ⟨rfl, by
          rw [hid]
          show inc 0 ≠ 0
          rw [inc_zero]
          decide⟩]
        show (_, X.2 ++ [(i, inc 0, true, _)]) = _
        rw [inc_zero]
      have hrn : (X.1.set (i, true) (beginR (l[i.toNat]?.getD default) 0)).runs (i, true) = beginR (l[i.toNat]?.getD default) 0 := by
        show (if ((i, true) : WayD) = (i, true) then _ else _) = _
        rw [if_pos rfl]
      rw [hpx]
      have hmem : i ∈ X.1.done := List.mem_of_mem_take hin
      refine .inl ⟨m, i, _, by omega, ⟨?_, h.st, ?_, hg, rfl, h.un, by rw [hrn]; rfl, by rw [hrn]; show inc 0 = 1; exact inc_zero, fun j hj => ?_, ?_, rfl, h.ff⟩, rfl⟩
      · have := h.inv.put (k := (i, true)) (r := beginR (l[i.toNat]?.getD default) 0) (X := X) (h.inv.dn i hmem) (fun e => by cases e)
        rw [hpx] at this
        exact this
      · have := h.no1
        rw [← anyB_setT (i := i) (r := beginR (l[i.toNat]?.getD default) 0)] at this
        exact this
      · have hj : j ∈ X.1.done.take m := hj
        show (if ((j, true) : WayD) = (i, true) then _ else X.1.runs (j, true)) = _
        have hne : j ≠ i := by
          rintro rfl
          have hnd := h.inv.nd
          have e2 : X.1.done = X.1.done.take m ++ j :: X.1.done.drop (m + 1) := by
            rw [← hi, ← List.drop_eq_getElem_cons (by omega : m < X.1.done.length), List.take_append_drop]
          rw [e2, List.nodup_append] at hnd
          exact hnd.2.2 j hj j (by simp) rfl
        rw [if_neg (fun e => hne (congrArg Prod.fst e))]
        exact h.id j (by
          rw [List.take_add_one]
          exact List.mem_append_left _ hj)
      · unfold undB
        rw [decide_eq_false hu]
        rfl
theorem back_begin {l : List StepD} {rs : List (List Int)} {fail : Int} {X : AskX} (hi : InvS l.length X.1) (h2 : X.1.status = 2) (h1 : anyB l.length X.1 1 = false) (hu : X.1.undone = []) (hd : ∀ i, X.1.runs (i, true) = idleR) (hf : fail ∉ X.1.done) (ho : X.2 = []) :
    BackQ l rs fail (backX l 0 X).1 (backX l 0 X).2 [] X.1.done.length := by
  unfold backX
  rw [h1, if_neg (by decide)]
  have h := backL_go (l := l) (fail := fail) (X.1.done.length - X.1.undone.length) X ⟨hi, h2, h1, by omega, by rw [hu]; simp, fun i _ => hd i, hf⟩
  rw [hu] at h
  simp only [List.filter_nil, List.length_nil, Nat.sub_zero] at h
  rw [hu, List.length_nil, Nat.sub_zero]
  rcases h with ⟨m', i, u, h3, h4, h5⟩ | ⟨h4, h5⟩
  · rw [h5, ho, List.nil_append]
    exact .inr (.inr (.inl ⟨m', i, u, h4, h3⟩))
  · rw [h5, ho]
    exact .inr (.inr (.inr h4))
end Go.Proofs.YtgfiogjfgbegpaaGreat

/-
  rescripttop.awakeOne: contract; definitions of one step.
-/
namespace Go.Proofs.YtgfiogjfgbegpaaGreat
open Go Go.RowKit Go.Maps Go.WideShapes

def zeroTA : Tree := .mk 0 { data := #[] } [] [] 0
theorem zeroTA_r (W : World) : NodeR W [.int .u8 0, .string { data := #[] }, .slice none 0 0, .slice none 0 0, .int .i64 0] zeroTA :=
  .mk [] (by decide) (Nat.zero_le _) (fun _ h => by cases h) (by decide) ⟨rfl, none, 0, rfl, Nat.le_refl _, Nat.zero_le _, .inl rfl⟩ rfl ⟨rfl, none, 0, rfl, Nat.le_refl _, Nat.zero_le _, .inl rfl⟩ (fun i r x h => by cases h)
end Go.Proofs.YtgfiogjfgbegpaaGreat

/-
  saga.New of a definition that is not clean: contract.
-/
namespace Go.Proofs.YtgfiogjfgbegpaaGreat
open Go Go.RowKit Go.Maps Go.WideShapes

set_option maxRecDepth 100000 in
set_option maxHeartbeats 4000000 in
theorem New_no (d : DefD) (cs : List Value) (sa : Option Addr) (sc : Nat) (w : World) (h : DefR w cs d sa sc) (hs : SmallD d) (hc : cleanB d = false) :
    Calls Tryz.prog 14 #[.agg cs.toArray] w fun e w' => e = .returned (.tuple #[.pointer none, .int .i64 3]) ∧ Below w.heap.size w w' := by
  have HCL := Lib.hid (fun W sa sc (hW : DefR W [.string d.name, .string d.text, .slice sa d.steps.length sc] d sa sc) => Clean_any d _ sa sc W hW hs)
  rw [hc] at HCL
  obtain ⟨rfl, hnm, htx, hst⟩ := h
  have hb0 := (Below.refl w.heap.size w).alloc (Nat.le_refl _) (.cells #[.string d.name, .string d.text, .slice sa d.steps.length sc] 24)
  have g0 := World.alloc_heap_new w (.cells #[.string d.name, .string d.text, .slice sa d.steps.length sc] 24)
  have HD0 := Lib.hid (show DefR (w.alloc (.cells #[.string d.name, .string d.text, .slice sa d.steps.length sc] 24)) [.string d.name, .string d.text, .slice sa d.steps.length sc] d sa sc from ⟨rfl, hnm, htx, hst.below hb0⟩)
  have HB := Lib.hid hb0
  have HG := Lib.hid g0
  clear hst hs hb0 g0 hnm htx
  go_enter Tryz.func14, Tryz.ntmps14
  go_upto_region 1 with fail
  generalize w.alloc (.cells #[.string d.name, .string d.text, .slice sa d.steps.length sc] 24) = w0 at *
  obtain ⟨p0, p1, p2, -, -, -⟩ := cells3h HG.out
  go_wp2_with fail
  refine (HCL.out _ _ _ HD0.out).mono ?_
  rintro e w1 ⟨rfl, hb1⟩
  have HB1 := Lib.hid (bthen HB.out (Nat.le_refl _) hb1)
  clear p0 p1 p2 hb1
  go_wp2_with fail
  exact bodyPost_ret (results_tmp2 rfl _ _ _) rfl ⟨rfl, HB1.out⟩
end Go.Proofs.YtgfiogjfgbegpaaGreat

/-
  reach.each: contract of the iterator over the ticks with their answers.
-/
namespace Go.Proofs.YtgfiogjfgbegpaaGreat
open Go Go.RowKit Go.Maps Go.WideShapes
attribute [local go_sem] Oper.semAt_some wide_fn wide_depth wide_fn' wide_depth'

theorem Tryz.info_say : (Tryz.prog.info? 32).map (fun i => (i.zero, i.size, i.bytes)) = some (some (.agg #[.int .i64 0, .int .i64 0, .int .i64 0, .bool false, .int .u8 0]), 5, 32) := by kernel_rfl
theorem cells5s {W : World} {B : Nat} {c0 c1 c2 c3 c4 : Value} {t : TypeId} {fr : Nat × Nat} (h : W.heap[B]? = some (.cells #[c0, c1, c2, c3, c4] t fr)) : W.cell? ⟨B, 0, none⟩ = some c0 ∧ W.cell? ⟨B, 1, none⟩ = some c1 ∧ W.cell? ⟨B, 2, none⟩ = some c2 ∧ W.cell? ⟨B, 3, none⟩ = some c3 ∧ W.cell? ⟨B, 4, none⟩ = some c4 := by
  refine ⟨?_, ?_, ?_, ?_, ?_⟩ <;> simp [World.cell?, h]
theorem eachS_any (b : Int) (va : Option Addr) (n vc : Nat) (w : World) : Calls Tryz.prog 31 #[.int .i64 b, .slice va n vc] w fun e w' => e = .returned (.func (.func 64) #[] #[.pointer (some ⟨w.heap.size + 1, 0, none⟩), .pointer (some ⟨w.heap.size, 0, none⟩)]) ∧ (w.alloc (.cells #[.int .i64 b] 3)).alloc (.cells #[.slice va n vc] 25) = w' := by
  go_enter Tryz.func31, Tryz.ntmps31
  go_wp2
  go_ret
  exact ⟨rfl, rfl⟩
set_option maxRecDepth 100000 in
set_option maxHeartbeats 8000000 in
theorem eachS_iter (b : Nat) (ss : List SayD) (Q1 Q2 : Nat) (va : Option Addr) (vc : Nat) (w : World) (hQ1 : w.heap[Q1]? = some (.cells #[.slice va ss.length vc] 25 (0, 0))) (hQ2 : w.heap[Q2]? = some (.cells #[.int .i64 b] 3 (0, 0))) (hb : b ≤ 100000000) (hl : ss.length ≤ 1000) (hok : ∀ x ∈ ss, I64w x.1) :
    IterAtE Tryz.prog 0 64 #[.pointer (some ⟨Q1, 0, none⟩), .pointer (some ⟨Q2, 0, none⟩)] (EachE ss) (List.range (b + 1)) True (fun j => j = Q1 ∨ j = Q2) (fun W => RdS W (.slice va ss.length vc) 5 ss.length (flatS ss)) w := by
  intro l J Jx W _ hR hS hn0 hbl hJ hJx hY h0
  have hX1 := (hbl.block Q1 (Array.getElem?_eq_some_iff.1 hQ1).1).trans hQ1
  have hX2 := (hbl.block Q2 (Array.getElem?_eq_some_iff.1 hQ2).1).trans hQ2
  have HJ := Lib.hid hJ
  have HY := Lib.hid hY
  have HRD := Lib.hid (hR _ _ _ h0)
  have H0 := Lib.hid h0
  have HS := Lib.hid hS
  have HOK := Lib.hid hok
  have HX1 := Lib.hid hX1
  have HX2 := Lib.hid hX2
  have HBM := Lib.hid (ByR.made W)
  have hb1 : Below W.heap.size W (W.alloc (.map #[] 0)) := (Below.refl _ _).alloc (Nat.le_refl _) _
  have HB1 := Lib.hid hb1
  have hgx1 := cell1 ((hb1.block _ (Array.getElem?_eq_some_iff.1 hX1).1).trans hX1)
  clear hY hS hQ1 hQ2 hbl hJ hJx h0 hb1 hR hn0 hX1 hX2 hok
  refine callsIn_of_wp Tryz.func64 rfl trivial ?_ rfl
  simp only [Tryz.ntmps64, List.size_toArray, List.length_cons, List.length_nil, Nat.reduceAdd, Nat.reduceSub, Array.replicate_succ, Array.replicate_zero, List.push_toArray, List.append_toArray, List.nil_append, List.cons_append]
  have hmm := @run_makeMap Tryz.prog
  gi_upto_region 1 with fail
  clear hmm
  generalize hB : W.heap.size = B at *
  generalize W.alloc (.map #[] 0) = W1 at *
  have hszB := HB1.out.size
  gi_wp2_with fail
  clear hgx1

  gi_loopg [11] (ss.length + 1) (fun gk i wr => ∃ (j : Nat) (gv : Int → Value), j + gk = ss.length + 1 ∧ j ≤ ss.length ∧ i = .int .i64 j ∧ Hid (ByR wr B B gv (ss.take j)) ∧ Hid (Below B W wr))
  case atStart => exact ⟨0, _, by omega, by omega, rfl, HBM, HB1⟩
  case round =>
    obtain ⟨j, gv, hgk, hj, rfl, HBY, HBW⟩ := hrel
    have hg : gk = ss.length + 1 - j := by omega
    subst hg
    have hBW := HBW.out.size
    by_cases hjl : j < ss.length
    · have d1 : decide ((j : Int) < (ss.length : Int)) = true := decide_eq_true (by omega)
      have hj1 : (j : Int) < (ss.length : Int) := by omega
      have hj0 : (0 : Int) ≤ (j : Int) := by omega
      have hxi := HOK.out _ (List.getElem_mem hjl)
      have HTK : Hid (ss.take (j + 1) = ss.take j ++ [ss[j]]) := Lib.hid (by rw [List.take_add_one, List.getElem?_eq_getElem hjl]; rfl)
      obtain ⟨ga, gc, hgv, hro⟩ := HBY.out.row ss[j].1
      have hln := saysAt_len (ss.take j) ss[j].1
      rw [List.length_take] at hln
      have HGV := Lib.hid hgv
      have HRO := Lib.hid hro
      have hlk := HBY.out.look (x := ss[j].1) hxi
      have HLK : Hid (∀ W', Below wr.heap.size wr W' → (Instr.lookup 120 (.map (some B)) (.int .i64 ss[j].1) false).run Tryz.prog W' = .ok (.slice ga (saysAt (ss.take j) ss[j].1).length gc) W') := Lib.hid (fun W' hb => by
        have := (HBY.out.below hb).look (x := ss[j].1) hxi
        rw [hgv] at this
        exact this)
      clear hlk hgv hro
      obtain ⟨gn, hgn⟩ : ∃ gn, (saysAt (ss.take j) ss[j].1).length = gn := ⟨_, rfl⟩
      have HGN := Lib.hid hgn
      rw [hgn] at HGV HRO HLK hln
      clear hgn
      obtain ⟨sg, soff, scap, he, q0, q1, q2, q3, q4⟩ := says_at (HRD.out.below (by rw [hB]; exact HBW.out)) hjl
      cases he
      have hb1 : Below wr.heap.size wr (wr.alloc (.cells #[.int .i64 ss[j].1, .int .i64 ss[j].2.1, .int .i64 ss[j].2.2.1, .bool ss[j].2.2.2.1, .int .u8 ss[j].2.2.2.2] 32)) := (Below.refl _ _).alloc (Nat.le_refl _) _
      have g0 := World.alloc_heap_new wr (.cells #[.int .i64 ss[j].1, .int .i64 ss[j].2.1, .int .i64 ss[j].2.2.1, .bool ss[j].2.2.2.1, .int .u8 ss[j].2.2.2.2] 32)
      gi_upto_region 4 with fail
      generalize wr.alloc (.cells #[.int .i64 ss[j].1, .int .i64 ss[j].2.1, .int .i64 ss[j].2.2.1, .bool ss[j].2.2.2.1, .int .u8 ss[j].2.2.2.2] 32) = w4 at *
      obtain ⟨i0, hi0, hz0, hz1, hz2⟩ := info_parts Tryz.info_say
      clear q0 q1 q2 q3 q4
      obtain ⟨y0, y1, y2, y3, y4⟩ := cells5s (W := w4.drew) g0
      have hlk := HLK.out _ hb1.drew
      have HB5 := Lib.hid hb1
      have HG5 := Lib.hid g0
      clear hb1 g0
      refine E_regionW (S := (fun W => W.cell? ⟨wr.heap.size, 0, none⟩ = some (.int .i64 ss[j].1) ∧ W.cell? ⟨wr.heap.size, 1, none⟩ = some (.int .i64 ss[j].2.1) ∧ W.cell? ⟨wr.heap.size, 2, none⟩ = some (.int .i64 ss[j].2.2.1) ∧ W.cell? ⟨wr.heap.size, 3, none⟩ = some (.bool ss[j].2.2.2.1) ∧ W.cell? ⟨wr.heap.size, 4, none⟩ = some (.int .u8 ss[j].2.2.2.2) ∧ (Instr.lookup 120 (.map (some B)) (.int .i64 ss[j].1) false).run Tryz.prog W = .ok (.slice ga gn gc) W)) 10 (by kernel_rfl) (by kernel_rfl) ⟨y0, y1, y2, y3, y4, hlk⟩ (fun Q' hQ hK' hHeld => ?_)
      refine E_take0 hQ (fun _ => hHeld) 0 (v := ?av1) rfl rfl (by kernel_rfl) (by kernel_rfl) (by kernel_rfl) (by decide) (by rfl) ?ay1 ?ar1
      case ay1 => (intro w; go_simp; (try with_reducible rfl))
      (try simp only [layE])
      refine E_take0 hQ (fun _ => hHeld) 1 (v := ?av2) rfl rfl (by kernel_rfl) (by kernel_rfl) (by kernel_rfl) (by decide) (by rfl) ?ay2 ?ar2
      case ay2 => (intro w; go_simp; (try with_reducible rfl))
      (try simp only [layE])
      refine E_take hQ hHeld 2 (v := ?av3) rfl rfl (by kernel_rfl) (by kernel_rfl) (by kernel_rfl) (by kernel_rfl) (by kernel_rfl) (by rfl) ?ay3 ?ar3
      case ay3 => (intro w hSw; (try dsimp only at hSw); go_simp; (try with_reducible rfl))
      (try simp only [layE])
      refine E_take0 hQ (fun _ => hHeld) 3 (v := ?av4) rfl rfl (by kernel_rfl) (by kernel_rfl) (by kernel_rfl) (by decide) (by rfl) ?ay4 ?ar4
      case ay4 => (intro w; go_simp; (try with_reducible rfl))
      (try simp only [layE])
      refine E_take0 hQ (fun _ => hHeld) 4 (v := ?av5) rfl rfl (by kernel_rfl) (by kernel_rfl) (by kernel_rfl) (by decide) (by rfl) ?ay5 ?ar5
      case ay5 => (intro w; go_simp; (try with_reducible rfl))
      (try simp only [layE])
      refine E_take hQ hHeld 5 (v := ?av6) rfl rfl (by kernel_rfl) (by kernel_rfl) (by kernel_rfl) (by kernel_rfl) (by kernel_rfl) (by rfl) ?ay6 ?ar6
      case ay6 => (intro w hSw; (try dsimp only at hSw); go_simp; (try with_reducible rfl))
      (try simp only [layE])
      refine E_take hQ hHeld 6 (v := ?av7) rfl rfl (by kernel_rfl) (by kernel_rfl) (by kernel_rfl) (by kernel_rfl) (by kernel_rfl) (by rfl) ?ay7 ?ar7
      case ay7 => (intro w hSw; (try dsimp only at hSw); go_simp; (try with_reducible rfl))
      (try simp only [layE])
      refine E_take hQ hHeld 7 (v := ?av8) rfl rfl (by kernel_rfl) (by kernel_rfl) (by kernel_rfl) (by kernel_rfl) (by kernel_rfl) (by rfl) ?ay8 ?ar8
      case ay8 => (intro w hSw; (try dsimp only at hSw); go_simp; (try with_reducible rfl))
      (try simp only [layE])
      refine E_one 8 (by kernel_rfl) rfl (by rfl) (fun K hK => ?_)
      go_simp
      have hb6 : Below w4.heap.size w4 ((w4.alloc (.cells #[.int .i64 ss[j].1, .int .i64 ss[j].2.1, .int .i64 ss[j].2.2.1, .bool ss[j].2.2.2.1, .int .u8 ss[j].2.2.2.2] 32)).drew) := ((Below.refl _ w4).alloc (Nat.le_refl _) _).drew
      have hn6 : ((w4.alloc (.cells #[.int .i64 ss[j].1, .int .i64 ss[j].2.1, .int .i64 ss[j].2.2.1, .bool ss[j].2.2.2.1, .int .u8 ss[j].2.2.2.2] 32)).drew).heap[w4.heap.size]? = some (.cells #[.int .i64 ss[j].1, .int .i64 ss[j].2.1, .int .i64 ss[j].2.2.1, .bool ss[j].2.2.2.1, .int .u8 ss[j].2.2.2.2] 32 (0, 0)) := World.alloc_heap_new w4 _
      generalize (w4.alloc (.cells #[.int .i64 ss[j].1, .int .i64 ss[j].2.1, .int .i64 ss[j].2.2.1, .bool ss[j].2.2.2.1, .int .u8 ss[j].2.2.2.2] 32)).drew = w6 at *
      have hb06 : Below wr.heap.size wr w6 := bthen HB5.out (Nat.le_refl _) hb6
      (try simp only [layE])
      refine hK.out _ _ (fun _ _ => ⟨cellB hb6 hHeld.1, cellB hb6 hHeld.2.1, cellB hb6 hHeld.2.2.1, cellB hb6 hHeld.2.2.2.1, cellB hb6 hHeld.2.2.2.2.1, HLK.out _ hb06⟩) (fun hHeld' => ?_)
      replace hHeld := hHeld' (by rfl) (by decide)
      clear hK hHeld'
      (try simp only [layE])
      refine E_one 9 (by kernel_rfl) rfl (by rfl) (fun K hK => ?_)
      refine opwp_pushA _ _ 25 rfl B 32 i0 (.agg #[.int .i64 0, .int .i64 0, .int .i64 0, .bool false, .int .u8 0]) 5 32 Tryz.underlying25 hi0 hz0 hz1 hz2 rfl (by decide) (.slice ga gn gc) gn (flatS (saysAt (ss.take j) ss[j].1)) rfl (ownsRow_keepB HRO.out (fun g hg => hb06.block g (HRO.out.lt g hg).2)) (.slice (some ⟨w4.heap.size, 0, none⟩) 1 1) 1 (sayC ss[j]) rfl (rds_rowK 1 5 (l := sayC ss[j]) hn6 rfl (by decide)) (fun u hu => by unfold sayC at hu; simp only [List.mem_cons, List.not_mem_nil, or_false] at hu; rcases hu with rfl | rfl | rfl | rfl | rfl <;> rfl) (by unfold maxLen; omega) (by omega) (by have := hb06.size; omega) ?_
      intro v7 w7 ho7 hg7 hf7
      have hX7 := (hg7.block _ (by have := (Array.getElem?_eq_some_iff.1 HG5.out).1; have := hb6.size; omega) (fun e => by have := (HRO.out.lt _ e.symm).2; omega)).trans ((hb6.block _ (Array.getElem?_eq_some_iff.1 HG5.out).1).trans HG5.out)
      have hlk7 := (HBY.out.below hb06).look_keep (hg7.block B (HBY.out.below hb06).ltm (fun e => HBY.out.rowm ss[j].1 (by rw [HGV.out]; exact e.symm))) (x := ss[j].1) hxi
      rw [HGV.out] at hlk7
      obtain ⟨u0, u1, u2, u3, u4⟩ := cells5s hX7
      obtain ⟨w8, hput, hby8, hbl8, -⟩ := HBY.out.push ss[j] hxi (by rw [List.length_take]; omega) hb06 (by rw [HGN.out]; exact ho7) (by rw [HGV.out]; exact hg7) (by rw [HGV.out]; exact hf7)
      clear hX7 ho7 hg7 hf7
      (try simp only [layE])
      refine hK.out _ _ (fun _ _ => ⟨u0, u1, u2, u3, u4, hlk7⟩) (fun hHeld' => ?_)
      replace hHeld := hHeld' (by rfl) (by decide)
      clear hK hHeld'
      (try simp only [layE])
      refine E_one 10 (by kernel_rfl) rfl (by rfl) (fun K hK => ?_)
      go_simp
      (try simp only [layE])
      refine hK.out _ _ (fun _ h => absurd rfl h) (fun _ => ?_)
      clear hK hHeld
      (try simp only [layE])
      refine E_done (by kernel_rfl) ?_ _
      refine hK'.out _ _ ?_
      have HBY8 := Lib.hid hby8
      have HBL8 := Lib.hid (hbl8 (by omega))
      clear hK' hQ hput hby8 hbl8
      gi_wp2_with fail
      gi_roundg (ss.length + 1 - (j + 1))
      case measure => omega
      case rel => exact ⟨j + 1, _, by omega, by omega, by go_num, by rw [HTK.out]; exact HBY8, Lib.hid (HBW.out.trans HBL8.out)⟩
    · have d1 : decide ((j : Int) < (ss.length : Int)) = false := decide_eq_false (by omega)
      obtain rfl : j = ss.length := by omega
      rw [List.take_length] at HBY
      have hbW : Below W.heap.size W wr := hB ▸ HBW.out
      have hst : Step 0 (fun k => k = Q1 ∨ k = Q2) (fun k => (k = Q1 ∨ k = Q2) ∨ (B ≤ k ∧ k < wr.heap.size)) W wr := ⟨hbW.mono (Nat.zero_le _), fun k hk => .inl hk, fun k hk => hk.elim .inl (fun e => .inr (by omega)), fun k hk _ => hbW.block k hk⟩
      have hJ1 := HJ.out _ _ _ _ _ (fun k hk => ⟨Nat.zero_le _, by rw [hB]; exact (HS.out k hk).2⟩) H0.out hst
      have HJ1 := Lib.hid hJ1
      have HSB1 : Hid (∀ k, ((k = Q1 ∨ k = Q2) ∨ (B ≤ k ∧ k < wr.heap.size)) → 0 ≤ k ∧ k < wr.heap.size) := Lib.hid (fun k hk => ⟨Nat.zero_le _, hk.elim (fun e => by have := (HS.out k e).2; omega) (fun e => e.2)⟩)
      have hltm := HBY.out.ltm
      have HOWN : Hid (((B = Q1 ∨ B = Q2) ∨ (B ≤ B ∧ B < wr.heap.size)) ∧ ∀ x q, (gv x).ownBlock = some q → ((q = Q1 ∨ q = Q2) ∨ (B ≤ q ∧ q < wr.heap.size))) := Lib.hid ⟨.inr ⟨Nat.le_refl _, hltm⟩, fun x q hq => by
        obtain ⟨a, c, e, hr⟩ := HBY.out.row x
        exact .inr (hr.lt q (by rw [← e]; exact hq))⟩
      have hx2 := cell1 ((HBW.out.block _ (by have := (Array.getElem?_eq_some_iff.1 HX2.out).1; omega)).trans HX2.out)
      have hbw : IntKind.i64.wrap ((b : Int) + 1) = (b : Int) + 1 := IntWalk.i64_in _ (by omega)
      clear hJ1 hst hbW hgk
      gi_wp2_with fail
      clear hx2
      gi_loopg [28] (b + 2) (fun gk i wi => ∃ (S : Nat → Prop) (k : Nat), k + gk = b + 2 ∧ k ≤ b + 1 ∧ i = .int .i64 k ∧ Hid (∀ j, S j → 0 ≤ j ∧ j < wi.heap.size) ∧ Hid (S B ∧ ∀ x q, (gv x).ownBlock = some q → S q) ∧ J S (List.range k) wi ∧ Hid (ByR wi B B gv ss))
      case atStart => exact ⟨_, 0, by omega, by omega, rfl, HSB1, HOWN, HJ1.out, HBY⟩
      case round =>
        obtain ⟨S, k, hgk, hk, rfl, HSB, HOW, hJs, HBYr⟩ := hrel
        rename World => wi
        have hg : gk = b + 2 - k := by omega
        subst hg
        by_cases hkb : k < b + 1
        · have d2 : decide ((k : Int) < (b : Int) + 1) = true := decide_eq_true (by omega)
          have hk1 : (k : Int) < (b : Int) + 1 := by omega
          have hpx : List.range k ++ [k] <+: List.range (b + 1) := by
            rw [← List.range_succ, show b + 1 = (k + 1) + (b - k) by omega, List.range_add]
            exact List.prefix_append _ _
          obtain ⟨ga, gc, hgv, hro⟩ := HBYr.out.row (k : Int)
          have hlk := HBYr.out.look (x := (k : Int)) ⟨by omega, by omega⟩
          have hown := HOW.out.2 (k : Int)
          rw [hgv] at hlk hown
          obtain ⟨fn, tmps, assign, body, hy, hRr⟩ := HY.out S _ k wi HSB.out hJs hpx _ ⟨ga, gc, rfl, ownsRow_mono hro (Nat.zero_le _), hown⟩
          rw [← List.range_succ] at hRr
          have HPX := Lib.hid hpx
          have HRr := Lib.hid hRr
          clear hpx hRr hro hown hgv
          gi_wp2_with fail
          refine HRr.out.mono ?_
          rintro e W' (⟨rfl, hJ', hk'⟩ | ⟨rfl, hJ', hk'⟩)
          · clear hy hlk
            have hsz' := hk'.below.size
            gi_wp2_with fail
            gi_roundg (b + 2 - (k + 1))
            case measure => omega
            case rel => exact ⟨S, k + 1, by omega, by omega, by go_num, Lib.hid (fun i hi => ⟨Nat.zero_le _, Nat.lt_of_lt_of_le (HSB.out i hi).2 hsz'⟩), HOW, hJ', Lib.hid (HBYr.out.keepS (fun j hj => hk'.same j (hj.elim (fun e => e ▸ HOW.out.1) (fun ⟨x, hx⟩ => HOW.out.2 x j hx))))⟩
          · clear hy hlk
            have hsz' := hk'.below.size
            gi_wp2_with fail
            refine bodyPost_ret (results_none rfl _ _ _) rfl ?_
            exact ⟨⟨_, rfl⟩, S, (fun i hi => ⟨Nat.zero_le _, Nat.lt_of_lt_of_le (HSB.out i hi).2 hsz'⟩), .inr ⟨_, (by rw [List.range_succ]; exact HPX.out), hJ'⟩⟩
        · have d2 : decide ((k : Int) < (b : Int) + 1) = false := decide_eq_false (by omega)
          have hk1 : ¬ (k : Int) < (b : Int) + 1 := by omega
          obtain rfl : k = b + 1 := by omega
          gi_wp2_with fail
          go_end0
          exact ⟨⟨_, rfl⟩, S, fun i hi => (HSB.out i hi).2, .inl (by rw [← List.range_succ]; exact hJs)⟩
end Go.Proofs.YtgfiogjfgbegpaaGreat

/-
  Sagas (no program): one more answer on the way of a saga of which one step fails for good.
-/
namespace Go.Proofs.YtgfiogjfgbegpaaGreat
open Go Go.RowKit

theorem BackA.of_fold {l : List StepD} {rs : List (List Int)} {fail : Int} {S : SagD} {rest : List OrdD} (hq : RunQ l.length S rest) (hst : S.status = 1)
    (hph : ∀ i : Nat, i < l.length → phaseI S (i : Int) = 0 ∨ phaseI S (i : Int) = 1 ∨ phaseI S (i : Int) = 3) (hid : ∀ i : Int, (S.runs (i, false)).1 = 0 → (S.runs (i, false)).2.1 = 0) (hff : phaseI S fail ≠ 3) :
    BackA l rs fail ((List.range l.length).foldl (begX l rs 0) (S, [])).1 (rest ++ ((List.range l.length).foldl (begX l rs 0) (S, [])).2) := by
  have hB := begs_spec l rs 0 (S, []) hid l.length
  have hinv := InvS.begs (n := l.length) (l := l) (rs := rs) (now := 0) (List.range l.length) (S, []) (fun i hi => List.mem_range.1 hi) hq.inv
  generalize (List.range l.length).foldl (begX l rs 0) (S, []) = Y at *
  have hout := hB.out
  rw [List.nil_append] at hout
  have hruns : ∀ k : WayD, Y.1.runs k = if k.2 = false ∧ 0 ≤ k.1 ∧ k.1 < (l.length : Int) ∧ readyB rs S k.1.toNat = true then beginR (l[k.1.toNat]?.getD default) 0 else S.runs k := hB.runs
  have hidle : ∀ i : Int, 0 ≤ i → readyB rs S i.toNat = true → (S.runs (i, false)).1 = 0 := fun i h0 hr => by
    have h := ready_idle hr
    unfold phaseI at h
    have e : ((i.toNat : Nat) : Int) = i := by omega
    rw [e] at h
    exact h
  have hnew : ∀ i : Nat, i < l.length → readyB rs S i = true → Y.1.runs ((i : Int), false) = beginR (l[i]?.getD default) 0 := fun i hi hr => by
    have e : ((i : Int)).toNat = i := by omega
    rw [hruns, if_pos ⟨rfl, by show (0 : Int) ≤ (i : Int); omega, by show (i : Int) < _; omega, by show readyB rs S ((i : Int)).toNat = true; rw [e]; exact hr⟩]
    show beginR (l[((i : Int)).toNat]?.getD default) 0 = _
    rw [e]
  have hold : ∀ i : Int, (S.runs (i, false)).1 ≠ 0 → Y.1.runs (i, false) = S.runs (i, false) := fun i hn => by
    rw [hruns, if_neg]
    rintro ⟨_, h0, _, hr⟩
    exact hn (hidle i h0 hr)
  refine ⟨⟨hinv, hB.undone.trans hq.un, ?_, ?_, ?_, ?_⟩, hB.status.trans hst, ?_, ?_, ?_, ?_⟩
  · rw [List.map_append, List.nodup_append]
    refine ⟨hq.nk, ?_, ?_⟩
    · rw [hout, List.map_map]
      refine List.Pairwise.map (R := (· ≠ ·)) (S := (· ≠ ·)) _ (fun a b hab e => hab ?_) (List.Pairwise.filter _ List.nodup_range)
      have e : (a : Int) = (b : Int) := e
      omega
    · intro a ha b hb e
      obtain ⟨o, ho, rfl⟩ := List.mem_map.1 ha
      rw [hout] at hb
      obtain ⟨p, hp, rfl⟩ := List.mem_map.1 hb
      obtain ⟨i, hi, rfl⟩ := List.mem_map.1 hp
      have hr := (List.mem_filter.1 hi).2
      have e : o.1 = (i : Int) := e
      have h1 := (hq.td o ho).2.2.2.2.1
      have h2 := ready_idle hr
      unfold phaseI at h2
      rw [e] at h1
      have h2 : (S.runs ((i : Int), false)).1 = 0 := h2
      omega
  · intro o ho
    rcases List.mem_append.1 ho with h | h
    · obtain ⟨h0, h1, h2, h3, h4, h5⟩ := hq.td o h
      have e := hold o.1 (by omega)
      exact ⟨h0, h1, h2, h3, by rw [e]; exact h4, by rw [e]; exact h5⟩
    · rw [hout] at h
      obtain ⟨i, hi, rfl⟩ := List.mem_map.1 h
      have hr := (List.mem_filter.1 hi).2
      have hil := List.mem_range.1 (List.mem_filter.1 hi).1
      have e := hnew i hil hr
      refine ⟨by show (0 : Int) ≤ (i : Int); omega, by show (i : Int) < _; omega, rfl, rfl, ?_, ?_⟩
      · show (Y.1.runs ((i : Int), false)).1 = 1
        rw [e]
        rfl
      · show (Y.1.runs ((i : Int), false)).2.1 = 1
        rw [e]
        exact inc_zero
  · intro i hi h
    by_cases hr : readyB rs S i = true
    · exact ⟨((i : Int), 1, false, nowI 0 + limI (l[i]?.getD default).limit), List.mem_append_right _ (by rw [hout]; exact List.mem_map.2 ⟨i, List.mem_filter.2 ⟨List.mem_range.2 hi, hr⟩, rfl⟩), rfl⟩
    · have e : Y.1.runs ((i : Int), false) = S.runs ((i : Int), false) := by
        rw [hruns, if_neg]
        rintro ⟨_, _, _, h2⟩
        have e : ((i : Int)).toNat = i := by omega
        have h2 : readyB rs S ((i : Int)).toNat = true := h2
        rw [e] at h2
        exact hr h2
      unfold phaseI at h
      rw [e] at h
      obtain ⟨o, ho, he⟩ := hq.ask i hi h
      exact ⟨o, List.mem_append_left _ ho, he⟩
  · intro i
    rw [hruns, if_neg (by rintro ⟨h, _⟩; cases h)]
    exact hq.ud i
  · intro i hi
    by_cases hr : readyB rs S i = true
    · refine .inr (.inl ?_)
      unfold phaseI
      rw [hnew i hi hr]
      rfl
    · have e : Y.1.runs ((i : Int), false) = S.runs ((i : Int), false) := by
        rw [hruns, if_neg]
        rintro ⟨_, _, _, h2⟩
        have e : ((i : Int)).toNat = i := by omega
        have h2 : readyB rs S ((i : Int)).toNat = true := h2
        rw [e] at h2
        exact hr h2
      unfold phaseI
      rw [e]
      exact hph i hi
  · intro i h
    rw [hruns] at h ⊢
    split at h
    · exact absurd (show (1 : Int) = 0 from h) (by decide)
    · rename_i hc
      rw [if_neg hc]
      exact hid i h
  · intro i hi
    by_cases hr : readyB rs S i = true
    · refine readyB_no ?_
      unfold phaseI
      rw [hnew i hi hr]
      show (1 : Int) ≠ 0
      decide
    · have e1 : phaseI Y.1 (i : Int) = phaseI S (i : Int) := by
        unfold phaseI
        rw [hruns, if_neg]
        rintro ⟨_, _, _, h2⟩
        have e : ((i : Int)).toNat = i := by omega
        have h2 : readyB rs S ((i : Int)).toNat = true := h2
        rw [e] at h2
        exact hr h2
      have e2 : (fun x => decide (phaseI Y.1 x = 3)) = (fun x => decide (phaseI S x = 3)) := by
        funext x
        exact decide_eq_decide.2 (hB.three x)
      unfold readyB at hr ⊢
      rw [e1, e2]
      simpa using hr
  · intro h
    exact hff ((hB.three fail).1 h)
def runSag : SagD := ⟨fun _ => idleR, [], [], 1⟩
theorem back_start {d : DefD} {fail : Int} (hc : cleanB d = true) :
    BackQ d.steps (depsA d.steps 0 d.steps) fail (startX d.steps (depsA d.steps 0 d.steps) newSag 0).1 (startX d.steps (depsA d.steps 0 d.steps) newSag 0).2 [] (4 * d.steps.length + 1) := by
  have hn := clean_some hc
  have e : startX d.steps (depsA d.steps 0 d.steps) newSag 0 = (List.range d.steps.length).foldl (begX d.steps (depsA d.steps 0 d.steps) 0) (runSag, []) := by
    have hB := begs_spec d.steps (depsA d.steps 0 d.steps) 0 (runSag, []) (fun _ _ => rfl) d.steps.length
    unfold startX
    rw [if_pos (show newSag.status = 0 from rfl)]
    show onX d.steps (depsA d.steps 0 d.steps) 0 (runSag, []) = _
    unfold onX
    dsimp only
    rw [if_pos (show runSag.status = 1 from rfl)]
    have ef : forthX d.steps (depsA d.steps 0 d.steps) 0 (runSag, []) = (List.range d.steps.length).foldl (begX d.steps (depsA d.steps 0 d.steps) 0) (runSag, []) := by
      unfold forthX
      rw [if_neg, if_neg]
      · show ¬ (0 : Nat) = d.steps.length
        omega
      · rw [anyB_not (fun i _ => by show (0 : Int) ≠ 4; decide)]
        decide
    rw [ef, if_neg]
    rw [hB.status]
    show ¬ (1 : Int) = 2
    decide
  have h := BackA.of_fold (l := d.steps) (rs := depsA d.steps 0 d.steps) (fail := fail) (S := runSag) (rest := []) ⟨(InvS.new _).status 1, rfl, List.nodup_nil, (fun o ho => by cases ho), (fun i hi h => absurd (show (0 : Int) = 1 from h) (by decide)), fun i => rfl⟩ rfl (fun i hi => .inl rfl) (fun i h => rfl) (by show (0 : Int) ≠ 3; decide)
  rw [List.nil_append, ← e] at h
  exact .inl ⟨h, rfl, by omega⟩
theorem BackQ.mono {l : List StepD} {rs : List (List Int)} {fail : Int} {S : SagD} {todo : List OrdD} {und : List Int} {c c' : Nat} (h : BackQ l rs fail S todo und c) (hc : c ≤ c') : BackQ l rs fail S todo und c' := by
  rcases h with ⟨h1, h2, h3⟩ | ⟨h1, h2, h3⟩ | ⟨m, i, u, h1, h2⟩ | h1
  · exact .inl ⟨h1, h2, by omega⟩
  · exact .inr (.inl ⟨h1, h2, by omega⟩)
  · exact .inr (.inr (.inl ⟨m, i, u, h1, by omega⟩))
  · exact .inr (.inr (.inr h1))
theorem BackQ.done {d : DefD} {fail : Int} {S : SagD} {und : List Int} {c : Nat} (hc : cleanB d = true) (hf : 0 ≤ fail ∧ fail < (d.steps.length : Int)) (h : BackQ d.steps (depsA d.steps 0 d.steps) fail S [] und c) : BackD d.steps fail S [] und := by
  rcases h with ⟨h1, -, -⟩ | ⟨h1, -, -⟩ | ⟨m, i, u, h1, -⟩ | h1
  · exfalso
    obtain ⟨i, hi, hn, hd⟩ := clean_first hc (D := fun i => phaseI S (i : Int) = 3) ⟨fail.toNat, by omega, by
      have e : ((fail.toNat : Nat) : Int) = fail := by omega
      rw [e]
      exact h1.ff⟩
    have hr := h1.rd i hi
    rcases h1.ph i hi with h0 | h0 | h0
    · unfold readyB at hr
      rw [decide_eq_true h0, Bool.true_and] at hr
      have : ((depsA d.steps 0 d.steps)[i]?.getD []).all (fun j => decide (phaseI S j = 3)) = true := by
        rw [List.all_eq_true]
        intro j hj
        obtain ⟨y, rfl, _, hy⟩ := hd j hj
        exact decide_eq_true hy
      rw [this] at hr
      cases hr
    · obtain ⟨o, ho, _⟩ := h1.q.ask i hi h0
      cases ho
    · exact hn h0
  · exact absurd rfl h1.ne
  · cases h1.td
  · exact h1
theorem ansR_zero {s : StepD} {r : RunD} {now tr : Int} (h1 : r.1 = 1) (h2 : r.2.1 = tr) : ansR s r now tr 0 = ((3, r.2.1, 0, r.2.2.2), true) := by
  unfold ansR answerT
  rw [if_pos ⟨h1, h2⟩, if_pos rfl]
theorem ansR_two {s : StepD} {r : RunD} {now tr : Int} (h1 : r.1 = 1) (h2 : r.2.1 = tr) : ansR s r now tr 2 = ((4, r.2.1, 0, r.2.2.2), true) := by
  unfold ansR answerT
  rw [if_pos ⟨h1, h2⟩, if_neg (by decide), if_neg (by decide), if_pos rfl]
theorem sset_other {S : SagD} {k y : WayD} {r : RunD} (h : y ≠ k) : (S.set k r).runs y = S.runs y := by
  show (if y = k then r else S.runs y) = _
  rw [if_neg h]
theorem sset_same {S : SagD} {k : WayD} {r : RunD} : (S.set k r).runs k = r := by
  show (if k = k then r else S.runs k) = _
  rw [if_pos rfl]
theorem done_short {n : Nat} {S : SagD} {fail : Int} (h : InvS n S) (hf : 0 ≤ fail ∧ fail < (n : Int)) (hn : fail ∉ S.done) : S.done.length ≠ n := by
  have := nodup_sub_len (L := fail :: S.done) (M := (List.range n).map fun i : Nat => (i : Int)) (List.nodup_cons.2 ⟨hn, h.nd⟩) (fun x hx => by
    have h1 : 0 ≤ x ∧ x < (n : Int) := by
      rcases List.mem_cons.1 hx with rfl | h2
      · exact hf
      · exact h.dn x h2
    exact List.mem_map.2 ⟨x.toNat, List.mem_range.2 (by omega), by omega⟩)
  simp only [List.length_cons, List.length_map, List.length_range] at this
  omega
def overS (S : SagD) (i : Int) : SagD := { S.set (i, false) (3, (S.runs (i, false)).2.1, 0, (S.runs (i, false)).2.2.2) with done := S.done ++ [i] }
theorem overS_f {S : SagD} {i j : Int} (h : j ≠ i) : (overS S i).runs (j, false) = S.runs (j, false) := sset_other (S := S) (fun e => h (congrArg Prod.fst e))
theorem overS_t {S : SagD} {i j : Int} : (overS S i).runs (j, true) = S.runs (j, true) := sset_other (S := S) (fun e => by cases congrArg Prod.snd e)
theorem overS_i {S : SagD} {i : Int} : (overS S i).runs (i, false) = (3, (S.runs (i, false)).2.1, 0, (S.runs (i, false)).2.2.2) := sset_same (S := S)
theorem overS_phase {S : SagD} {i : Int} (j : Int) : phaseI (overS S i) j = if j = i then 3 else phaseI S j := by
  unfold phaseI
  by_cases e : j = i
  · subst e
    rw [overS_i, if_pos rfl]
  · rw [overS_f e, if_neg e]
theorem overS_put {S : SagD} {i : Int} (h : (S.runs (i, false)).1 ≠ 3) : putX (S, []) (i, false) (3, (S.runs (i, false)).2.1, 0, (S.runs (i, false)).2.2.2) = (overS S i, []) := by
  unfold putX
  rw [if_pos ⟨rfl, h, rfl⟩]
  rfl
theorem overS_inv {n : Nat} {S : SagD} {i : Int} (h : InvS n S) (hi : 0 ≤ i ∧ i < (n : Int)) (h3 : (S.runs (i, false)).1 ≠ 3) : InvS n (overS S i) := by
  have := InvS.put (X := (S, [])) (k := (i, false)) (r := (3, (S.runs (i, false)).2.1, 0, (S.runs (i, false)).2.2.2)) h hi (fun _ _ => rfl)
  rw [overS_put h3] at this
  exact this
theorem RunQ.over {n : Nat} {S : SagD} {o : OrdD} {rest : List OrdD} (h : RunQ n S (o :: rest)) : RunQ n (overS S o.1) rest := by
  obtain ⟨h0, h1, h2, h3, h4, h5⟩ := h.td o List.mem_cons_self
  have hnk := h.nk
  rw [List.map_cons, List.nodup_cons] at hnk
  have hne : ∀ p ∈ rest, p.1 ≠ o.1 := fun p hp e => hnk.1 (List.mem_map.2 ⟨p, hp, e⟩)
  refine ⟨overS_inv h.inv ⟨h0, h1⟩ (by omega), h.un, hnk.2, ?_, ?_, ?_⟩
  · intro p hpm
    obtain ⟨a0, a1, a2, a3, a4, a5⟩ := h.td p (List.mem_cons_of_mem _ hpm)
    have e := overS_f (S := S) (hne p hpm)
    exact ⟨a0, a1, a2, a3, by rw [e]; exact a4, by rw [e]; exact a5⟩
  · intro i hi hph
    rw [overS_phase] at hph
    by_cases e : (i : Int) = o.1
    · rw [if_pos e] at hph
      omega
    · rw [if_neg e] at hph
      obtain ⟨p, hpm, hpe⟩ := h.ask i hi hph
      rcases List.mem_cons.1 hpm with rfl | hpm
      · exact absurd hpe.symm e
      · exact ⟨p, hpm, hpe⟩
  · intro i
    rw [overS_t]
    exact h.ud i
def deadS (n : Nat) (S : SagD) (i : Int) : SagD := haltS n (S.set (i, false) (4, (S.runs (i, false)).2.1, 0, (S.runs (i, false)).2.2.2))
theorem deadS_t {n : Nat} {S : SagD} {i j : Int} : (deadS n S i).runs (j, true) = S.runs (j, true) := by
  unfold deadS haltS stopS
  dsimp only
  rw [if_neg (fun e => by cases e.1)]
  exact sset_other (fun e => by cases congrArg Prod.snd e)
theorem stopR_ph (r : RunD) : ((stopR r).1 = 1 ↔ r.1 = 1) ∧ ((stopR r).1 = 3 ↔ r.1 = 3) ∧ ((r.1 = 0 ∨ r.1 = 2 ∨ r.1 = 4) → (stopR r).1 = 4) ∧ (r.1 = 1 → (stopR r).2.1 = r.2.1) := by
  unfold stopR stopT
  by_cases h : r.1 = 0 ∨ r.1 = 2
  · rw [if_pos h]
    refine ⟨⟨fun e => absurd (show (4 : Int) = 1 from e) (by decide), fun e => by omega⟩, ⟨fun e => absurd (show (4 : Int) = 3 from e) (by decide), fun e => by omega⟩, fun _ => rfl, fun e => by omega⟩
  · rw [if_neg h]
    by_cases h1 : r.1 = 1
    · rw [if_pos h1]
      exact ⟨Iff.rfl, Iff.rfl, fun e => by omega, fun _ => rfl⟩
    · rw [if_neg h1]
      refine ⟨Iff.rfl, Iff.rfl, fun e => ?_, fun _ => rfl⟩
      show r.1 = 4
      omega
theorem deadS_f {n : Nat} {S : SagD} {i j : Int} (hj : 0 ≤ j ∧ j < (n : Int)) (h : j ≠ i) : (deadS n S i).runs (j, false) = stopR (S.runs (j, false)) := by
  show (if ((j, false) : WayD).2 = false ∧ 0 ≤ ((j, false) : WayD).1 ∧ ((j, false) : WayD).1 < (n : Int) then stopR ((S.set (i, false) _).runs (j, false)) else _) = _
  rw [if_pos ⟨rfl, hj.1, hj.2⟩, sset_other (fun e => h (congrArg Prod.fst e))]
theorem deadS_i {n : Nat} {S : SagD} {i : Int} (hi : 0 ≤ i ∧ i < (n : Int)) : phaseI (deadS n S i) i = 4 := by
  have e : (deadS n S i).runs (i, false) = stopR (4, (S.runs (i, false)).2.1, 0, (S.runs (i, false)).2.2.2) := by
    show (if ((i, false) : WayD).2 = false ∧ 0 ≤ ((i, false) : WayD).1 ∧ ((i, false) : WayD).1 < (n : Int) then stopR ((S.set (i, false) _).runs (i, false)) else _) = _
    rw [if_pos ⟨rfl, hi.1, hi.2⟩, sset_same]
  unfold phaseI
  rw [e]
  exact (stopR_ph _).2.2.1 (.inr (.inr rfl))
theorem RunQ.dead {n : Nat} {S : SagD} {o : OrdD} {rest : List OrdD} (h : RunQ n S (o :: rest)) : RunQ n (deadS n S o.1) rest := by
  obtain ⟨h0, h1, h2, h3, h4, h5⟩ := h.td o List.mem_cons_self
  have hnk := h.nk
  rw [List.map_cons, List.nodup_cons] at hnk
  have hne : ∀ p ∈ rest, p.1 ≠ o.1 := fun p hp e => hnk.1 (List.mem_map.2 ⟨p, hp, e⟩)
  have hnd : o.1 ∉ S.done := fun e => by have := h.inv.ov _ e; omega
  refine ⟨⟨h.inv.dn, h.inv.nd, fun i hi => ?_, h.inv.ul⟩, h.un, hnk.2, ?_, ?_, ?_⟩
  · have hi : i ∈ S.done := hi
    rw [deadS_f (h.inv.dn i hi) (fun e => hnd (by rw [← e]; exact hi))]
    exact (stopR_ph _).2.1.2 (h.inv.ov i hi)
  · intro p hpm
    obtain ⟨a0, a1, a2, a3, a4, a5⟩ := h.td p (List.mem_cons_of_mem _ hpm)
    have e := deadS_f (S := S) ⟨a0, a1⟩ (hne p hpm)
    exact ⟨a0, a1, a2, a3, by rw [e]; exact (stopR_ph _).1.2 a4, by rw [e, (stopR_ph _).2.2.2 a4]; exact a5⟩
  · intro i hi hph
    by_cases e : (i : Int) = o.1
    · rw [e, deadS_i ⟨h0, h1⟩] at hph
      omega
    · unfold phaseI at hph
      rw [deadS_f ⟨by omega, by omega⟩ e] at hph
      obtain ⟨p, hpm, hpe⟩ := h.ask i hi ((stopR_ph _).1.1 hph)
      rcases List.mem_cons.1 hpm with rfl | hpm
      · exact absurd hpe.symm e
      · exact ⟨p, hpm, hpe⟩
  · intro i
    rw [deadS_t]
    exact h.ud i
def outQ (fail : Int) (o : OrdD) : Int := if o.2.2.1 = true then 0 else if o.1 = fail then 2 else 0
theorem no_asked {n : Nat} {S : SagD} (h : RunQ n S []) : anyB n S 1 = false := anyB_not (fun i hi e => by
  obtain ⟨p, hp, _⟩ := h.ask i hi e
  cases hp)
theorem some_asked {n : Nat} {S : SagD} {p : OrdD} {rest : List OrdD} (h : RunQ n S (p :: rest)) : anyB n S 1 = true := by
  obtain ⟨a0, a1, a2, a3, a4, a5⟩ := h.td p List.mem_cons_self
  refine anyB_iff.2 ⟨p.1.toNat, by omega, ?_⟩
  have e : ((p.1.toNat : Nat) : Int) = p.1 := by omega
  rw [e]
  exact a4
theorem answer_A {l : List StepD} {rs : List (List Int)} {fail : Int} {S : SagD} {o : OrdD} {rest : List OrdD} {c : Nat} (hf : 0 ≤ fail ∧ fail < (l.length : Int)) (h : BackA l rs fail S (o :: rest)) (hc : 4 * l.length + 1 ≤ c + S.done.length) :
    (answerX l rs S (o.1, o.2.2.1) o.2.1 (outQ fail o) 0).2 = true ∧ BackQ l rs fail (answerX l rs S (o.1, o.2.2.1) o.2.1 (outQ fail o) 0).1.1 (rest ++ (answerX l rs S (o.1, o.2.2.1) o.2.1 (outQ fail o) 0).1.2) [] (c - 1) := by
  obtain ⟨h0, h1, h2, h3, h4, h5⟩ := h.q.td o List.mem_cons_self
  have hdl := h.q.inv.dl
  have hrl := h.q.short
  rw [List.length_cons] at hrl
  have hnf : fail ∉ S.done := fun e => h.ff (h.q.inv.ov _ e)
  have hmv : movB S = true := by unfold movB; rw [h.st]; rfl
  have hoq : outQ fail o = if o.1 = fail then 2 else 0 := by
    unfold outQ
    rw [h2, if_neg (by decide)]
  rw [h2, hoq]
  unfold answerX
  rw [if_pos ⟨hmv, h0, h1⟩]
  dsimp only
  by_cases he : o.1 = fail
  · rw [if_pos he, ansR_two h4 (h5.trans h3.symm), if_pos rfl]
    have hp : putX (S, []) (o.1, false) (4, (S.runs (o.1, false)).2.1, 0, (S.runs (o.1, false)).2.2.2) = (S.set (o.1, false) (4, (S.runs (o.1, false)).2.1, 0, (S.runs (o.1, false)).2.2.2), []) := by
      unfold putX
      rw [if_neg (fun e => absurd (show (4 : Int) = 3 from e.1) (by decide)), if_neg (fun e => absurd (show (4 : Int) = 1 from e.1) (by decide))]
    have ho : onX l rs 0 (S.set (o.1, false) (4, (S.runs (o.1, false)).2.1, 0, (S.runs (o.1, false)).2.2.2), []) = backX l 0 (deadS l.length S o.1, []) := by
      have e4 : anyB l.length (S.set (o.1, false) (4, (S.runs (o.1, false)).2.1, 0, (S.runs (o.1, false)).2.2.2)) 4 = true := anyB_iff.2 ⟨o.1.toNat, by omega, by
        have e : ((o.1.toNat : Nat) : Int) = o.1 := by omega
        unfold phaseI
        rw [e, sset_same]⟩
      unfold onX
      dsimp only
      rw [if_pos (show (S.set (o.1, false) _).status = 1 from h.st)]
      unfold forthX
      dsimp only
      rw [e4, if_pos rfl]
      exact if_pos rfl
    rw [hp, ho]
    have hq := h.q.dead
    refine ⟨rfl, ?_⟩
    rcases rest with _ | ⟨p, rest⟩
    · rw [List.nil_append]
      exact (back_begin (rs := rs) hq.inv rfl (no_asked hq) hq.un hq.ud hnf rfl).mono (by show S.done.length ≤ _; omega)
    · have eb : backX l 0 (deadS l.length S o.1, []) = (deadS l.length S o.1, []) := by
        unfold backX
        rw [some_asked hq, if_pos rfl]
      rw [eb, List.append_nil]
      rw [List.length_cons] at hrl
      refine .inr (.inl ⟨⟨hq, rfl, (by simp), fun i hi => ?_, by rw [← he]; exact deadS_i ⟨h0, h1⟩⟩, rfl, by show 2 * (p :: rest).length + S.done.length ≤ _; rw [List.length_cons]; omega⟩)
      by_cases e : (i : Int) = o.1
      · rw [e, deadS_i ⟨h0, h1⟩]
        exact .inr (.inr rfl)
      · have ef := deadS_f (S := S) (n := l.length) (i := o.1) (j := (i : Int)) ⟨by omega, by omega⟩ e
        unfold phaseI
        rw [ef]
        rcases h.ph i hi with e1 | e1 | e1
        · exact .inr (.inr ((stopR_ph _).2.2.1 (.inl e1)))
        · exact .inl ((stopR_ph _).1.2 e1)
        · exact .inr (.inl ((stopR_ph _).2.1.2 e1))
  · rw [if_neg he, ansR_zero h4 (h5.trans h3.symm), if_pos rfl, overS_put (by omega)]
    have hq := h.q.over
    have hff : phaseI (overS S o.1) fail ≠ 3 := by
      rw [overS_phase, if_neg (fun e => he e.symm)]
      exact h.ff
    have hph : ∀ i : Nat, i < l.length → phaseI (overS S o.1) (i : Int) = 0 ∨ phaseI (overS S o.1) (i : Int) = 1 ∨ phaseI (overS S o.1) (i : Int) = 3 := fun i hi => by
      rw [overS_phase]
      split
      · exact .inr (.inr rfl)
      · exact h.ph i hi
    have hst : (overS S o.1).status = 1 := h.st
    have hA := BackA.of_fold (rs := rs) hq hst hph (fun i e => by
      by_cases e2 : i = o.1
      · subst e2
        rw [overS_i] at e
        exact absurd (show (3 : Int) = 0 from e) (by decide)
      · rw [overS_f e2] at e ⊢
        exact h.id i e) hff
    have ho : onX l rs 0 (overS S o.1, []) = (List.range l.length).foldl (begX l rs 0) (overS S o.1, []) := by
      have ef : forthX l rs 0 (overS S o.1, []) = (List.range l.length).foldl (begX l rs 0) (overS S o.1, []) := by
        unfold forthX
        rw [if_neg, if_neg]
        · exact done_short hq.inv hf (fun e => hff (hq.inv.ov _ e))
        · rw [anyB_not (fun i hi e => by have := hph i hi; dsimp only at e; omega)]
          decide
      unfold onX
      dsimp only
      rw [if_pos hst, ef, if_neg]
      have := hA.st
      omega
    have hY := (begs_spec l rs 0 (overS S o.1, []) (fun i e => by
      have e : ((overS S o.1).runs (i, false)).1 = 0 := e
      show ((overS S o.1).runs (i, false)).2.1 = 0
      by_cases e2 : i = o.1
      · subst e2
        rw [overS_i] at e
        exact absurd (show (3 : Int) = 0 from e) (by decide)
      · rw [overS_f e2] at e ⊢
        exact h.id i e) l.length).done
    rw [ho]
    refine ⟨rfl, .inl ⟨hA, rfl, ?_⟩⟩
    rw [hY]
    show _ ≤ _ + (S.done ++ [o.1]).length
    rw [List.length_append, List.length_singleton]
    omega
theorem answer_B {l : List StepD} {rs : List (List Int)} {fail : Int} {S : SagD} {o : OrdD} {rest : List OrdD} {c : Nat} (h : BackB l fail S (o :: rest)) (hc : 2 * (o :: rest).length + S.done.length ≤ c) :
    (answerX l rs S (o.1, o.2.2.1) o.2.1 (outQ fail o) 0).2 = true ∧ BackQ l rs fail (answerX l rs S (o.1, o.2.2.1) o.2.1 (outQ fail o) 0).1.1 (rest ++ (answerX l rs S (o.1, o.2.2.1) o.2.1 (outQ fail o) 0).1.2) [] (c - 1) := by
  obtain ⟨h0, h1, h2, h3, h4, h5⟩ := h.q.td o List.mem_cons_self
  have he : o.1 ≠ fail := fun e => by
    have := h.ff
    unfold phaseI at this
    rw [← e] at this
    omega
  have hmv : movB S = true := by unfold movB; rw [h.st]; rfl
  have hoq : outQ fail o = if o.1 = fail then 2 else 0 := by
    unfold outQ
    rw [h2, if_neg (by decide)]
  rw [h2, hoq]
  unfold answerX
  rw [if_pos ⟨hmv, h0, h1⟩]
  dsimp only
  rw [if_neg he, ansR_zero h4 (h5.trans h3.symm), if_pos rfl, overS_put (by omega)]
  have hq := h.q.over
  have hst : (overS S o.1).status = 2 := h.st
  have ho : onX l rs 0 (overS S o.1, []) = backX l 0 (overS S o.1, []) := by
    have e1 : (if (overS S o.1).status = 1 then forthX l rs 0 (overS S o.1, []) else (overS S o.1, [])) = (overS S o.1, []) := if_neg (by rw [hst]; decide)
    unfold onX
    dsimp only
    rw [e1]
    exact if_pos hst
  rw [ho]
  have hff : phaseI (overS S o.1) fail = 4 := by
    rw [overS_phase, if_neg (fun e => he e.symm)]
    exact h.ff
  have hnf : fail ∉ (overS S o.1).done := fun e => by
    have := hq.inv.ov _ e
    unfold phaseI at hff
    omega
  have hdn : (overS S o.1).done.length = S.done.length + 1 := by
    show (S.done ++ [o.1]).length = _
    rw [List.length_append, List.length_singleton]
  rw [List.length_cons] at hc
  refine ⟨rfl, ?_⟩
  rcases rest with _ | ⟨p, rest⟩
  · rw [List.nil_append]
    exact (back_begin (rs := rs) hq.inv hst (no_asked hq) hq.un hq.ud hnf rfl).mono (by rw [hdn]; omega)
  · have eb : backX l 0 (overS S o.1, []) = (overS S o.1, []) := by
      unfold backX
      rw [some_asked hq, if_pos rfl]
    rw [eb, List.append_nil]
    refine .inr (.inl ⟨⟨hq, hst, (by simp), fun i hi => ?_, hff⟩, rfl, by rw [hdn]; omega⟩)
    rw [overS_phase]
    split
    · exact .inr (.inl rfl)
    · exact h.ph i hi
theorem answer_C {l : List StepD} {rs : List (List Int)} {fail : Int} {S : SagD} {todo : List OrdD} {und : List Int} {m : Nat} {i u : Int} {c : Nat} (h : BackC l fail S todo und m i u) (hc : m + 1 ≤ c) :
    (answerX l rs S (i, true) 1 0 0).2 = true ∧ BackQ l rs fail (answerX l rs S (i, true) 1 0 0).1.1 (answerX l rs S (i, true) 1 0 0).1.2 (und ++ [i]) (c - 1) := by
  have hml : m < S.done.length := by
    have := h.mi
    rcases Nat.lt_or_ge m S.done.length with h1 | h1
    · exact h1
    · rw [List.getElem?_eq_none h1] at this
      cases this
  have hgi : S.done[m] = i := by
    have := h.mi
    rw [List.getElem?_eq_getElem hml] at this
    exact Option.some.inj this
  have hmem : i ∈ S.done := hgi ▸ List.getElem_mem hml
  obtain ⟨h0, h1⟩ := h.inv.dn i hmem
  have hmv : movB S = true := by unfold movB; rw [h.st]; rfl
  unfold answerX
  rw [if_pos ⟨hmv, h0, h1⟩]
  dsimp only
  rw [ansR_zero h.r1 h.r2, if_pos rfl]
  have hp : putX (S, []) (i, true) (3, (S.runs (i, true)).2.1, 0, (S.runs (i, true)).2.2.2) = (S.set (i, true) (3, (S.runs (i, true)).2.1, 0, (S.runs (i, true)).2.2.2), []) := by
    unfold putX
    rw [if_neg (fun e => by cases e.2.2), if_neg (fun e => absurd (show (3 : Int) = 1 from e.1) (by decide))]
  rw [hp]
  have hul : S.undone.length = S.done.length - (m + 1) := by rw [h.un]; simp
  have ho : onX l rs 0 (S.set (i, true) (3, (S.runs (i, true)).2.1, 0, (S.runs (i, true)).2.2.2), []) = backL l 0 m ({ S.set (i, true) (3, (S.runs (i, true)).2.1, 0, (S.runs (i, true)).2.2.2) with undone := S.undone ++ [i] }, []) := by
    have e1 : (if (S.set (i, true) (3, (S.runs (i, true)).2.1, 0, (S.runs (i, true)).2.2.2)).status = 1 then forthX l rs 0 (S.set (i, true) (3, (S.runs (i, true)).2.1, 0, (S.runs (i, true)).2.2.2), []) else (S.set (i, true) (3, (S.runs (i, true)).2.1, 0, (S.runs (i, true)).2.2.2), [])) = (S.set (i, true) (3, (S.runs (i, true)).2.1, 0, (S.runs (i, true)).2.2.2), []) := if_neg (by show ¬ S.status = 1; rw [h.st]; decide)
    unfold onX
    dsimp only
    rw [e1, if_pos (show (S.set (i, true) (3, (S.runs (i, true)).2.1, 0, (S.runs (i, true)).2.2.2)).status = 2 from h.st)]
    unfold backX
    dsimp only
    rw [anyB_setT, h.no1, if_neg (by decide)]
    have e : (S.set (i, true) (3, (S.runs (i, true)).2.1, 0, (S.runs (i, true)).2.2.2)).done.length - (S.set (i, true) (3, (S.runs (i, true)).2.1, 0, (S.runs (i, true)).2.2.2)).undone.length = m + 1 := by
      show S.done.length - S.undone.length = m + 1
      omega
    rw [e]
    have ex : S.done[S.done.length - 1 - S.undone.length]?.getD 0 = i := by
      rw [show S.done.length - 1 - S.undone.length = m by omega, h.mi]
      rfl
    show (if (l[(S.done[S.done.length - 1 - S.undone.length]?.getD 0).toNat]?.getD default).undo = { data := #[] } ∨ ((S.set (i, true) (3, (S.runs (i, true)).2.1, 0, (S.runs (i, true)).2.2.2)).runs (S.done[S.done.length - 1 - S.undone.length]?.getD 0, true)).1 = 3 then backL l 0 m ({ S.set (i, true) (3, (S.runs (i, true)).2.1, 0, (S.runs (i, true)).2.2.2) with undone := S.undone ++ [S.done[S.done.length - 1 - S.undone.length]?.getD 0] }, []) else _) = _
    rw [ex, if_pos (.inr (by rw [sset_same]))]
  rw [ho]
  have hdr : (S.done.drop m).reverse = (S.done.drop (m + 1)).reverse ++ [i] := by
    rw [List.drop_eq_getElem_cons hml, List.reverse_cons, hgi]
  have hne : ∀ j ∈ S.done.take m, j ≠ i := by
    rintro j hj rfl
    have hnd := h.inv.nd
    have e2 : S.done = S.done.take m ++ j :: S.done.drop (m + 1) := by
      rw [← hgi, ← List.drop_eq_getElem_cons hml, List.take_append_drop]
    rw [e2, List.nodup_append] at hnd
    exact hnd.2.2 j hj j (by simp) rfl
  have hg := backL_go (l := l) (fail := fail) m ({ S.set (i, true) (3, (S.runs (i, true)).2.1, 0, (S.runs (i, true)).2.2.2) with undone := S.undone ++ [i] }, []) ⟨⟨h.inv.dn, h.inv.nd, fun j hj => ?_, ?_⟩, h.st, ?_, by show m ≤ S.done.length; omega, by show S.undone ++ [i] = (S.done.drop m).reverse; rw [hdr, h.un], fun j hj => ?_, h.ff⟩
  · have hfl : (S.undone ++ [i]).filter (undB l) = und ++ [i] := by
      rw [List.filter_append, List.filter_cons_of_pos h.hu, List.filter_nil, h.ud]
    dsimp only at hg
    rw [hfl] at hg
    refine ⟨rfl, ?_⟩
    rcases hg with ⟨m', i', u', g1, g2, g3⟩ | ⟨g2, g3⟩
    · rw [g3, List.nil_append]
      exact .inr (.inr (.inl ⟨m', i', u', g2, by omega⟩))
    · rw [g3]
      exact .inr (.inr (.inr g2))
  · show ((S.set (i, true) _).runs (j, false)).1 = 3
    rw [sset_other (fun e => by cases congrArg Prod.snd e)]
    exact h.inv.ov j hj
  · show (S.undone ++ [i]).length ≤ S.done.length
    rw [List.length_append, List.length_singleton]
    omega
  · have := h.no1
    rw [← anyB_setT (i := i) (r := (3, (S.runs (i, true)).2.1, 0, (S.runs (i, true)).2.2.2))] at this
    exact this
  · have hj : j ∈ S.done.take m := hj
    show (S.set (i, true) _).runs (j, true) = idleR
    rw [sset_other (fun e => hne j hj (congrArg Prod.fst e))]
    exact h.id j hj
theorem BackQ.answer {l : List StepD} {rs : List (List Int)} {fail : Int} {S : SagD} {o : OrdD} {rest : List OrdD} {und : List Int} {c : Nat} (hf : 0 ≤ fail ∧ fail < (l.length : Int)) (h : BackQ l rs fail S (o :: rest) und c) :
    1 ≤ c ∧ InvS l.length S ∧ (answerX l rs S (o.1, o.2.2.1) o.2.1 (outQ fail o) 0).2 = true ∧
      BackQ l rs fail (answerX l rs S (o.1, o.2.2.1) o.2.1 (outQ fail o) 0).1.1 (rest ++ (answerX l rs S (o.1, o.2.2.1) o.2.1 (outQ fail o) 0).1.2) (if o.2.2.1 = true then und ++ [o.1] else und) (c - 1) := by
  rcases h with ⟨h1, rfl, h3⟩ | ⟨h1, rfl, h3⟩ | ⟨m, i, u, h1, h2⟩ | h1
  · have hu := (h1.q.td o List.mem_cons_self).2.2.1
    have hd := h1.q.inv.dl
    obtain ⟨a, b⟩ := answer_A hf h1 h3
    rw [hu, if_neg (by decide)]
    rw [hu] at a b
    exact ⟨by omega, h1.q.inv, a, b⟩
  · have hu := (h1.q.td o List.mem_cons_self).2.2.1
    obtain ⟨a, b⟩ := answer_B (rs := rs) h1 h3
    rw [List.length_cons] at h3
    rw [hu, if_neg (by decide)]
    rw [hu] at a b
    exact ⟨by omega, h1.q.inv, a, b⟩
  · have e := h1.td
    simp only [List.cons.injEq] at e
    obtain ⟨rfl, rfl⟩ := e
    obtain ⟨a, b⟩ := answer_C (rs := rs) h1 h2
    rw [if_pos rfl]
    exact ⟨by omega, h1.inv, a, b⟩
  · cases h1.td
end Go.Proofs.YtgfiogjfgbegpaaGreat

/-
  What WholeAlone's walk needs: nine stores, orders compared, asks read.
-/
namespace Go.Proofs.YtgfiogjfgbegpaaGreat
open Go Go.RowKit Go.Maps Go.WideShapes

theorem SagE.moved {w w' : World} {V : Nat → Prop} {k : SagK} {S : SagD} (h : SagE w V k S) (hs : w.heap.size ≤ w'.heap.size) (hN : ∀ j, j < k.N → ¬ V j → w'.heap[j]? = w.heap[j]?) (hV : ∀ j, V j → j < w.heap.size → w'.heap[j]? = w.heap[j]?) : SagE w' V k S := by
  obtain ⟨da, dc, ua, uc, h⟩ := h
  obtain ⟨L, g, q1, q2⟩ := h.map
  exact ⟨da, dc, ua, uc, ⟨(hV _ h.ownp h.ltp).trans h.cell, h.df.same hs hN, h.refs.same hs hN, ⟨L, g, q1.block (hV _ h.ownm q1.lt), q2⟩, ownsRow_keepB h.done (fun g e => hV g (h.ownd g e) (h.done.lt g e).2), ownsRow_keepB h.undone (fun g e => hV g (h.ownu g e) (h.undone.lt g e).2), h.apart, h.ownp, h.ownm, h.ownd, h.ownu⟩⟩
theorem SagE.bound {w : World} {V : Nat → Prop} {k : SagK} {S : SagD} (h : SagE w V k S) : k.N ≤ w.heap.size := by
  obtain ⟨da, dc, ua, uc, h⟩ := h
  exact h.df.1
theorem sag_set {W : World} {V : Nat → Prop} {k : SagK} {S : SagD} {e : Nat} {i : Nat} {x : Value} (h : SagE W V k S) (he : ¬ V e) (hN : k.N ≤ e) : SagE (W.setCell ⟨e, i, none⟩ x) V k S :=
  h.moved (by simp) (fun j hj _ => Below.heap_setCell _ _ _ _ (by show j ≠ e; omega)) (fun j hj _ => Below.heap_setCell _ _ _ _ (by show j ≠ e; rintro rfl; exact he hj))
theorem CallTo.after {W w' : World} {V : Nat → Prop} {k : SagK} {Z : SagD} {os : List OrdD} {v : Value} {B : Nat} (h : CallTo W V w' k Z os v) (hV : ∀ j, V j → B ≤ j ∧ j < W.heap.size) (hB : B ≤ W.heap.size) :
    ∃ (V' : Nat → Prop) (va : Option Addr) (vc : Nat), v = .slice va os.length vc ∧ w'.ownsRow W.heap.size 55 4 (.slice va os.length vc) os.length (flatO os) ∧ SagE w' V' k Z ∧ (∀ j, V' j → B ≤ j ∧ j < w'.heap.size) ∧ Below B W w' ∧ ∀ j, j < W.heap.size → ¬ V j → w'.heap[j]? = W.heap[j]? ∧ ¬ V' j := by
  obtain ⟨V', va, vc, e, hr, -, hS, hG, hU⟩ := h
  have hb := hG.below (B := B) (fun j hj => (hV j hj).1) hB
  exact ⟨V', va, vc, e, hr, hS, fun j hj => ⟨hb.2 j hj, hU j hj⟩, hb.1, fun j hj hn => hG.stays hj hn⟩
end Go.Proofs.YtgfiogjfgbegpaaGreat

/-
  reach.Drive: what lies in memory while a saga is driven.
-/
namespace Go.Proofs.YtgfiogjfgbegpaaGreat
open Go Go.RowKit Go.Maps Go.WideShapes

structure DrvM (w : World) (k : SagK) (eS eO eA : Nat) (V : Nat → Prop) (W : World) (t : Int) (q : SagD × Int) : Prop where
  sag : SagE W V k q.1
  inv : InvS k.d.steps.length q.1
  bS : W.heap[eS]? = some (.cells #[.pointer (some ⟨k.p, 0, none⟩)] 48 (0, 0))
  bO : W.heap[eO]? = some (.cells #[.int .i64 q.2] 3 (0, 0))
  bA : W.heap[eA]? = some (.cells #[.int .i64 t] 2 (0, 0))
  low : Below w.heap.size w W
  vB : ∀ j, V j → w.heap.size ≤ j ∧ j < W.heap.size ∧ j ≠ eS ∧ j ≠ eO ∧ j ≠ eA
  ne : eS ≠ eO ∧ eO ≠ eA ∧ eS ≠ eA
  ge : w.heap.size ≤ eS ∧ w.heap.size ≤ eO ∧ w.heap.size ≤ eA
  nN : k.N ≤ eO ∧ k.N ≤ eA
section
variable {w W W' : World} {k : SagK} {eS eO eA : Nat} {V : Nat → Prop} {t : Int} {q : SagD × Int}
theorem DrvM.moved (h : DrvM w k eS eO eA V W t q) (hl : Below w.heap.size w W') (hs : W.heap.size ≤ W'.heap.size) (hN : ∀ j, j < k.N → ¬ V j → W'.heap[j]? = W.heap[j]?) (hV : ∀ j, V j → W'.heap[j]? = W.heap[j]?) (h1 : W'.heap[eS]? = W.heap[eS]?) (h2 : W'.heap[eO]? = W.heap[eO]?) (h3 : W'.heap[eA]? = W.heap[eA]?) : DrvM w k eS eO eA V W' t q :=
  ⟨h.sag.moved hs hN (fun j hj _ => hV j hj), h.inv, h1.trans h.bS, h2.trans h.bO, h3.trans h.bA, hl, fun j hj => by have := h.vB j hj; omega, h.ne, h.ge, h.nN⟩
theorem DrvM.lt (h : DrvM w k eS eO eA V W t q) : eS < W.heap.size ∧ eO < W.heap.size ∧ eA < W.heap.size := ⟨(Array.getElem?_eq_some_iff.1 h.bS).1, (Array.getElem?_eq_some_iff.1 h.bO).1, (Array.getElem?_eq_some_iff.1 h.bA).1⟩
theorem DrvM.below (h : DrvM w k eS eO eA V W t q) (hb : Below W.heap.size W W') : DrvM w k eS eO eA V W' t q := by
  obtain ⟨l1, l2, l3⟩ := h.lt
  have hk := h.sag.bound
  exact h.moved (bthen h.low (Nat.le_refl _) hb) hb.size (fun j hj _ => hb.block j (by omega)) (fun j hj => hb.block j (h.vB j hj).2.1) (hb.block _ l1) (hb.block _ l2) (hb.block _ l3)
theorem DrvM.call {S' : SagD} {os : List OrdD} {v : Value} (h : DrvM w k eS eO eA V W t q) (hc : CallTo W V W' k S' os v) (hi : InvS k.d.steps.length S') :
    ∃ (V' : Nat → Prop) (va : Option Addr) (vc : Nat), v = .slice va os.length vc ∧ DrvM w k eS eO eA V' W' t (S', q.2) ∧ ∀ j, j < W.heap.size → ¬ V j → W'.heap[j]? = W.heap[j]? ∧ ¬ V' j := by
  obtain ⟨V', va, vc, e, hr, hS, hV', hb, hst⟩ := hc.after (B := w.heap.size) (fun j hj => ⟨(h.vB j hj).1, (h.vB j hj).2.1⟩) h.low.size
  obtain ⟨l1, l2, l3⟩ := h.lt
  have s1 := hst eS l1 (fun e => (h.vB _ e).2.2.1 rfl)
  have s2 := hst eO l2 (fun e => (h.vB _ e).2.2.2.1 rfl)
  have s3 := hst eA l3 (fun e => (h.vB _ e).2.2.2.2 rfl)
  exact ⟨V', va, vc, e, ⟨hS, hi, s1.1.trans h.bS, s2.1.trans h.bO, s3.1.trans h.bA, h.low.trans hb, fun j hj => ⟨(hV' j hj).1, (hV' j hj).2, fun e => s1.2 (e ▸ hj), fun e => s2.2 (e ▸ hj), fun e => s3.2 (e ▸ hj)⟩, h.ne, h.ge, h.nN⟩, hst⟩
theorem set1 {W : World} {B : Nat} {v : Value} {t : TypeId} (x : Value) (h : W.heap[B]? = some (.cells #[v] t (0, 0))) : (W.setCell ⟨B, 0, none⟩ x).heap[B]? = some (.cells #[x] t (0, 0)) := by
  have := setCell_heap 0 x h
  simpa using this
theorem DrvM.setO (h : DrvM w k eS eO eA V W t q) (x : Int) : DrvM w k eS eO eA V (W.setCell ⟨eO, 0, none⟩ (.int .i64 x)) t (q.1, x) :=
  ⟨sag_set h.sag (fun e => (h.vB _ e).2.2.2.1 rfl) h.nN.1, h.inv, (Below.heap_setCell _ _ _ _ h.ne.1).trans h.bS, set1 _ h.bO, (Below.heap_setCell _ _ _ _ h.ne.2.1.symm).trans h.bA, h.low.setCell h.ge.2.1 _, fun j hj => by have := h.vB j hj; simpa using this, h.ne, h.ge, h.nN⟩
theorem DrvM.setA (h : DrvM w k eS eO eA V W t q) (x : Int) : DrvM w k eS eO eA V (W.setCell ⟨eA, 0, none⟩ (.int .i64 x)) x q :=
  ⟨sag_set h.sag (fun e => (h.vB _ e).2.2.2.2 rfl) h.nN.2, h.inv, (Below.heap_setCell _ _ _ _ h.ne.2.2).trans h.bS, (Below.heap_setCell _ _ _ _ h.ne.2.1).trans h.bO, set1 _ h.bA, h.low.setCell h.ge.2.2 _, fun j hj => by have := h.vB j hj; simpa using this, h.ne, h.ge, h.nN⟩
def DrJ (w : World) (k : SagK) (eS eO eA B2 : Nat) (ss : List SayD) (b : Nat) (S : Nat → Prop) (pre : List Nat) (W : World) : Prop :=
  ∃ (V : Nat → Prop) (t : Int) (q : SagD × Int), DrvM w k eS eO eA V W t q ∧ driveO k.d.steps k.rs ss (List.range (b + 1)) (beginO k.d.steps k.rs) = driveO k.d.steps k.rs ss ((List.range (b + 1)).drop pre.length) (t, q) ∧
    (∀ j, V j → ¬ S j) ∧ ¬ S eS ∧ ¬ S eO ∧ ¬ S eA ∧ ∀ j, S j → B2 ≤ j
def DrX (w : World) (k : SagK) (eS eO eA B2 : Nat) (ss : List SayD) (b : Nat) (S : Nat → Prop) (W : World) : Prop :=
  ∃ (V : Nat → Prop) (t : Int) (q : SagD × Int), DrvM w k eS eO eA V W t q ∧ driveO k.d.steps k.rs ss (List.range (b + 1)) (beginO k.d.steps k.rs) = (t, q) ∧
    (∀ j, V j → ¬ S j) ∧ ¬ S eS ∧ ¬ S eO ∧ ¬ S eA ∧ ∀ j, S j → B2 ≤ j
theorem DrvM.step {S S' : Nat → Prop} {B2 : Nat} (h : DrvM w k eS eO eA V W t q) (hs : Step 0 S S' W W') (hB2 : w.heap.size ≤ B2) (hN : k.N ≤ B2) (hV : ∀ j, V j → ¬ S j) (h1 : ¬ S eS) (h2 : ¬ S eO) (h3 : ¬ S eA) (hS : ∀ j, S j → B2 ≤ j) (hz : B2 ≤ W.heap.size) :
    DrvM w k eS eO eA V W' t q ∧ (∀ j, V j → ¬ S' j) ∧ ¬ S' eS ∧ ¬ S' eO ∧ ¬ S' eA ∧ ∀ j, S' j → B2 ≤ j := by
  obtain ⟨l1, l2, l3⟩ := h.lt
  have hk := h.sag.bound
  have hl := h.low.size
  have nw : ∀ j, j < W.heap.size → ¬ S j → ¬ S' j := fun j hj hn e => (hs.new j e).elim hn (fun e => by omega)
  refine ⟨h.moved ⟨hs.below.os.trans h.low.os, hs.below.tape.trans h.low.tape, hs.below.output.trans h.low.output, Nat.le_trans hl hs.below.size, fun j hj => (hs.same j (by omega) (fun e => by have := hS j e; omega)).trans (h.low.block j hj)⟩ hs.below.size (fun j hj _ => hs.same j (by omega) (fun e => by have := hS j e; omega)) (fun j hj => hs.same j (h.vB j hj).2.1 (hV j hj)) (hs.same _ l1 h1) (hs.same _ l2 h2) (hs.same _ l3 h3), fun j hj => nw j (h.vB j hj).2.1 (hV j hj), nw _ l1 h1, nw _ l2 h2, nw _ l3 h3, fun j hj => (hs.new j hj).elim (hS j) (fun e => by omega)⟩
theorem DrJ_stable (w : World) (k : SagK) (eS eO eA B2 : Nat) (ss : List SayD) (b : Nat) (hB2 : w.heap.size ≤ B2) (hN : k.N ≤ B2) (Z : Nat) (hZ : B2 ≤ Z) : Stable 0 (fun S pre W => DrJ w k eS eO eA B2 ss b S pre W ∧ Z ≤ W.heap.size) := by
  rintro S S' pre A C hS ⟨⟨V, t, q, h, hd, h1, h2, h3, h4, h5⟩, hz⟩ hs
  obtain ⟨g0, g1, g2, g3, g4, g5⟩ := h.step hs hB2 hN h1 h2 h3 h4 h5 (by omega)
  exact ⟨⟨V, t, q, g0, hd, g1, g2, g3, g4, g5⟩, Nat.le_trans hz hs.below.size⟩
theorem DrX_stable (w : World) (k : SagK) (eS eO eA B2 : Nat) (ss : List SayD) (b : Nat) (hB2 : w.heap.size ≤ B2) (hN : k.N ≤ B2) (Z : Nat) (hZ : B2 ≤ Z) : Stable (α := Nat) 0 (fun S _ W => DrX w k eS eO eA B2 ss b S W ∧ Z ≤ W.heap.size) := by
  rintro S S' pre A C hS ⟨⟨V, t, q, h, hd, h1, h2, h3, h4, h5⟩, hz⟩ hs
  obtain ⟨g0, g1, g2, g3, g4, g5⟩ := h.step hs hB2 hN h1 h2 h3 h4 h5 (by omega)
  exact ⟨⟨V, t, q, g0, hd, g1, g2, g3, g4, g5⟩, Nat.le_trans hz hs.below.size⟩
end
theorem fine_new {k : SagK} {d : DefD} (h1 : k.d = d) (h2 : k.rs = depsA d.steps 0 d.steps) (hs : SmallD d) : FineK k := by
  subst h1
  refine ⟨hs, by rw [h2, depsA_len], fun r hr j hj => ?_⟩
  rw [h2] at hr
  obtain ⟨i, hi, rfl⟩ := List.getElem_of_mem hr
  rw [depsA_len] at hi
  have := depsA_get k.d.steps k.d.steps 0 i hi
  rw [List.getElem?_eq_getElem (by rw [depsA_len]; exact hi), Option.some.injEq] at this
  rw [this] at hj
  obtain ⟨n, rfl, hn⟩ := depsD_in _ _ _ _ hj
  omega
def drvD (d : DefD) (ss : List SayD) : Int × Int × Int := if cleanB d = true then driveX d.steps (depsA d.steps 0 d.steps) ss (boundI d).toNat else (0, 0, 0)
end Go.Proofs.YtgfiogjfgbegpaaGreat

/-
  reach.Drive: contract.
-/
namespace Go.Proofs.YtgfiogjfgbegpaaGreat
open Go Go.RowKit Go.Maps Go.WideShapes
attribute [local go_sem] Oper.semAt_some wide_fn wide_depth wide_fn' wide_depth'

theorem range_pre {pre : List Nat} {x m : Nat} (h : pre ++ [x] <+: List.range m) : x = pre.length ∧ pre.length < m := by
  obtain ⟨suf, e⟩ := h
  have h1 : (List.range m)[pre.length]? = some x := by rw [← e]; simp
  by_cases hlt : pre.length < m
  · rw [List.getElem?_range hlt] at h1
    cases h1
    exact ⟨rfl, hlt⟩
  · rw [List.getElem?_eq_none (by rw [List.length_range]; omega)] at h1
    cases h1
theorem driveO_drop {l : List StepD} {rs : List (List Int)} {ss : List SayD} {b n : Nat} {t : Int} {q : SagD × Int} (hn : n < b + 1) :
    driveO l rs ss ((List.range (b + 1)).drop n) (t, q) = if overB (roundO l rs ss (n : Int) q).1 then ((n : Int), roundO l rs ss (n : Int) q) else driveO l rs ss ((List.range (b + 1)).drop (n + 1)) ((n : Int), roundO l rs ss (n : Int) q) := by
  rw [List.drop_eq_getElem_cons (by rw [List.length_range]; exact hn), List.getElem_range]
  rfl
set_option maxRecDepth 100000 in
set_option maxHeartbeats 8000000 in
theorem Drive_any (d : DefD) (cs : List Value) (sa : Option Addr) (sc : Nat) (ss : List SayD) (va : Option Addr) (vc : Nat) (w : World) (h : DefR w cs d sa sc) (hs : SmallD d) (hl : ss.length ≤ 1000) (hok : ∀ x ∈ ss, I64w x.1) (hr : RdS w (.slice va ss.length vc) 5 ss.length (flatS ss)) :
    Calls Tryz.prog 10 #[.agg cs.toArray, .slice va ss.length vc] w fun e w' => e = .returned (.tuple #[.int .u8 (drvD d ss).1, .int .i64 (drvD d ss).2.1, .int .i64 (drvD d ss).2.2]) ∧ Below w.heap.size w w' := by
  obtain ⟨rfl, hnm, htx, hst⟩ := h
  have hb0 := (Below.refl w.heap.size w).alloc (Nat.le_refl _) (.cells #[.string d.name, .string d.text, .slice sa d.steps.length sc] 24)
  have g0 := World.alloc_heap_new w (.cells #[.string d.name, .string d.text, .slice sa d.steps.length sc] 24)
  have HD0 := Lib.hid (show DefR (w.alloc (.cells #[.string d.name, .string d.text, .slice sa d.steps.length sc] 24)) [.string d.name, .string d.text, .slice sa d.steps.length sc] d sa sc from ⟨rfl, hnm, htx, hst.below hb0⟩)
  have HR := Lib.hid hr
  have HB := Lib.hid hb0
  have HG := Lib.hid g0
  have HS := Lib.hid hs
  have HOK := Lib.hid hok
  have hbr := boundI_range hs
  clear hst hb0 g0 hnm htx hr hs hok
  generalize hres : drvD d ss = res
  have HRT : Hid (cleanB d = true → driveX d.steps (depsA d.steps 0 d.steps) ss (boundI d).toNat = res) := Lib.hid (fun e => by rw [← hres]; unfold drvD; rw [if_pos e])
  have HRF : Hid (cleanB d = false → res = (0, 0, 0)) := Lib.hid (fun e => by rw [← hres]; unfold drvD; rw [if_neg (by rw [e]; decide)])
  clear hres
  refine (callsIn_wide (n := 0)).1 ?_
  refine callsIn_of_wp_marks Tryz.func10 rfl trivial ?_ rfl
  simp only [Tryz.ntmps10, List.size_toArray, List.length_cons, List.length_nil, Nat.reduceAdd, Nat.reduceSub, Array.replicate_succ, Array.replicate_zero, List.push_toArray, List.append_toArray, List.nil_append, List.cons_append]
  gi_upto_region 1 with fail
  generalize (w.alloc (.cells #[.string d.name, .string d.text, .slice sa d.steps.length sc] 24)) = w0 at *
  refine wpIn_scope ?_
  obtain ⟨p0, p1, p2, -, -, -⟩ := cells3h HG.out
  rcases hc : cleanB d with _ | _
  · have HN := Lib.hid (New_no d _ sa sc w0 HD0.out HS.out hc)
    obtain rfl := HRF.out hc
    gi_wp2_with fail
    refine (callsIn_wide.2 HN.out).mono ?_
    rintro e w1 ⟨rfl, hb1⟩
    have HB1 := Lib.hid (bthen HB.out (Nat.le_refl _) hb1)
    clear p0 p1 p2 hb1
    gi_wp2_with fail
    exact ⟨_, results_tmp3 rfl _ _ _, rfl, HB1.out.alloc HB1.out.size _⟩
  have HN := Lib.hid (New_any d _ sa sc w0 HD0.out HS.out hc)
  have HRES := Lib.hid (HRT.out hc)
  clear HRT HRF
  gi_wp2_with fail
  refine (callsIn_wide.2 HN.out).mono ?_
  rintro e w1 ⟨k, U, rfl, hkd, hkr, hsag, hb1, hU⟩
  clear p0 p1 p2
  have hb2 : Below w1.heap.size w1 (w1.alloc (.cells #[.pointer (some ⟨k.p, 0, none⟩)] 48)) := (Below.refl _ _).alloc (Nat.le_refl _) _
  have g2 := World.alloc_heap_new w1 (.cells #[.pointer (some ⟨k.p, 0, none⟩)] 48)
  gi_upto_region 4 with fail
  generalize hE : w1.heap.size = eS at *
  generalize w1.alloc (.cells #[.pointer (some ⟨k.p, 0, none⟩)] 48) = w2 at *
  have hbE : Below w1.heap.size w1 w2 := by rw [hE]; exact hb2
  have hs1 := hb1.size
  have hs0 := HB.out.size
  have hl0 := (Array.getElem?_eq_some_iff.1 HG.out).1
  have hs2 := (Array.getElem?_eq_some_iff.1 g2).1
  have hN := hsag.bound
  have hfk := fine_new hkd hkr HS.out
  have hb12 : Below w0.heap.size w0 w2 := bthen hb1 (Nat.le_refl _) hbE
  have hg2d := (hb12.block _ hl0).trans HG.out
  have HST := Lib.hid (Start_any k newSag 0 U w2 (hsag.below hbE) (fun j hj => by have := hU j hj; omega) hfk (InvS.new _).good)
  have s0 := cell1 g2
  have HU := Lib.hid hU
  have HG2 := Lib.hid g2
  have HF := Lib.hid hfk
  have HB12 := Lib.hid hb12
  have HGD := Lib.hid hg2d
  have HKD := Lib.hid hkd
  have HKR := Lib.hid hkr
  clear hU g2 hfk hsag hb1 hb2 hbE hb12 hg2d hkd hkr HN
  gi_wp2_with fail
  refine (callsIn_wide.2 HST.out).mono ?_
  rintro e w3 ⟨v, rfl, hc⟩
  obtain ⟨V, oa, oc, rfl, -, hS3, hV3, hb3, hst3⟩ := hc.after (B := w0.heap.size) (fun j hj => ⟨(HU.out j hj).1, by have := (HU.out j hj).2; omega⟩) (by omega)
  have hs3 := hb3.size
  have hsl3 := hS3.bound
  obtain ⟨hgs3, hnv3⟩ := hst3 eS hs2 (fun e => by have := (HU.out _ e).2; omega)
  obtain ⟨hgd3, hnd3⟩ := hst3 w.heap.size (by omega) (fun e => by have := (HU.out _ e).1; omega)
  have hb03 : Below w0.heap.size w0 w3 := HB12.out.trans hb3
  have hgs3 := hgs3.trans HG2.out
  have hgd3 := hgd3.trans HGD.out
  clear s0 hst3 hb3 HST hc
  gi_upto_region 6 with fail
  refine wpIn_label ?_
  obtain ⟨hb5, hsz5, hf5⟩ := allocF [.cells #[.int .i64 ((startX k.d.steps k.rs newSag 0).2.length : Int)] 3, .cells #[.int .i64 0] 2] w3
  have g0 := hf5 0 _ rfl
  have g1 := hf5 1 _ rfl
  have e0 : w3.heap.size + 0 = w3.heap.size := rfl
  simp only [List.foldl_cons, List.foldl_nil, List.length_cons, List.length_nil, Nat.reduceAdd] at hb5 hsz5 g0 g1
  rw [e0] at g0
  generalize (w3.alloc (.cells #[.int .i64 ((startX k.d.steps k.rs newSag 0).2.length : Int)] 3)).alloc (.cells #[.int .i64 0] 2) = w5 at *
  have HM5 : Hid (DrvM w k eS w3.heap.size (w3.heap.size + 1) V w5 0 ((startX k.d.steps k.rs newSag 0).1, ((startX k.d.steps k.rs newSag 0).2.length : Int))) := Lib.hid ⟨hS3.below hb5, beginO_inv k.d.steps k.rs, (hb5.block _ (by omega)).trans hgs3, g0, g1, HB.out.trans ((bthen hb03 (Nat.le_refl _) hb5).mono hs0), fun j hj => by
    have h1 := hV3 j hj
    exact ⟨by omega, by omega, fun e => hnv3 (e ▸ hj), by omega, by omega⟩, by omega, by omega, by omega⟩
  have HD5 := Lib.hid (HD0.out.below (bthen hb03 (Nat.le_refl _) hb5))
  have hgd5 := (hb5.block _ (by omega)).trans hgd3
  obtain ⟨p0, p1, p2, -, -, -⟩ := cells3h hgd5
  obtain ⟨b, hbb⟩ : ∃ b : Nat, boundI d = (b : Int) := ⟨(boundI d).toNat, by omega⟩
  have HBO := Lib.hid (Bound_any d _ sa sc w5 HD5.out HS.out)
  rw [hbb] at HBO hbr
  have HRS : Hid (driveX d.steps (depsA d.steps 0 d.steps) ss b = res) := Lib.hid (by
    have := HRES.out
    rw [hbb, Int.toNat_natCast] at this
    exact this)
  clear hf5 g0 g1 e0 hgs3 hgd3 hgd5 hS3 hV3 HRES hb03 hnv3 hnd3 hsl3 HGD HG2 HB12 HU
  generalize hO : w3.heap.size = eO at *
  generalize hos : (startX k.d.steps k.rs newSag 0).2.length = on at *
  gi_wp2_with fail
  refine (callsIn_wide.2 HBO.out).mono ?_
  rintro e w6 ⟨rfl, hb6⟩
  have HM6 := Lib.hid (HM5.out.below hb6)
  clear p0 p1 p2 HM5
  gi_wp2_with fail
  refine (callsIn_wide.2 (eachS_any _ _ _ _ w6)).mono ?_
  rintro e w7 ⟨rfl, rfl⟩
  gi_wp2_with fail
  obtain ⟨hb7, hsz7, hf7⟩ := allocF [.cells #[.int .i64 (b : Int)] 3, .cells #[.slice va ss.length vc] 25] w6
  have g0 := hf7 0 _ rfl
  have g1 := hf7 1 _ rfl
  have e0 : w6.heap.size + 0 = w6.heap.size := rfl
  simp only [List.foldl_cons, List.foldl_nil, List.length_cons, List.length_nil, Nat.reduceAdd] at hb7 hsz7 g0 g1
  rw [e0] at g0
  have hN6 := HM6.out.sag.bound
  have hl6 := HM6.out.low.size
  obtain ⟨hx1, hx2, hx3⟩ := HM6.out.lt
  have hv6 := HM6.out.vB
  have HM7 := Lib.hid (HM6.out.below hb7)
  clear hf7 e0 hb6 HM6
  generalize (w6.alloc (.cells #[.int .i64 (b : Int)] 3)).alloc (.cells #[.slice va ss.length vc] 25) = w7 at *
  generalize hB2 : w6.heap.size = B2 at *
  clear hb7
  refine' wpIn_rfE rfl (enters_of Tryz.func64 (by kernel_rfl) rfl) (eachS_iter b ss (B2 + 1) B2 va vc w7 g1 g0 (by omega) hl HOK.out) (Nat.zero_le _) (fun j hj => ⟨Nat.zero_le _, by omega⟩) ?hps ?hE
    (fun S pre W => DrJ w k eS eO (eO + 1) B2 ss b S pre W ∧ w7.heap.size ≤ W.heap.size) (fun c S _ W => c = .exit 0 ∧ DrX w k eS eO (eO + 1) B2 ss b S W ∧ w7.heap.size ≤ W.heap.size) ?hfin ?hR ?hJ ?hJx ?h0 ?Ax ?hAx ?assign ?body ?done ?stop
  case hps =>
    rintro S x args W ⟨a, c, rfl, _⟩
    rfl
  case hE =>
    rintro S S' x args W hk ⟨a, c, e, hr, hg⟩
    exact ⟨a, c, e, hr, fun g h => hk g (hg g h)⟩
  case hfin => exact fun h => absurd trivial h
  case hR =>
    rintro S pre W ⟨⟨V, t, q, hM, _⟩, _⟩
    exact HR.out.below hM.low
  case hJ => exact DrJ_stable _ _ _ _ _ _ _ _ hl6 hN6 _ (by omega)
  case hJx =>
    rintro c S S' pre A C hS ⟨e, h⟩ hs
    exact ⟨e, DrX_stable w k eS eO (eO + 1) B2 ss b hl6 hN6 w7.heap.size (by omega) S S' pre A C hS h hs⟩
  case h0 => exact ⟨⟨V, 0, _, HM7.out, by rw [List.length_nil, List.drop_zero]; unfold beginO; rw [← hos], fun j hj e => by have := hv6 j hj; omega, by omega, by omega, by omega, fun j hj => by omega⟩, Nat.le_refl _⟩
  case Ax => exact fun S x a' W => ∃ (ga : Option Addr) (gc : Nat), a' = { tmps := #[.agg #[.string d.name, .string d.text, .slice sa d.steps.length sc], .slice va ss.length vc, .pointer (some ⟨w.heap.size, 0, none⟩), undef, .int .u8 0, .int .i64 0, .int .i64 0, .pointer (some ⟨eS, 0, none⟩), .int .i64 0, .pointer (some ⟨eO, 0, none⟩), .pointer (some ⟨eO + 1, 0, none⟩), .int .i64 (x : Int), .slice ga (saysAt ss x).length gc, undef, undef, undef, undef, .tuple #[.pointer (some ⟨k.p, 0, none⟩), .int .i64 0], .agg #[.string d.name, .string d.text, .slice sa d.steps.length sc], .tuple #[.pointer (some ⟨k.p, 0, none⟩), .int .i64 0], .pointer (some ⟨k.p, 0, none⟩), .int .i64 0, .int .i64 0, .bool false, .pointer (some ⟨k.p, 0, none⟩), .slice oa on oc, .int .i64 (on : Int), .agg #[.string d.name, .string d.text, .slice sa d.steps.length sc], .int .i64 (b : Int), .slice va ss.length vc, .func (.func 64) #[] #[.pointer (some ⟨B2 + 1, 0, none⟩), .pointer (some ⟨B2, 0, none⟩)], .int .i64 (x : Int), .slice ga (saysAt ss x).length gc, undef, undef, undef, undef, undef, undef, undef, undef, undef, undef, undef, undef, undef, undef, undef, undef, undef, undef, undef, undef, undef, undef, undef, undef, undef, undef, undef, undef, undef, undef, undef, undef, undef, undef], defers := [] } ∧ W.ownsRow 0 32 5 (.slice ga (saysAt ss x).length gc) (saysAt ss x).length (flatS (saysAt ss x)) ∧ ∀ g, (Value.slice ga (saysAt ss x).length gc).ownBlock = some g → S g
  case hAx =>
    rintro S x a' l W W' hl' hlt ⟨ga, gc, rfl, hr, hg⟩ hs ⟨r, hr2⟩
    refine ⟨ga, gc, rfl, ownsRow_keepB hr (fun g hgg => hs.same g (hr.lt g hgg).2 (fun e => ?_)), hg⟩
    obtain ⟨cur, hc2⟩ := owns_cells hr hgg
    rw [show g = l from e, hr2] at hc2
    cases hc2
  case assign =>
    rintro l S pre x args W K hS hw hj hpre ⟨ga, gc, rfl, hro, hrS⟩ hK
    have HK := Lib.hid hK
    have HJ := Lib.hid hj
    have HRO := Lib.hid hro
    have HRS' := Lib.hid hrS
    clear hS hK hj hro hrS
    gi_wp2_with fail
    exact HK.out _ _ (Keep.refl _ _ _) HJ.out ⟨ga, gc, rfl, HRO.out, HRS'.out⟩
  case stop =>
    rintro D c S pre W hD hS hSD hpre ⟨rfl, ⟨V, t, q, hM, hdr, hV, n1, n2, n3, hSB⟩, hz⟩ hKD
    have hres : res = (q.1.status, t, q.2) := by
      have h := HRS.out
      have e1 := HKD.out
      have e2 := HKR.out
      unfold driveX at h
      rw [← e2, ← e1, hdr] at h
      exact h.symm
    subst hres
    have s0 := cell1 hM.bS
    have o0 := cell1 hM.bO
    have a0 := cell1 hM.bA
    have HST := Lib.hid (Status_any k q.1 V W.drew (hM.sag.below (Below.refl _ _).drew))
    have HLOW := Lib.hid hM.low
    have HKD9 := Lib.hid hKD
    clear hM hdr hS hKD HRS
    gi_upto_region 19 with fail
    refine E_regionW (S := (fun W => W.cell? ⟨eS, 0, none⟩ = some (.pointer (some ⟨k.p, 0, none⟩)) ∧ W.cell? ⟨eO, 0, none⟩ = some (.int .i64 q.2) ∧ W.cell? ⟨eO + 1, 0, none⟩ = some (.int .i64 t))) 6 (by kernel_rfl) (by kernel_rfl) ⟨s0, o0, a0⟩ (fun Q' hQ hK' hHeld => ?_)
    refine E_take hQ hHeld 0 (v := ?qav1) rfl rfl (by kernel_rfl) (by kernel_rfl) (by kernel_rfl) (by kernel_rfl) (by kernel_rfl) (by rfl) ?qay1 ?qar1
    case qay1 => (intro w hSw; (try dsimp only at hSw); go_simp; (try with_reducible rfl))
    (try simp only [layE])
    refine E_take hQ hHeld 2 (v := ?qav2) rfl rfl (by kernel_rfl) (by kernel_rfl) (by kernel_rfl) (by kernel_rfl) (by kernel_rfl) (by rfl) ?qay2 ?qar2
    case qay2 => (intro w hSw; (try dsimp only at hSw); go_simp; (try with_reducible rfl))
    (try simp only [layE])
    refine E_take hQ hHeld 3 (v := ?qav3) rfl rfl (by kernel_rfl) (by kernel_rfl) (by kernel_rfl) (by kernel_rfl) (by kernel_rfl) (by rfl) ?qay3 ?qar3
    case qay3 => (intro w hSw; (try dsimp only at hSw); go_simp; (try with_reducible rfl))
    (try simp only [layE])
    refine E_one 1 (by kernel_rfl) rfl (by rfl) (fun K hK => ?_)
    go_simp
    refine HST.out.mono ?_
    rintro e w9 ⟨rfl, rfl⟩
    (skip)
    refine hK.out _ _ (fun _ _ => hHeld) (fun hHeld' => ?_)
    replace hHeld := hHeld' (by rfl) (by decide)
    clear hK hHeld'
    (try simp only [layE])
    refine E_take0 hQ (fun _ => hHeld) 4 (v := ?qav4) rfl rfl (by kernel_rfl) (by kernel_rfl) (by kernel_rfl) (by decide) (by rfl) ?qay4 ?qar4
    case qay4 => (intro w; go_simp; (try with_reducible rfl))
    (try simp only [layE])
    refine E_take0 hQ (fun _ => hHeld) 5 (v := ?qav5) rfl rfl (by kernel_rfl) (by kernel_rfl) (by kernel_rfl) (by decide) (by rfl) ?qay5 ?qar5
    case qay5 => (intro w; go_simp; (try with_reducible rfl))
    (try simp only [layE])
    refine E_one 6 (by kernel_rfl) rfl (by rfl) (fun K hK => ?_)
    go_simp
    (try simp only [layE])
    refine hK.out _ _ (fun _ h => absurd rfl h) (fun _ => ?_)
    clear hK hHeld
    (try simp only [layE])
    refine E_done (by kernel_rfl) ?_ _
    refine hK'.out _ _ ?_
    clear hK' hQ
    gi_wp2_with fail
    refine ⟨by simp, .inl ⟨_, _, rfl, run_takeDeferred HKD9.out, ?_⟩⟩
    exact ⟨_, results_tmp3 rfl _ _ _, rfl, (HLOW.out.drew).trans (below_putObj _ _ (by omega))⟩
  case done =>
    rintro D S W hD hS hSD ⟨⟨V, t, q, hM, hdr, hV, n1, n2, n3, hSB⟩, hz⟩ hKD
    rw [List.length_range, List.drop_of_length_le (by rw [List.length_range]; omega)] at hdr
    have hres : res = (q.1.status, t, q.2) := by
      have h := HRS.out
      have e1 := HKD.out
      have e2 := HKR.out
      unfold driveX at h
      rw [← e2, ← e1, hdr] at h
      exact h.symm
    subst hres
    have s0 := cell1 hM.bS
    have o0 := cell1 hM.bO
    have a0 := cell1 hM.bA
    have HST := Lib.hid (Status_any k q.1 V W.drew (hM.sag.below (Below.refl _ _).drew))
    have HLOW := Lib.hid hM.low
    have HKD9 := Lib.hid hKD
    clear hM hdr hS hKD HRS
    gi_upto_region 19 with fail
    refine E_regionW (S := (fun W => W.cell? ⟨eS, 0, none⟩ = some (.pointer (some ⟨k.p, 0, none⟩)) ∧ W.cell? ⟨eO, 0, none⟩ = some (.int .i64 q.2) ∧ W.cell? ⟨eO + 1, 0, none⟩ = some (.int .i64 t))) 6 (by kernel_rfl) (by kernel_rfl) ⟨s0, o0, a0⟩ (fun Q' hQ hK' hHeld => ?_)
    refine E_take hQ hHeld 0 (v := ?qbv1) rfl rfl (by kernel_rfl) (by kernel_rfl) (by kernel_rfl) (by kernel_rfl) (by kernel_rfl) (by rfl) ?qby1 ?qbr1
    case qby1 => (intro w hSw; (try dsimp only at hSw); go_simp; (try with_reducible rfl))
    (try simp only [layE])
    refine E_take hQ hHeld 2 (v := ?qbv2) rfl rfl (by kernel_rfl) (by kernel_rfl) (by kernel_rfl) (by kernel_rfl) (by kernel_rfl) (by rfl) ?qby2 ?qbr2
    case qby2 => (intro w hSw; (try dsimp only at hSw); go_simp; (try with_reducible rfl))
    (try simp only [layE])
    refine E_take hQ hHeld 3 (v := ?qbv3) rfl rfl (by kernel_rfl) (by kernel_rfl) (by kernel_rfl) (by kernel_rfl) (by kernel_rfl) (by rfl) ?qby3 ?qbr3
    case qby3 => (intro w hSw; (try dsimp only at hSw); go_simp; (try with_reducible rfl))
    (try simp only [layE])
    refine E_one 1 (by kernel_rfl) rfl (by rfl) (fun K hK => ?_)
    go_simp
    refine HST.out.mono ?_
    rintro e w9 ⟨rfl, rfl⟩
    (skip)
    refine hK.out _ _ (fun _ _ => hHeld) (fun hHeld' => ?_)
    replace hHeld := hHeld' (by rfl) (by decide)
    clear hK hHeld'
    (try simp only [layE])
    refine E_take0 hQ (fun _ => hHeld) 4 (v := ?qbv4) rfl rfl (by kernel_rfl) (by kernel_rfl) (by kernel_rfl) (by decide) (by rfl) ?qby4 ?qbr4
    case qby4 => (intro w; go_simp; (try with_reducible rfl))
    (try simp only [layE])
    refine E_take0 hQ (fun _ => hHeld) 5 (v := ?qbv5) rfl rfl (by kernel_rfl) (by kernel_rfl) (by kernel_rfl) (by decide) (by rfl) ?qby5 ?qbr5
    case qby5 => (intro w; go_simp; (try with_reducible rfl))
    (try simp only [layE])
    refine E_one 6 (by kernel_rfl) rfl (by rfl) (fun K hK => ?_)
    go_simp
    (try simp only [layE])
    refine hK.out _ _ (fun _ h => absurd rfl h) (fun _ => ?_)
    clear hK hHeld
    (try simp only [layE])
    refine E_done (by kernel_rfl) ?_ _
    refine hK'.out _ _ ?_
    clear hK' hQ
    gi_wp2_with fail
    refine ⟨by simp, .inl ⟨_, _, rfl, run_takeDeferred HKD9.out, ?_⟩⟩
    exact ⟨_, results_tmp3 rfl _ _ _, rfl, (HLOW.out.drew).trans (below_putObj _ _ (by omega))⟩
  case body =>
    rintro l S pre x a' W hS hw hSl - ⟨⟨V, t, q, hM, hdr, hV, n1, n2, n3, hSB⟩, hz⟩ ⟨ga, gc, rfl, hro, hrS⟩ hpre
    obtain ⟨hx, hxb⟩ := range_pre hpre
    rw [← hx] at hdr hxb
    rw [driveO_drop hxb] at hdr
    have hpl : (pre ++ [x]).length = x + 1 := by rw [List.length_append, List.length_singleton, hx]
    have HPL := Lib.hid hpl
    have HDR := Lib.hid hdr
    have a0 := cell1 hM.bA
    have f0 := froz8 (i := 0) hM.bA
    have HMA := Lib.hid (hM.setA (x : Int))
    have HKA : Hid (Keep 0 S W (W.setCell ⟨eO + 1, 0, none⟩ (.int .i64 (x : Int)))) := Lib.hid ⟨(Below.refl 0 W).setCell (Nat.zero_le _) _, fun j hj => Below.heap_setCell _ _ _ _ (by show j ≠ eO + 1; rintro rfl; exact n3 hj)⟩
    have HRO : Hid (∀ W', Keep 0 S W W' → W'.ownsRow 0 32 5 (.slice ga (saysAt ss x).length gc) (saysAt ss x).length (flatS (saysAt ss x))) := Lib.hid (fun W' hk => ownsRow_keepB hro (fun g hg => hk.same g (hrS g hg)))
    have HVV := Lib.hid hV
    have HSB := Lib.hid hSB
    have HSS := Lib.hid hS
    have hln := saysAt_len ss (x : Int)
    clear hM hdr hV hro hrS hpre hS hSl hSB hx hpl
    gi_upto_region 10 with fail
    generalize W.setCell ⟨eO + 1, 0, none⟩ (.int .i64 (x : Int)) = Wa at *
    gi_wp2_with fail
    clear a0 f0
    gi_loopg [36] ((saysAt ss x).length + 1) (fun gk i wr => ∃ (j : Nat) (V : Nat → Prop) (p : SagD × Int), j + gk = (saysAt ss x).length + 1 ∧ j ≤ (saysAt ss x).length ∧ i = .int .i64 j ∧ Hid (DrvM w k eS eO (eO + 1) V wr (x : Int) p) ∧ Hid (((saysAt ss x).take j).foldl (answO k.d.steps k.rs x) q = p) ∧ Hid (∀ j, V j → ¬ S j) ∧ Hid (Keep 0 S W wr))
    case atStart => exact ⟨0, V, q, by omega, by omega, rfl, HMA, Lib.hid rfl, HVV, HKA⟩
    case round =>
      obtain ⟨j, V', p, hgk, hj, rfl, HMr, HFO, HVr, HKr⟩ := hrel
      have hg : gk = (saysAt ss x).length + 1 - j := by omega
      subst hg
      by_cases hjl : j < (saysAt ss x).length
      · have d1 : decide ((j : Int) < ((saysAt ss x).length : Int)) = true := decide_eq_true (by omega)
        have hj1 : (j : Int) < ((saysAt ss x).length : Int) := by omega
        have hj0 : (0 : Int) ≤ (j : Int) := by omega
        have HTK : Hid ((saysAt ss x).take (j + 1) = (saysAt ss x).take j ++ [(saysAt ss x)[j]]) := Lib.hid (by rw [List.take_add_one, List.getElem?_eq_getElem hjl]; rfl)
        obtain ⟨sg, soff, scap, he, q0, q1, q2, q3, q4⟩ := says_at (RdS.of_owns (HRO.out wr HKr.out)) hjl
        cases he
        generalize (saysAt ss x)[j] = y at *
        have hb1 : Below wr.heap.size wr (wr.alloc (.cells #[.int .i64 y.1, .int .i64 y.2.1, .int .i64 y.2.2.1, .bool y.2.2.2.1, .int .u8 y.2.2.2.2] 32)) := (Below.refl _ _).alloc (Nat.le_refl _) _
        have g5 := World.alloc_heap_new wr (.cells #[.int .i64 y.1, .int .i64 y.2.1, .int .i64 y.2.2.1, .bool y.2.2.2.1, .int .u8 y.2.2.2.2] 32)
        gi_upto_region 13 with fail
        generalize wr.alloc (.cells #[.int .i64 y.1, .int .i64 y.2.1, .int .i64 y.2.2.1, .bool y.2.2.2.1, .int .u8 y.2.2.2.2] 32) = w8 at *
        clear q0 q1 q2 q3 q4
        obtain ⟨z0, z1, z2, z3, z4⟩ := cells5s g5
        have HM8 := Lib.hid (HMr.out.below hb1)
        have HB8 := Lib.hid hb1
        have s0 := cell1 HM8.out.bS
        have HAN := Lib.hid (AnswerS_any k p.1 y.2.1 y.2.2.1 y.2.2.2.2 (x : Int) y.2.2.2.1 V' w8 HM8.out.sag (fun j hj => (HM8.out.vB j hj).2.1) HF.out HM8.out.inv.good)
        clear hb1 g5
        gi_wp2_with fail
        refine ((callsIn_wide.2 HAN.out).inRound l).mono ?_
        rintro e w9 ⟨v, rfl, hc⟩
        obtain ⟨V9, oa9, oc9, rfl, hM9, hst9⟩ := HM8.out.call hc (HM8.out.inv.answer _ _ _ _)
        have o0 := cell1 hM9.bO
        have fO := froz8 (i := 0) hM9.bO
        have HMZ := Lib.hid (hM9.setO (wrap64 (p.2 + ((answerX k.d.steps k.rs p.1 (y.2.1, y.2.2.2.1) y.2.2.1 y.2.2.2.2 (x : Int)).1.2.length : Int))))
        have hs8 := HB8.out.size
        have hsr := HKr.out.below.size
        have hln1 := hM9.low
        have HKZ : Hid (Keep 0 S W (w9.setCell ⟨eO, 0, none⟩ (.int .i64 (wrap64 (p.2 + ((answerX k.d.steps k.rs p.1 (y.2.1, y.2.2.2.1) y.2.2.1 y.2.2.2.2 (x : Int)).1.2.length : Int)))))) := Lib.hid ⟨(HKr.out.below.trans ((HB8.out.mono (Nat.zero_le _)).trans ⟨hln1.os.trans HM8.out.low.os.symm, hln1.tape.trans HM8.out.low.tape.symm, hln1.output.trans HM8.out.low.output.symm, (by obtain ⟨va9, vc9, V10, h1, h2, h3, h4, h5, h6⟩ := hc; exact h5.size), fun j hj => absurd hj (Nat.not_lt_zero j)⟩)).setCell (Nat.zero_le _) _, fun j hj => (Below.heap_setCell _ _ _ _ (by show j ≠ eO; rintro rfl; exact n2 hj)).trans (((hst9 j (by have := (HSS.out j hj).2; omega) (fun e => HVr.out j e hj)).1).trans ((HB8.out.block j (by have := (HSS.out j hj).2; omega)).trans (HKr.out.same j hj)))⟩
        have HV9 : Hid (∀ j, V9 j → ¬ S j) := Lib.hid (fun j hj e => (hst9 j (by have := (HSS.out j e).2; omega) (fun e2 => HVr.out j e2 e)).2 hj)
        clear hM9 hst9 hc hln1 s0 z0 z1 z2 z3 z4 HAN
        gi_wp2_with fail
        gi_roundg ((saysAt ss x).length + 1 - (j + 1))
        case measure => omega
        case rel => exact ⟨j + 1, V9, answO k.d.steps k.rs (x : Int) p y, by omega, by omega, by go_num, HMZ, Lib.hid (by rw [HTK.out, List.foldl_append, HFO.out]; rfl), HV9, HKZ⟩
      · have d1 : decide ((j : Int) < ((saysAt ss x).length : Int)) = false := decide_eq_false (by omega)
        have hj1 : ¬ (j : Int) < ((saysAt ss x).length : Int) := by omega
        obtain rfl : j = (saysAt ss x).length := by omega
        rw [List.take_length] at HFO
        clear hgk
        by_cases hx0 : 0 < x
        · have hx1 : (0 : Int) < (x : Int) := by omega
          have d2 : decide ((0 : Int) < (x : Int)) = true := decide_eq_true (by omega)
          have s0 := cell1 HMr.out.bS
          have o0 := cell1 HMr.out.bO
          have HMd := Lib.hid (HMr.out.below (Below.refl _ wr).drew)
          have HTK := Lib.hid (TickS_any k p.1 (x : Int) V' wr.drew HMd.out.sag (fun j hj => (HMd.out.vB j hj).2.1) HF.out HMd.out.inv.good)
          have hsr := HKr.out.below.size
          gi_upto_region 17 with fail
          refine E_regionR (S := (fun W => W.cell? ⟨eO, 0, none⟩ = some (.int .i64 p.2) ∧ W.cell? ⟨eS, 0, none⟩ = some (.pointer (some ⟨k.p, 0, none⟩)))) 6 (by kernel_rfl) (by kernel_rfl) ⟨o0, s0⟩ (fun Q' hQ hK' hHeld => ?_)
          refine E_take hQ hHeld 0 (v := ?qcv1) rfl rfl (by kernel_rfl) (by kernel_rfl) (by kernel_rfl) (by kernel_rfl) (by kernel_rfl) (by rfl) ?qcy1 ?qcr1
          case qcy1 => (intro w hSw; (try dsimp only at hSw); go_simp; (try with_reducible rfl))
          (try simp only [layE])
          refine E_take hQ hHeld 1 (v := ?qcv2) rfl rfl (by kernel_rfl) (by kernel_rfl) (by kernel_rfl) (by kernel_rfl) (by kernel_rfl) (by rfl) ?qcy2 ?qcr2
          case qcy2 => (intro w hSw; (try dsimp only at hSw); go_simp; (try with_reducible rfl))
          (try simp only [layE])
          refine E_take0 hQ (fun _ => hHeld) 2 (v := ?qcv3) rfl rfl (by kernel_rfl) (by kernel_rfl) (by kernel_rfl) (by decide) (by rfl) ?qcy3 ?qcr3
          case qcy3 => (intro w; go_simp; (try with_reducible rfl))
          (try simp only [layE])
          refine E_one 3 (by kernel_rfl) rfl (by rfl) (fun K hK => ?_)
          go_simp
          refine HTK.out.mono ?_
          rintro e w9 ⟨v, rfl, hc⟩
          have hsz9 : wr.heap.size ≤ w9.heap.size := by obtain ⟨va9, vc9, V10, h1, h2, h3, h4, h5, h6⟩ := hc; exact h5.size
          obtain ⟨V9, oa9, oc9, rfl, hM9, hst9⟩ := HMd.out.call hc (HMd.out.inv.tick _)
          have o9 := cell1 hM9.bO
          have s9 := cell1 hM9.bS
          have f9 := froz8 (i := 0) hM9.bO
          (skip)
          refine hK.out _ _ (fun _ _ => ⟨o9, s9⟩) (fun hHeld' => ?_)
          replace hHeld := hHeld' (by rfl) (by decide)
          clear hK hHeld'
          (try simp only [layE])
          refine E_take0 hQ (fun _ => hHeld) 4 (v := ?qcv4) rfl rfl (by kernel_rfl) (by kernel_rfl) (by kernel_rfl) (by decide) (by rfl) ?qcy4 ?qcr4
          case qcy4 => (intro w; go_simp; (try with_reducible rfl))
          (try simp only [layE])
          refine E_take0 hQ (fun _ => hHeld) 5 (v := ?qcv5) rfl rfl (by kernel_rfl) (by kernel_rfl) (by kernel_rfl) (by decide) (by rfl) ?qcy5 ?qcr5
          case qcy5 => (intro w; go_simp; (try with_reducible rfl))
          (try simp only [layE])
          refine E_one 6 (by kernel_rfl) rfl (by rfl) (fun K hK => ?_)
          go_simp
          (try simp only [layE])
          refine hK.out _ _ (fun _ h => absurd rfl h) (fun _ => ?_)
          clear hK hHeld
          (try simp only [layE])
          refine E_done (by kernel_rfl) ?_ _
          refine hK'.out _ _ ?_
          have HMZ : Hid (DrvM w k eS eO (eO + 1) V9 (w9.setCell ⟨eO, 0, none⟩ (.int .i64 (wrap64 (p.2 + ((tickX k.d.steps k.rs p.1 (x : Int)).2.length : Int))))) (x : Int) ((tickX k.d.steps k.rs p.1 (x : Int)).1, wrap64 (p.2 + ((tickX k.d.steps k.rs p.1 (x : Int)).2.length : Int)))) := Lib.hid (hM9.setO _)
          have HKZ : Hid (Keep 0 S W (w9.setCell ⟨eO, 0, none⟩ (.int .i64 (wrap64 (p.2 + ((tickX k.d.steps k.rs p.1 (x : Int)).2.length : Int)))))) := Lib.hid ⟨(HKr.out.below.trans ⟨hM9.low.os.trans HMr.out.low.os.symm, hM9.low.tape.trans HMr.out.low.tape.symm, hM9.low.output.trans HMr.out.low.output.symm, hsz9, fun j hj => absurd hj (Nat.not_lt_zero j)⟩).setCell (Nat.zero_le _) _, fun j hj => (Below.heap_setCell _ _ _ _ (by show j ≠ eO; rintro rfl; exact n2 hj)).trans (((hst9 j (by have := (HSS.out j hj).2; show j < wr.heap.size; omega) (fun e => HVr.out j e hj)).1).trans (HKr.out.same j hj))⟩
          have HV9 : Hid (∀ j, V9 j → ¬ S j) := Lib.hid (fun j hj e => (hst9 j (by have := (HSS.out j e).2; show j < wr.heap.size; omega) (fun e2 => HVr.out j e2 e)).2 hj)
          have HRD : Hid (roundO k.d.steps k.rs ss (x : Int) q = ((tickX k.d.steps k.rs p.1 (x : Int)).1, wrap64 (p.2 + ((tickX k.d.steps k.rs p.1 (x : Int)).2.length : Int)))) := Lib.hid (by unfold roundO tickO; rw [HFO.out, if_pos hx1])
          clear hM9 hst9 s9 o9 f9 s0 o0 hK' hQ HTK HMd HMr HVr HKr HFO
          gi_upto_region 18 with fail
          rw [IntWalk.i64_left]
          generalize (w9.setCell ⟨eO, 0, none⟩ (.int .i64 (wrap64 (p.2 + ((tickX k.d.steps k.rs p.1 (x : Int)).2.length : Int))))) = wz at *
          have s0 := cell1 HMZ.out.bS
          gi_wp2_with fail
          refine ((callsIn_wide.2 (Over_any k ((tickX k.d.steps k.rs p.1 (x : Int)).1, wrap64 (p.2 + ((tickX k.d.steps k.rs p.1 (x : Int)).2.length : Int))).1 V9 wz HMZ.out.sag)).inRound l).mono ?_
          rintro e w' ⟨rfl, rfl⟩
          have hsz := HKZ.out.below.size
          rcases hov : overB ((tickX k.d.steps k.rs p.1 (x : Int)).1, wrap64 (p.2 + ((tickX k.d.steps k.rs p.1 (x : Int)).2.length : Int))).1 with _ | _
          · have HDZ : Hid (driveO k.d.steps k.rs ss (List.range (b + 1)) (beginO k.d.steps k.rs) = driveO k.d.steps k.rs ss ((List.range (b + 1)).drop (pre ++ [x]).length) ((x : Int), ((tickX k.d.steps k.rs p.1 (x : Int)).1, wrap64 (p.2 + ((tickX k.d.steps k.rs p.1 (x : Int)).2.length : Int))))) := Lib.hid (by rw [HDR.out, HRD.out, hov, HPL.out]; rfl)
            gi_wp2_with fail
            exact ⟨⟨⟨V9, (x : Int), ((tickX k.d.steps k.rs p.1 (x : Int)).1, wrap64 (p.2 + ((tickX k.d.steps k.rs p.1 (x : Int)).2.length : Int))), HMZ.out, HDZ.out, HV9.out, n1, n2, n3, HSB.out⟩, by omega⟩, HKZ.out⟩
          · have HDZ : Hid (driveO k.d.steps k.rs ss (List.range (b + 1)) (beginO k.d.steps k.rs) = ((x : Int), ((tickX k.d.steps k.rs p.1 (x : Int)).1, wrap64 (p.2 + ((tickX k.d.steps k.rs p.1 (x : Int)).2.length : Int))))) := Lib.hid (by rw [HDR.out, HRD.out, hov]; rfl)
            gi_wp2_with fail
            exact ⟨⟨rfl, ⟨V9, (x : Int), ((tickX k.d.steps k.rs p.1 (x : Int)).1, wrap64 (p.2 + ((tickX k.d.steps k.rs p.1 (x : Int)).2.length : Int))), HMZ.out, HDZ.out, HV9.out, n1, n2, n3, HSB.out⟩, by omega⟩, HKZ.out⟩
        · have hx1 : ¬ (0 : Int) < (x : Int) := by omega
          have d2 : decide ((0 : Int) < (x : Int)) = false := decide_eq_false (by omega)
          have HRD : Hid (roundO k.d.steps k.rs ss (x : Int) q = p) := Lib.hid (by unfold roundO tickO; rw [HFO.out, if_neg hx1])
          have s0 := cell1 HMr.out.bS
          gi_wp2_with fail
          refine ((callsIn_wide.2 (Over_any k p.1 V' wr HMr.out.sag)).inRound l).mono ?_
          rintro e w' ⟨rfl, rfl⟩
          have hsz := HKr.out.below.size
          rcases hov : overB p.1 with _ | _
          · have HDZ : Hid (driveO k.d.steps k.rs ss (List.range (b + 1)) (beginO k.d.steps k.rs) = driveO k.d.steps k.rs ss ((List.range (b + 1)).drop (pre ++ [x]).length) ((x : Int), p)) := Lib.hid (by rw [HDR.out, HRD.out, hov, HPL.out]; rfl)
            gi_wp2_with fail
            exact ⟨⟨⟨V', (x : Int), p, HMr.out, HDZ.out, HVr.out, n1, n2, n3, HSB.out⟩, by omega⟩, HKr.out⟩
          · have HDZ : Hid (driveO k.d.steps k.rs ss (List.range (b + 1)) (beginO k.d.steps k.rs) = ((x : Int), p)) := Lib.hid (by rw [HDR.out, HRD.out, hov]; rfl)
            gi_wp2_with fail
            exact ⟨⟨rfl, ⟨V', (x : Int), p, HMr.out, HDZ.out, HVr.out, n1, n2, n3, HSB.out⟩, by omega⟩, HKr.out⟩
end Go.Proofs.YtgfiogjfgbegpaaGreat

/-
  rescripttop.awakeSaga: contract.
-/
namespace Go.Proofs.YtgfiogjfgbegpaaGreat
open Go Go.RowKit Go.Maps Go.WideShapes

def sSa : StepD := ⟨{ data := #[97] }, { data := #[120] }, { data := #[117] }, [], 0, 0, 0, 5, zeroTA⟩
def sSb : StepD := ⟨{ data := #[98] }, { data := #[121] }, { data := #[118] }, [{ data := #[97] }], 0, 0, 0, 5, zeroTA⟩
def dSg : DefD := ⟨{ data := #[115] }, { data := #[] }, [sSa, sSb]⟩
theorem dSg_small : SmallD dSg := by
  have hz : SmallP 18 zeroTA := (small_of (by decide +kernel)).1
  refine ⟨by show ByteArray.size { data := #[115] } ≤ _; decide, by show ByteArray.size { data := #[] } ≤ _; decide, by show 2 ≤ 30; decide, fun s hs => ?_⟩
  rcases List.mem_cons.1 hs with rfl | hs
  · exact ⟨by decide, by decide, by decide, by decide, hz, fun a h => by cases h⟩
  · cases List.mem_singleton.1 hs
    exact ⟨by decide, by decide, by decide, by decide, hz, fun a h => by cases List.mem_singleton.1 h; decide⟩
theorem drvSg1 : drvD dSg [(1, 0, 1, false, 0), (2, 1, 1, false, 0)] = (3, 2, 2) := by decide +kernel
theorem drvSg2 : drvD dSg [(1, 0, 1, false, 0)] = (5, 11, 3) := by decide +kernel
theorem dSg_r {W : World} {g0 g : Nat} (h0 : W.heap[g0]? = some (.cells #[.string { data := #[97] }] 9 (0, 0))) (h : W.heap[g]? = some (.cells #[.string { data := #[97] }, .string { data := #[120] }, .string { data := #[117] }, .slice none 0 0, .int .i64 0, .int .i64 0, .int .i64 0, .int .i64 5, .int .u8 0, .string { data := #[] }, .slice none 0 0, .slice none 0 0, .int .i64 0, .string { data := #[98] }, .string { data := #[121] }, .string { data := #[118] }, .slice (some ⟨g0, 0, none⟩) 1 1, .int .i64 0, .int .i64 0, .int .i64 0, .int .i64 5, .int .u8 0, .string { data := #[] }, .slice none 0 0, .slice none 0 0, .int .i64 0] 47 (0, 0))) : DefR W [.string { data := #[115] }, .string { data := #[] }, .slice (some ⟨g, 0, none⟩) 2 2] dSg (some ⟨g, 0, none⟩) 2 := by
  refine ⟨rfl, by show ByteArray.size { data := #[115] } ≤ _; unfold maxLen; decide, Nat.zero_le _, [[.string { data := #[97] }, .string { data := #[120] }, .string { data := #[117] }, .slice none 0 0, .int .i64 0, .int .i64 0, .int .i64 0, .int .i64 5, .int .u8 0, .string { data := #[] }, .slice none 0 0, .slice none 0 0, .int .i64 0], [.string { data := #[98] }, .string { data := #[121] }, .string { data := #[118] }, .slice (some ⟨g0, 0, none⟩) 1 1, .int .i64 0, .int .i64 0, .int .i64 0, .int .i64 5, .int .u8 0, .string { data := #[] }, .slice none 0 0, .slice none 0 0, .int .i64 0]], rfl, rds_rowK 2 13 (l := [.string { data := #[97] }, .string { data := #[120] }, .string { data := #[117] }, .slice none 0 0, .int .i64 0, .int .i64 0, .int .i64 0, .int .i64 5, .int .u8 0, .string { data := #[] }, .slice none 0 0, .slice none 0 0, .int .i64 0, .string { data := #[98] }, .string { data := #[121] }, .string { data := #[118] }, .slice (some ⟨g0, 0, none⟩) 1 1, .int .i64 0, .int .i64 0, .int .i64 0, .int .i64 5, .int .u8 0, .string { data := #[] }, .slice none 0 0, .slice none 0 0, .int .i64 0]) h rfl (by decide), fun i r s hr hs => ?_⟩
  have hi : I64w 0 := by unfold I64w; decide
  have h5 : I64w 5 := by unfold I64w; decide
  rcases i with _ | _ | i
  · cases hr
    cases hs
    exact ⟨none, 0, none, 0, none, 0, rfl, ⟨by show ByteArray.size { data := #[97] } ≤ _; unfold maxLen; decide, by show ByteArray.size { data := #[120] } ≤ _; unfold maxLen; decide, by show ByteArray.size { data := #[117] } ≤ _; unfold maxLen; decide, (fun a h => by cases h), hi, hi, hi, h5⟩, ⟨rfl, none, 0, rfl, Nat.le_refl _, Nat.zero_le _, .inl rfl⟩, zeroTA_r W⟩
  · cases hr
    cases hs
    exact ⟨some ⟨g0, 0, none⟩, 1, none, 0, none, 0, rfl, ⟨by show ByteArray.size { data := #[98] } ≤ _; unfold maxLen; decide, by show ByteArray.size { data := #[121] } ≤ _; unfold maxLen; decide, by show ByteArray.size { data := #[118] } ≤ _; unfold maxLen; decide, (fun a h => by cases List.mem_singleton.1 h; show ByteArray.size { data := #[97] } ≤ _; unfold maxLen; decide), hi, hi, hi, h5⟩, rds_rowK 1 1 (l := [.string { data := #[97] }]) h0 rfl (by decide), zeroTA_r W⟩
  · cases hr
set_option maxRecDepth 100000 in
set_option maxHeartbeats 4000000 in
theorem awakeSaga_any (w : World) : Calls Tryz.prog 7 #[] w fun e w' => e = .returned (.bool true) ∧ Below w.heap.size w w' := by
  obtain ⟨hb3, hsz3, hf3⟩ := allocF [(.cells #[.string { data := #[97] }] 9), (.cells #[.string { data := #[97] }, .string { data := #[120] }, .string { data := #[117] }, .slice none 0 0, .int .i64 0, .int .i64 0, .int .i64 0, .int .i64 5, .int .u8 0, .string { data := #[] }, .slice none 0 0, .slice none 0 0, .int .i64 0, .string { data := #[98] }, .string { data := #[121] }, .string { data := #[118] }, .slice (some ⟨w.heap.size, 0, none⟩) 1 1, .int .i64 0, .int .i64 0, .int .i64 0, .int .i64 5, .int .u8 0, .string { data := #[] }, .slice none 0 0, .slice none 0 0, .int .i64 0] 47), (.cells #[.string { data := #[115] }, .string { data := #[] }, .slice (some ⟨w.heap.size + 1, 0, none⟩) 2 2] 24)] w
  have g0 := hf3 0 _ rfl
  have g1 := hf3 1 _ rfl
  have g2 := hf3 2 _ rfl
  have e0 : w.heap.size + 0 = w.heap.size := rfl
  simp only [List.foldl_cons, List.foldl_nil, List.length_cons, List.length_nil, Nat.reduceAdd] at hb3 hsz3 g0 g1 g2
  rw [e0] at g0
  clear hf3 e0
  go_enter Tryz.func7, Tryz.ntmps7
  go_upto_region 2 with fail
  generalize (((w.alloc (.cells #[.string { data := #[97] }] 9)).alloc (.cells #[.string { data := #[97] }, .string { data := #[120] }, .string { data := #[117] }, .slice none 0 0, .int .i64 0, .int .i64 0, .int .i64 0, .int .i64 5, .int .u8 0, .string { data := #[] }, .slice none 0 0, .slice none 0 0, .int .i64 0, .string { data := #[98] }, .string { data := #[121] }, .string { data := #[118] }, .slice (some ⟨w.heap.size, 0, none⟩) 1 1, .int .i64 0, .int .i64 0, .int .i64 0, .int .i64 5, .int .u8 0, .string { data := #[] }, .slice none 0 0, .slice none 0 0, .int .i64 0] 47)).alloc (.cells #[.string { data := #[115] }, .string { data := #[] }, .slice (some ⟨w.heap.size + 1, 0, none⟩) 2 2] 24)) = w3 at *
  have hb4 : Below w3.heap.size w3 (w3.alloc (.cells #[.int .i64 1, .int .i64 0, .int .i64 1, .bool false, .int .u8 0, .int .i64 2, .int .i64 1, .int .i64 1, .bool false, .int .u8 0] 32)) := (Below.refl _ _).alloc (Nat.le_refl _) _
  have g4 := World.alloc_heap_new w3 (.cells #[.int .i64 1, .int .i64 0, .int .i64 1, .bool false, .int .u8 0, .int .i64 2, .int .i64 1, .int .i64 1, .bool false, .int .u8 0] 32)
  have HDR := Lib.hid (Drive_any dSg _ _ _ [(1, 0, 1, false, 0), (2, 1, 1, false, 0)] (some ⟨w3.heap.size, 0, none⟩) 2 _ ((dSg_r g0 g1).below hb4) dSg_small (by decide) (fun x hx => by
    simp only [List.mem_cons, List.not_mem_nil, or_false] at hx
    rcases hx with rfl | rfl <;> (unfold I64w; decide)) (rds_rowK 2 5 (l := [.int .i64 1, .int .i64 0, .int .i64 1, .bool false, .int .u8 0, .int .i64 2, .int .i64 1, .int .i64 1, .bool false, .int .u8 0]) g4 rfl (by decide)))
  rw [drvSg1] at HDR
  obtain ⟨p0, p1, p2, -, -, -⟩ := cells3h g2
  have HB := Lib.hid hb3
  have HB4 := Lib.hid hb4
  have HG0 := Lib.hid g0
  have HG1 := Lib.hid g1
  have HG2 := Lib.hid g2
  have HSZ := Lib.hid hsz3
  clear hb3 hb4 g0 g1 g2 g4 hsz3
  go_wp2_with fail
  refine HDR.out.mono ?_
  rintro e w5 ⟨rfl, hb5⟩
  have hl2 := HSZ.out
  have hb35 : Below w3.heap.size w3 w5 := HB4.out.trans (hb5.mono HB4.out.size)
  have hg0 := (hb35.block _ (by omega)).trans HG0.out
  have hg1 := (hb35.block _ (by omega)).trans HG1.out
  have hg2 := (hb35.block _ (by omega)).trans HG2.out
  have HB5 := Lib.hid (bthen HB.out (by omega) hb35)
  clear p0 p1 p2 hb5 hb35 HDR HB4 hl2
  obtain ⟨p0, p1, p2, -, -, -⟩ := cells3h hg2
  have hb6 : Below w5.heap.size w5 (w5.alloc (.cells #[.int .i64 1, .int .i64 0, .int .i64 1, .bool false, .int .u8 0] 32)) := (Below.refl _ _).alloc (Nat.le_refl _) _
  have g6 := World.alloc_heap_new w5 (.cells #[.int .i64 1, .int .i64 0, .int .i64 1, .bool false, .int .u8 0] 32)
  have HDR := Lib.hid (Drive_any dSg _ _ _ [(1, 0, 1, false, 0)] (some ⟨w5.heap.size, 0, none⟩) 1 _ ((dSg_r hg0 hg1).below hb6) dSg_small (by decide) (fun x hx => by
    cases List.mem_singleton.1 hx
    unfold I64w
    decide) (rds_rowK 1 5 (l := [.int .i64 1, .int .i64 0, .int .i64 1, .bool false, .int .u8 0]) g6 rfl (by decide)))
  rw [drvSg2] at HDR
  have HB6 := Lib.hid hb6
  clear hg0 hg1 hg2 hb6 g6
  go_wp2_with fail
  refine HDR.out.mono ?_
  rintro e w7 ⟨rfl, hb7⟩
  have HB7 := Lib.hid ((HB5.out.trans ((HB6.out.trans (hb7.mono HB6.out.size)).mono HB5.out.size)))
  clear p0 p1 p2 hb7 HDR
  go_wp2_with fail
  go_ret
  exact ⟨rfl, HB7.out⟩
end Go.Proofs.YtgfiogjfgbegpaaGreat

/-
  WholeBack: what lies in memory while a saga is answered, order by order.
-/
namespace Go.Proofs.YtgfiogjfgbegpaaGreat
open Go Go.RowKit Go.Maps Go.WideShapes

theorem flatO_app (a b : List OrdD) : flatO (a ++ b) = flatO a ++ flatO b := List.flatMap_append
theorem flatO_one (l : List OrdD) : ∀ u ∈ flatO l, u.oneCell' = true := by
  intro u hu
  unfold flatO at hu
  obtain ⟨x, _, hx⟩ := List.mem_flatMap.1 hu
  simp only [List.mem_cons, List.not_mem_nil, or_false] at hx
  rcases hx with rfl | rfl | rfl | rfl <;> rfl
theorem CallTo.afterR {W w' : World} {V : Nat → Prop} {k : SagK} {Z : SagD} {os : List OrdD} {v : Value} {B : Nat} (h : CallTo W V w' k Z os v) (hV : ∀ j, V j → B ≤ j ∧ j < W.heap.size) (hB : B ≤ W.heap.size) :
    ∃ (V' : Nat → Prop) (va : Option Addr) (vc : Nat), v = .slice va os.length vc ∧ w'.ownsRow W.heap.size 55 4 (.slice va os.length vc) os.length (flatO os) ∧ (∀ g, (Value.slice va os.length vc).ownBlock = some g → ¬ V' g) ∧ SagE w' V' k Z ∧ (∀ j, V' j → B ≤ j ∧ j < w'.heap.size) ∧ Below B W w' ∧ ∀ j, j < W.heap.size → ¬ V j → w'.heap[j]? = W.heap[j]? ∧ ¬ V' j := by
  obtain ⟨V', va, vc, e, hr, hno, hS, hG, hU⟩ := h
  have hb := hG.below (B := B) (fun j hj => (hV j hj).1) hB
  exact ⟨V', va, vc, e, hr, hno, hS, fun j hj => ⟨hb.2 j hj, hU j hj⟩, hb.1, fun j hj hn => hG.stays hj hn⟩
theorem BackQ.len {l : List StepD} {rs : List (List Int)} {fail : Int} {S : SagD} {todo : List OrdD} {und : List Int} {c : Nat} (h : BackQ l rs fail S todo und c) : todo.length ≤ l.length ∧ und.length ≤ l.length := by
  rcases h with ⟨h1, rfl, -⟩ | ⟨h1, rfl, -⟩ | ⟨m, i, u, h1, -⟩ | h1
  · exact ⟨h1.q.short, Nat.zero_le _⟩
  · exact ⟨h1.q.short, Nat.zero_le _⟩
  · have hd := h1.inv.dl
    have hu := h1.inv.ul
    have hm := List.mem_of_getElem? h1.mi
    have hp := List.length_pos_of_mem hm
    refine ⟨by rw [h1.td]; show 1 ≤ _; omega, ?_⟩
    rw [h1.ud]
    have := List.length_filter_le (undB l) S.undone
    omega
  · have hd := h1.inv.dl
    have hu := h1.inv.ul
    refine ⟨by rw [h1.td]; exact Nat.zero_le _, ?_⟩
    rw [h1.ud]
    have := List.length_filter_le (undB l) S.undone
    omega
def undK (l : List StepD) (dn : List Int) (q : Nat) : List Int := (dn.drop q).reverse.filter (undB l)
theorem undK_all (l : List StepD) (dn : List Int) : undK l dn dn.length = [] := by
  unfold undK
  rw [List.drop_length]
  rfl
theorem undK_step {l : List StepD} {dn : List Int} {q : Nat} (hq : q < dn.length) : undK l dn q = if undB l dn[q] = true then undK l dn (q + 1) ++ [dn[q]] else undK l dn (q + 1) := by
  unfold undK
  rw [List.drop_eq_getElem_cons hq, List.reverse_cons, List.filter_append]
  by_cases h : undB l dn[q] = true
  · rw [if_pos h, List.filter_cons_of_pos h]
    rfl
  · rw [if_neg h, List.filter_cons_of_neg h]
    simp
theorem undK_pre (l : List StepD) (dn : List Int) (q : Nat) : undK l dn q <+: undK l dn 0 := by
  unfold undK
  rw [List.drop_zero]
  have e : dn.reverse = (dn.drop q).reverse ++ (dn.take q).reverse := by
    rw [← List.reverse_append, List.take_append_drop]
  rw [e, List.filter_append]
  exact List.prefix_append _ _
structure BakM (w3 : World) (B2 : Nat) (k : SagK) (V : Nat → Prop) (W : World) (S : SagD) (todo : List OrdD) (ta : Option Addr) (tc : Nat) (und : List Int) (ua : Option Addr) (uc : Nat) : Prop where
  sag : SagE W V k S
  vB : ∀ j, V j → w3.heap.size ≤ j ∧ j < W.heap.size
  q : QueR W 55 4 ta todo.length tc (flatO todo)
  qB : ∀ g, queB ta tc = some g → B2 ≤ g ∧ ¬ V g
  un : W.ownsRow B2 3 1 (.slice ua und.length uc) und.length (ints .i64 und)
  uB : ∀ g, (Value.slice ua und.length uc).ownBlock = some g → ¬ V g
  low : Below w3.heap.size w3 W
  nN : k.N ≤ B2
  b2 : w3.heap.size ≤ B2 ∧ B2 ≤ W.heap.size
section
variable {w3 W W' : World} {B2 : Nat} {k : SagK} {V : Nat → Prop} {S : SagD} {todo : List OrdD} {ta : Option Addr} {tc : Nat} {und : List Int} {ua : Option Addr} {uc : Nat}
theorem BakM.qlt (h : BakM w3 B2 k V W S todo ta tc und ua uc) {g : Nat} (hg : queB ta tc = some g) : g < W.heap.size := by
  obtain ⟨cur, hc⟩ := h.q.blk hg
  exact (Array.getElem?_eq_some_iff.1 hc).1
theorem BakM.below (h : BakM w3 B2 k V W S todo ta tc und ua uc) (hb : Below W.heap.size W W') : BakM w3 B2 k V W' S todo ta tc und ua uc :=
  ⟨h.sag.below hb, fun j hj => ⟨(h.vB j hj).1, Nat.lt_of_lt_of_le (h.vB j hj).2 hb.size⟩, h.q.keep (fun g hg => hb.block g (h.qlt hg)), h.qB, ownsRow_keepB h.un (fun g hg => hb.block g (h.un.lt g hg).2), h.uB, bthen h.low (Nat.le_refl _) hb, h.nN, ⟨h.b2.1, Nat.le_trans h.b2.2 hb.size⟩⟩
theorem BakM.tail {o : OrdD} (h : BakM w3 B2 k V W S (o :: todo) ta tc und ua uc) : ∃ ta', sliced ta 1 (o :: todo).length tc 4 = .slice ta' todo.length (tc - 1) ∧ BakM w3 B2 k V W S todo ta' (tc - 1) und ua uc := by
  obtain ⟨ta', h1, h2, h3⟩ := h.q.tail (Nat.succ_pos _)
  exact ⟨ta', h1, ⟨h.sag, h.vB, h2, fun g hg => h.qB g (h3 g hg), h.un, h.uB, h.low, h.nN, h.b2⟩⟩
theorem BakM.call {S' : SagD} {os : List OrdD} {v : Value} (h : BakM w3 B2 k V W S todo ta tc und ua uc) (hc : CallTo W V W' k S' os v) : ∃ (V' : Nat → Prop) (oa : Option Addr) (oc : Nat), v = .slice oa os.length oc ∧ BakM w3 B2 k V' W' S' todo ta tc und ua uc ∧ RdS W' (.slice oa os.length oc) 4 os.length (flatO os) := by
  obtain ⟨V', oa, oc, e, hr, hS, hV', hb, hst⟩ := hc.after (B := w3.heap.size) (fun j hj => h.vB j hj) h.low.size
  refine ⟨V', oa, oc, e, ⟨hS, hV', h.q.keep (fun g hg => (hst g (h.qlt hg) (h.qB g hg).2).1), fun g hg => ⟨(h.qB g hg).1, (hst g (h.qlt hg) (h.qB g hg).2).2⟩, ownsRow_keepB h.un (fun g hg => (hst g (h.un.lt g hg).2 (h.uB g hg)).1), fun g hg => (hst g (h.un.lt g hg).2 (h.uB g hg)).2, h.low.trans hb, h.nN, ⟨h.b2.1, Nat.le_trans h.b2.2 hb.size⟩⟩, RdS.of_owns hr⟩
theorem BakM.away {X i : Nat} (h : BakM w3 B2 k V W S todo ta tc und ua uc) (hX : B2 ≤ X ∧ ¬ V X ∧ queB ta tc ≠ some X ∧ (Value.slice ua und.length uc).ownBlock ≠ some X) (v : Value) : BakM w3 B2 k V (W.setCell ⟨X, i, none⟩ v) S todo ta tc und ua uc := by
  have hb2 := h.b2
  have ho : ∀ j, j ≠ X → (W.setCell ⟨X, i, none⟩ v).heap[j]? = W.heap[j]? := fun j hj => Below.heap_setCell _ _ _ _ hj
  exact ⟨h.sag.moved (by simp) (fun j hj _ => ho j (by have := h.nN; omega)) (fun j hj _ => ho j (fun e => hX.2.1 (e ▸ hj))), fun j hj => by have := h.vB j hj; simpa using this, h.q.keep (fun g hg => ho g (fun e => hX.2.2.1 (e ▸ hg))), h.qB, ownsRow_keepB h.un (fun g hg => ho g (fun e => hX.2.2.2 (e ▸ hg))), h.uB, h.low.setCell (by show _ ≤ X; omega) _, h.nN, ⟨hb2.1, by simpa using hb2.2⟩⟩
theorem BakM.que {os : List OrdD} {ta' : Option Addr} {tc' : Nat} (h : BakM w3 B2 k V W S todo ta tc und ua uc) (hq : QueR W' 55 4 ta' (todo.length + os.length) tc' (flatO todo ++ flatO os)) (hg : W.grownBy W' (queB ta tc)) (hn : ∀ g, queB ta' tc' = some g → queB ta tc = some g ∨ W.heap.size ≤ g) :
    BakM w3 B2 k V W' S (todo ++ os) ta' tc' und ua uc := by
  have hV : ∀ j, V j → W'.heap[j]? = W.heap[j]? := fun j hj => hg.block j (h.vB j hj).2 (fun e => (h.qB j e.symm).2 hj)
  have hb2 := h.b2
  refine ⟨h.sag.moved hg.size (fun j hj _ => hg.block j (by have := h.nN; omega) (fun e => by have := (h.qB j e.symm).1; have := h.nN; omega)) (fun j hj _ => hV j hj), fun j hj => ⟨(h.vB j hj).1, Nat.lt_of_lt_of_le (h.vB j hj).2 hg.size⟩, by rw [List.length_append, flatO_app]; exact hq, fun g hgg => ?_, ownsRow_keepB h.un (fun g hgg => hg.block g (h.un.lt g hgg).2 (fun e => ?_)), h.uB, h.low.grown hg h.low.size (fun q hq2 => by have := (h.qB q hq2).1; omega), h.nN, ⟨hb2.1, Nat.le_trans hb2.2 hg.size⟩⟩
  · rcases hn g hgg with e | e
    · exact h.qB g e
    · exact ⟨by omega, fun e2 => by have := (h.vB g e2).2; omega⟩
  · obtain ⟨c1, k1⟩ := owns_cells h.un hgg
    obtain ⟨c2, k2⟩ := h.q.blk e.symm
    rw [k1] at k2
    injection k2 with k2
    injection k2 with _ k3 _
    exact absurd k3 (by decide)
theorem BakM.noted {tmp : Obj} {i : Int} {ua' : Option Addr} {uc' : Nat} (h : BakM w3 B2 k V W S todo ta tc und ua uc) (ho : W'.ownsRow B2 3 1 (.slice ua' (und.length + 1) uc') (und.length + 1) (ints .i64 und ++ [.int .i64 i])) (hg : (W.alloc tmp).grownBy W' (Value.slice ua und.length uc).ownBlock) (hf : Fresh (W.alloc tmp) (.slice ua und.length uc) (.slice ua' (und.length + 1) uc')) :
    BakM w3 B2 k V W' S todo ta tc (und ++ [i]) ua' uc' := by
  have h1 := h.below ((Below.refl _ W).alloc (Nat.le_refl _) tmp)
  have hb2 := h1.b2
  have hV : ∀ j, V j → W'.heap[j]? = (W.alloc tmp).heap[j]? := fun j hj => hg.block j (h1.vB j hj).2 (fun e => h1.uB j e.symm hj)
  refine ⟨h1.sag.moved hg.size (fun j hj _ => hg.block j (by have := h1.nN; omega) (fun e => by have := (h1.un.lt j e.symm).1; have := h1.nN; omega)) (fun j hj _ => hV j hj), fun j hj => ⟨(h1.vB j hj).1, Nat.lt_of_lt_of_le (h1.vB j hj).2 hg.size⟩, h1.q.keep (fun g hgg => hg.block g (h1.qlt hgg) (fun e => ?_)), h1.qB, ?_, fun g hgg => ?_, h1.low.grown hg h1.low.size (fun q hq2 => by have := (h1.un.lt q hq2).1; omega), h1.nN, ⟨hb2.1, Nat.le_trans hb2.2 hg.size⟩⟩
  · obtain ⟨c1, k1⟩ := owns_cells h1.un e.symm
    obtain ⟨c2, k2⟩ := h1.q.blk hgg
    rw [k1] at k2
    injection k2 with k2
    injection k2 with _ k3 _
    exact absurd k3 (by decide)
  · have e1 : ints .i64 (und ++ [i]) = ints .i64 und ++ [.int .i64 i] := by simp [ints]
    rw [List.length_append, List.length_singleton, e1]
    exact ho
  · rw [List.length_append, List.length_singleton] at hgg
    rcases hf g hgg with e | e
    · exact h1.uB g e
    · intro e2
      have := (h1.vB g e2).2
      omega
end
end Go.Proofs.YtgfiogjfgbegpaaGreat
