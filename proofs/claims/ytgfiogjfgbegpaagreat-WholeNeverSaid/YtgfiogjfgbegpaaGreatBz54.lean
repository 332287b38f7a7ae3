/-
  Sagas (no program): one more answer on the way of a saga of which one step fails for good.
-/
import Derived.Test.YtgfiogjfgbegpaaGreatBz31
import Derived.Test.YtgfiogjfgbegpaaGreatBz41
import Derived.Test.YtgfiogjfgbegpaaGreatBz49
import Derived.Test.YtgfiogjfgbegpaaGreatBz50
import Derived.Test.YtgfiogjfgbegpaaGreatBz53
namespace Go.Proofs.YtgfiogjfgbegpaaGreat
open Go Go.RowKit

theorem BackA.of_fold {l : List StepD} {rs : List (List Int)} {fail : Int} {S : SagD} {rest : List OrdD} (hq : RunQ l.length S rest) (hst : S.status = 1)
    (hph : ∀ i : Nat, i < l.length → phaseI S (i : Int) = 0 ∨ phaseI S (i : Int) = 1 ∨ phaseI S (i : Int) = 3) (hid : ∀ i : Int, (S.runs (i, false)).1 = 0 → (S.runs (i, false)).2.1 = 0) (hff : phaseI S fail ≠ 3) :
    BackA l rs fail ((List.range l.length).foldl (begX l rs 0) (S, [])).1 (rest ++ ((List.range l.length).foldl (begX l rs 0) (S, [])).2) := by
  have hB := begs_spec l rs 0 (S, []) hid l.length
  have hinv := InvS.begs (n := l.length) (l := l) (rs := rs) (now := 0) (List.range l.length) (S, []) (fun i hi => List.mem_range.1 hi) hq.inv
  generalize (List.range l.length).foldl (begX l rs 0) (S, []) = Y at *
  have hout := hB.out
  rw [List.nil_append] at hout
  have hruns : ∀ k : WayD, Y.1.runs k = if k.2 = false ∧ 0 ≤ k.1 ∧ k.1 < (l.length : Int) ∧ readyB rs S k.1.toNat = true then beginR (l[k.1.toNat]?.getD default) 0 else S.runs k := hB.runs
  have hidle : ∀ i : Int, 0 ≤ i → readyB rs S i.toNat = true → (S.runs (i, false)).1 = 0 := fun i h0 hr => by
    have h := ready_idle hr
    unfold phaseI at h
    have e : ((i.toNat : Nat) : Int) = i := by omega
    rw [e] at h
    exact h
  have hnew : ∀ i : Nat, i < l.length → readyB rs S i = true → Y.1.runs ((i : Int), false) = beginR (l[i]?.getD default) 0 := fun i hi hr => by
    have e : ((i : Int)).toNat = i := by omega
    rw [hruns, if_pos ⟨rfl, by show (0 : Int) ≤ (i : Int); omega, by show (i : Int) < _; omega, by show readyB rs S ((i : Int)).toNat = true; rw [e]; exact hr⟩]
    show beginR (l[((i : Int)).toNat]?.getD default) 0 = _
    rw [e]
  have hold : ∀ i : Int, (S.runs (i, false)).1 ≠ 0 → Y.1.runs (i, false) = S.runs (i, false) := fun i hn => by
    rw [hruns, if_neg]
    rintro ⟨_, h0, _, hr⟩
    exact hn (hidle i h0 hr)
  refine ⟨⟨hinv, hB.undone.trans hq.un, ?_, ?_, ?_, ?_⟩, hB.status.trans hst, ?_, ?_, ?_, ?_⟩
  · rw [List.map_append, List.nodup_append]
    refine ⟨hq.nk, ?_, ?_⟩
    · rw [hout, List.map_map]
      refine List.Pairwise.map (R := (· ≠ ·)) (S := (· ≠ ·)) _ (fun a b hab e => hab ?_) (List.Pairwise.filter _ List.nodup_range)
      have e : (a : Int) = (b : Int) := e
      omega
    · intro a ha b hb e
      obtain ⟨o, ho, rfl⟩ := List.mem_map.1 ha
      rw [hout] at hb
      obtain ⟨p, hp, rfl⟩ := List.mem_map.1 hb
      obtain ⟨i, hi, rfl⟩ := List.mem_map.1 hp
      have hr := (List.mem_filter.1 hi).2
      have e : o.1 = (i : Int) := e
      have h1 := (hq.td o ho).2.2.2.2.1
      have h2 := ready_idle hr
      unfold phaseI at h2
      rw [e] at h1
      have h2 : (S.runs ((i : Int), false)).1 = 0 := h2
      omega
  · intro o ho
    rcases List.mem_append.1 ho with h | h
    · obtain ⟨h0, h1, h2, h3, h4, h5⟩ := hq.td o h
      have e := hold o.1 (by omega)
      exact ⟨h0, h1, h2, h3, by rw [e]; exact h4, by rw [e]; exact h5⟩
    · rw [hout] at h
      obtain ⟨i, hi, rfl⟩ := List.mem_map.1 h
      have hr := (List.mem_filter.1 hi).2
      have hil := List.mem_range.1 (List.mem_filter.1 hi).1
      have e := hnew i hil hr
      refine ⟨by show (0 : Int) ≤ (i : Int); omega, by show (i : Int) < _; omega, rfl, rfl, ?_, ?_⟩
      · show (Y.1.runs ((i : Int), false)).1 = 1
        rw [e]
        rfl
      · show (Y.1.runs ((i : Int), false)).2.1 = 1
        rw [e]
        exact inc_zero
  · intro i hi h
    by_cases hr : readyB rs S i = true
    · exact ⟨((i : Int), 1, false, nowI 0 + limI (l[i]?.getD default).limit), List.mem_append_right _ (by rw [hout]; exact List.mem_map.2 ⟨i, List.mem_filter.2 ⟨List.mem_range.2 hi, hr⟩, rfl⟩), rfl⟩
    · have e : Y.1.runs ((i : Int), false) = S.runs ((i : Int), false) := by
        rw [hruns, if_neg]
        rintro ⟨_, _, _, h2⟩
        have e : ((i : Int)).toNat = i := by omega
        have h2 : readyB rs S ((i : Int)).toNat = true := h2
        rw [e] at h2
        exact hr h2
      unfold phaseI at h
      rw [e] at h
      obtain ⟨o, ho, he⟩ := hq.ask i hi h
      exact ⟨o, List.mem_append_left _ ho, he⟩
  · intro i
    rw [hruns, if_neg (by rintro ⟨h, _⟩; cases h)]
    exact hq.ud i
  · intro i hi
    by_cases hr : readyB rs S i = true
    · refine .inr (.inl ?_)
      unfold phaseI
      rw [hnew i hi hr]
      rfl
    · have e : Y.1.runs ((i : Int), false) = S.runs ((i : Int), false) := by
        rw [hruns, if_neg]
        rintro ⟨_, _, _, h2⟩
        have e : ((i : Int)).toNat = i := by omega
        have h2 : readyB rs S ((i : Int)).toNat = true := h2
        rw [e] at h2
        exact hr h2
      unfold phaseI
      rw [e]
      exact hph i hi
  · intro i h
    rw [hruns] at h ⊢
    split at h
    · exact absurd (show (1 : Int) = 0 from h) (by decide)
    · rename_i hc
      rw [if_neg hc]
      exact hid i h
  · intro i hi
    by_cases hr : readyB rs S i = true
    · refine readyB_no ?_
      unfold phaseI
      rw [hnew i hi hr]
      show (1 : Int) ≠ 0
      decide
    · have e1 : phaseI Y.1 (i : Int) = phaseI S (i : Int) := by
        unfold phaseI
        rw [hruns, if_neg]
        rintro ⟨_, _, _, h2⟩
        have e : ((i : Int)).toNat = i := by omega
        have h2 : readyB rs S ((i : Int)).toNat = true := h2
        rw [e] at h2
        exact hr h2
      have e2 : (fun x => decide (phaseI Y.1 x = 3)) = (fun x => decide (phaseI S x = 3)) := by
        funext x
        exact decide_eq_decide.2 (hB.three x)
      unfold readyB at hr ⊢
      rw [e1, e2]
      simpa using hr
  · intro h
    exact hff ((hB.three fail).1 h)
def runSag : SagD := ⟨fun _ => idleR, [], [], 1⟩
theorem BackQ.mono {l : List StepD} {rs : List (List Int)} {fail : Int} {S : SagD} {todo : List OrdD} {und : List Int} {c c' : Nat} (h : BackQ l rs fail S todo und c) (hc : c ≤ c') : BackQ l rs fail S todo und c' := by
  rcases h with ⟨h1, h2, h3⟩ | ⟨h1, h2, h3⟩ | ⟨m, i, u, h1, h2⟩ | h1
  · exact .inl ⟨h1, h2, by omega⟩
  · exact .inr (.inl ⟨h1, h2, by omega⟩)
  · exact .inr (.inr (.inl ⟨m, i, u, h1, by omega⟩))
  · exact .inr (.inr (.inr h1))
theorem BackQ.done {d : DefD} {fail : Int} {S : SagD} {und : List Int} {c : Nat} (hc : cleanB d = true) (hf : 0 ≤ fail ∧ fail < (d.steps.length : Int)) (h : BackQ d.steps (depsA d.steps 0 d.steps) fail S [] und c) : BackD d.steps fail S [] und := by
  rcases h with ⟨h1, -, -⟩ | ⟨h1, -, -⟩ | ⟨m, i, u, h1, -⟩ | h1
  · exfalso
    obtain ⟨i, hi, hn, hd⟩ := clean_first hc (D := fun i => phaseI S (i : Int) = 3) ⟨fail.toNat, by omega, by
      have e : ((fail.toNat : Nat) : Int) = fail := by omega
      rw [e]
      exact h1.ff⟩
    have hr := h1.rd i hi
    rcases h1.ph i hi with h0 | h0 | h0
    · unfold readyB at hr
      rw [decide_eq_true h0, Bool.true_and] at hr
      have : ((depsA d.steps 0 d.steps)[i]?.getD []).all (fun j => decide (phaseI S j = 3)) = true := by
        rw [List.all_eq_true]
        intro j hj
        obtain ⟨y, rfl, _, hy⟩ := hd j hj
        exact decide_eq_true hy
      rw [this] at hr
      cases hr
    · obtain ⟨o, ho, _⟩ := h1.q.ask i hi h0
      cases ho
    · exact hn h0
  · exact absurd rfl h1.ne
  · cases h1.td
  · exact h1
theorem ansR_zero {s : StepD} {r : RunD} {now tr : Int} (h1 : r.1 = 1) (h2 : r.2.1 = tr) : ansR s r now tr 0 = ((3, r.2.1, 0, r.2.2.2), true) := by
  unfold ansR answerT
  rw [if_pos ⟨h1, h2⟩, if_pos rfl]
theorem ansR_two {s : StepD} {r : RunD} {now tr : Int} (h1 : r.1 = 1) (h2 : r.2.1 = tr) : ansR s r now tr 2 = ((4, r.2.1, 0, r.2.2.2), true) := by
  unfold ansR answerT
  rw [if_pos ⟨h1, h2⟩, if_neg (by decide), if_neg (by decide), if_pos rfl]
theorem sset_other {S : SagD} {k y : WayD} {r : RunD} (h : y ≠ k) : (S.set k r).runs y = S.runs y := by
  show (if y = k then r else S.runs y) = _
  rw [if_neg h]
theorem sset_same {S : SagD} {k : WayD} {r : RunD} : (S.set k r).runs k = r := by
  show (if k = k then r else S.runs k) = _
  rw [if_pos rfl]
theorem done_short {n : Nat} {S : SagD} {fail : Int} (h : InvS n S) (hf : 0 ≤ fail ∧ fail < (n : Int)) (hn : fail ∉ S.done) : S.done.length ≠ n := by
  have := nodup_sub_len (L := fail :: S.done) (M := (List.range n).map fun i : Nat => (i : Int)) (List.nodup_cons.2 ⟨hn, h.nd⟩) (fun x hx => by
    have h1 : 0 ≤ x ∧ x < (n : Int) := by
      rcases List.mem_cons.1 hx with rfl | h2
      · exact hf
      · exact h.dn x h2
    exact List.mem_map.2 ⟨x.toNat, List.mem_range.2 (by omega), by omega⟩)
  simp only [List.length_cons, List.length_map, List.length_range] at this
  omega
def overS (S : SagD) (i : Int) : SagD := { S.set (i, false) (3, (S.runs (i, false)).2.1, 0, (S.runs (i, false)).2.2.2) with done := S.done ++ [i] }
theorem overS_f {S : SagD} {i j : Int} (h : j ≠ i) : (overS S i).runs (j, false) = S.runs (j, false) := sset_other (S := S) (fun e => h (congrArg Prod.fst e))
theorem overS_t {S : SagD} {i j : Int} : (overS S i).runs (j, true) = S.runs (j, true) := sset_other (S := S) (fun e => by cases congrArg Prod.snd e)
theorem overS_i {S : SagD} {i : Int} : (overS S i).runs (i, false) = (3, (S.runs (i, false)).2.1, 0, (S.runs (i, false)).2.2.2) := sset_same (S := S)
theorem overS_phase {S : SagD} {i : Int} (j : Int) : phaseI (overS S i) j = if j = i then 3 else phaseI S j := by
  unfold phaseI
  by_cases e : j = i
  · subst e
    rw [overS_i, if_pos rfl]
  · rw [overS_f e, if_neg e]
theorem overS_put {S : SagD} {i : Int} (h : (S.runs (i, false)).1 ≠ 3) : putX (S, []) (i, false) (3, (S.runs (i, false)).2.1, 0, (S.runs (i, false)).2.2.2) = (overS S i, []) := by
  unfold putX
  rw [if_pos ⟨rfl, h, rfl⟩]
  rfl
theorem overS_inv {n : Nat} {S : SagD} {i : Int} (h : InvS n S) (hi : 0 ≤ i ∧ i < (n : Int)) (h3 : (S.runs (i, false)).1 ≠ 3) : InvS n (overS S i) := by
  have := InvS.put (X := (S, [])) (k := (i, false)) (r := (3, (S.runs (i, false)).2.1, 0, (S.runs (i, false)).2.2.2)) h hi (fun _ _ => rfl)
  rw [overS_put h3] at this
  exact this
theorem RunQ.over {n : Nat} {S : SagD} {o : OrdD} {rest : List OrdD} (h : RunQ n S (o :: rest)) : RunQ n (overS S o.1) rest := by
  obtain ⟨h0, h1, h2, h3, h4, h5⟩ := h.td o List.mem_cons_self
  have hnk := h.nk
  rw [List.map_cons, List.nodup_cons] at hnk
  have hne : ∀ p ∈ rest, p.1 ≠ o.1 := fun p hp e => hnk.1 (List.mem_map.2 ⟨p, hp, e⟩)
  refine ⟨overS_inv h.inv ⟨h0, h1⟩ (by omega), h.un, hnk.2, ?_, ?_, ?_⟩
  · intro p hpm
    obtain ⟨a0, a1, a2, a3, a4, a5⟩ := h.td p (List.mem_cons_of_mem _ hpm)
    have e := overS_f (S := S) (hne p hpm)
    exact ⟨a0, a1, a2, a3, by rw [e]; exact a4, by rw [e]; exact a5⟩
  · intro i hi hph
    rw [overS_phase] at hph
    by_cases e : (i : Int) = o.1
    · rw [if_pos e] at hph
      omega
    · rw [if_neg e] at hph
      obtain ⟨p, hpm, hpe⟩ := h.ask i hi hph
      rcases List.mem_cons.1 hpm with rfl | hpm
      · exact absurd hpe.symm e
      · exact ⟨p, hpm, hpe⟩
  · intro i
    rw [overS_t]
    exact h.ud i
def deadS (n : Nat) (S : SagD) (i : Int) : SagD := haltS n (S.set (i, false) (4, (S.runs (i, false)).2.1, 0, (S.runs (i, false)).2.2.2))
theorem deadS_t {n : Nat} {S : SagD} {i j : Int} : (deadS n S i).runs (j, true) = S.runs (j, true) := by
  unfold deadS haltS stopS
  dsimp only
  rw [if_neg (fun e => by cases e.1)]
  exact sset_other (fun e => by cases congrArg Prod.snd e)
theorem stopR_ph (r : RunD) : ((stopR r).1 = 1 ↔ r.1 = 1) ∧ ((stopR r).1 = 3 ↔ r.1 = 3) ∧ ((r.1 = 0 ∨ r.1 = 2 ∨ r.1 = 4) → (stopR r).1 = 4) ∧ (r.1 = 1 → (stopR r).2.1 = r.2.1) := by
  unfold stopR stopT
  by_cases h : r.1 = 0 ∨ r.1 = 2
  · rw [if_pos h]
    refine ⟨⟨fun e => absurd (show (4 : Int) = 1 from e) (by decide), fun e => by omega⟩, ⟨fun e => absurd (show (4 : Int) = 3 from e) (by decide), fun e => by omega⟩, fun _ => rfl, fun e => by omega⟩
  · rw [if_neg h]
    by_cases h1 : r.1 = 1
    · rw [if_pos h1]
      exact ⟨Iff.rfl, Iff.rfl, fun e => by omega, fun _ => rfl⟩
    · rw [if_neg h1]
      refine ⟨Iff.rfl, Iff.rfl, fun e => ?_, fun _ => rfl⟩
      show r.1 = 4
      omega
theorem deadS_f {n : Nat} {S : SagD} {i j : Int} (hj : 0 ≤ j ∧ j < (n : Int)) (h : j ≠ i) : (deadS n S i).runs (j, false) = stopR (S.runs (j, false)) := by
  show (if ((j, false) : WayD).2 = false ∧ 0 ≤ ((j, false) : WayD).1 ∧ ((j, false) : WayD).1 < (n : Int) then stopR ((S.set (i, false) _).runs (j, false)) else _) = _
  rw [if_pos ⟨rfl, hj.1, hj.2⟩, sset_other (fun e => h (congrArg Prod.fst e))]
theorem deadS_i {n : Nat} {S : SagD} {i : Int} (hi : 0 ≤ i ∧ i < (n : Int)) : phaseI (deadS n S i) i = 4 := by
  have e : (deadS n S i).runs (i, false) = stopR (4, (S.runs (i, false)).2.1, 0, (S.runs (i, false)).2.2.2) := by
    show (if ((i, false) : WayD).2 = false ∧ 0 ≤ ((i, false) : WayD).1 ∧ ((i, false) : WayD).1 < (n : Int) then stopR ((S.set (i, false) _).runs (i, false)) else _) = _
    rw [if_pos ⟨rfl, hi.1, hi.2⟩, sset_same]
  unfold phaseI
  rw [e]
  exact (stopR_ph _).2.2.1 (.inr (.inr rfl))
theorem RunQ.dead {n : Nat} {S : SagD} {o : OrdD} {rest : List OrdD} (h : RunQ n S (o :: rest)) : RunQ n (deadS n S o.1) rest := by
  obtain ⟨h0, h1, h2, h3, h4, h5⟩ := h.td o List.mem_cons_self
  have hnk := h.nk
  rw [List.map_cons, List.nodup_cons] at hnk
  have hne : ∀ p ∈ rest, p.1 ≠ o.1 := fun p hp e => hnk.1 (List.mem_map.2 ⟨p, hp, e⟩)
  have hnd : o.1 ∉ S.done := fun e => by have := h.inv.ov _ e; omega
  refine ⟨⟨h.inv.dn, h.inv.nd, fun i hi => ?_, h.inv.ul⟩, h.un, hnk.2, ?_, ?_, ?_⟩
  · have hi : i ∈ S.done := hi
    rw [deadS_f (h.inv.dn i hi) (fun e => hnd (by rw [← e]; exact hi))]
    exact (stopR_ph _).2.1.2 (h.inv.ov i hi)
  · intro p hpm
    obtain ⟨a0, a1, a2, a3, a4, a5⟩ := h.td p (List.mem_cons_of_mem _ hpm)
    have e := deadS_f (S := S) ⟨a0, a1⟩ (hne p hpm)
    exact ⟨a0, a1, a2, a3, by rw [e]; exact (stopR_ph _).1.2 a4, by rw [e, (stopR_ph _).2.2.2 a4]; exact a5⟩
  · intro i hi hph
    by_cases e : (i : Int) = o.1
    · rw [e, deadS_i ⟨h0, h1⟩] at hph
      omega
    · unfold phaseI at hph
      rw [deadS_f ⟨by omega, by omega⟩ e] at hph
      obtain ⟨p, hpm, hpe⟩ := h.ask i hi ((stopR_ph _).1.1 hph)
      rcases List.mem_cons.1 hpm with rfl | hpm
      · exact absurd hpe.symm e
      · exact ⟨p, hpm, hpe⟩
  · intro i
    rw [deadS_t]
    exact h.ud i
def outQ (fail : Int) (o : OrdD) : Int := if o.2.2.1 = true then 0 else if o.1 = fail then 2 else 0
theorem no_asked {n : Nat} {S : SagD} (h : RunQ n S []) : anyB n S 1 = false := anyB_not (fun i hi e => by
  obtain ⟨p, hp, _⟩ := h.ask i hi e
  cases hp)
theorem some_asked {n : Nat} {S : SagD} {p : OrdD} {rest : List OrdD} (h : RunQ n S (p :: rest)) : anyB n S 1 = true := by
  obtain ⟨a0, a1, a2, a3, a4, a5⟩ := h.td p List.mem_cons_self
  refine anyB_iff.2 ⟨p.1.toNat, by omega, ?_⟩
  have e : ((p.1.toNat : Nat) : Int) = p.1 := by omega
  rw [e]
  exact a4
theorem answer_A {l : List StepD} {rs : List (List Int)} {fail : Int} {S : SagD} {o : OrdD} {rest : List OrdD} {c : Nat} (hf : 0 ≤ fail ∧ fail < (l.length : Int)) (h : BackA l rs fail S (o :: rest)) (hc : 4 * l.length + 1 ≤ c + S.done.length) :
    (answerX l rs S (o.1, o.2.2.1) o.2.1 (outQ fail o) 0).2 = true ∧ BackQ l rs fail (answerX l rs S (o.1, o.2.2.1) o.2.1 (outQ fail o) 0).1.1 (rest ++ (answerX l rs S (o.1, o.2.2.1) o.2.1 (outQ fail o) 0).1.2) [] (c - 1) := by
  obtain ⟨h0, h1, h2, h3, h4, h5⟩ := h.q.td o List.mem_cons_self
  have hdl := h.q.inv.dl
  have hrl := h.q.short
  rw [List.length_cons] at hrl
  have hnf : fail ∉ S.done := fun e => h.ff (h.q.inv.ov _ e)
  have hmv : movB S = true := by unfold movB; rw [h.st]; rfl
  have hoq : outQ fail o = if o.1 = fail then 2 else 0 := by
    unfold outQ
    rw [h2, if_neg (by decide)]
  rw [h2, hoq]
  unfold answerX
  rw [if_pos ⟨hmv, h0, h1⟩]
  dsimp only
  by_cases he : o.1 = fail
  · rw [if_pos he, ansR_two h4 (h5.trans h3.symm), if_pos rfl]
    have hp : putX (S, []) (o.1, false) (4, (S.runs (o.1, false)).2.1, 0, (S.runs (o.1, false)).2.2.2) = (S.set (o.1, false) (4, (S.runs (o.1, false)).2.1, 0, (S.runs (o.1, false)).2.2.2), []) := by
      unfold putX
      rw [if_neg (fun e => absurd (show (4 : Int) = 3 from e.1) (by decide)), if_neg (fun e => absurd (show (4 : Int) = 1 from e.1) (by decide))]
    have ho : onX l rs 0 (S.set (o.1, false) (4, (S.runs (o.1, false)).2.1, 0, (S.runs (o.1, false)).2.2.2), []) = backX l 0 (deadS l.length S o.1, []) := by
      have e4 : anyB l.length (S.set (o.1, false) (4, (S.runs (o.1, false)).2.1, 0, (S.runs (o.1, false)).2.2.2)) 4 = true := anyB_iff.2 ⟨o.1.toNat, by omega, by
        have e : ((o.1.toNat : Nat) : Int) = o.1 := by omega
        unfold phaseI
        rw [e, sset_same]⟩
      unfold onX
      dsimp only
      rw [if_pos (show (S.set (o.1, false) _).status = 1 from h.st)]
      unfold forthX
      dsimp only
      rw [e4, if_pos rfl]
      exact if_pos rfl
    rw [hp, ho]
    have hq := h.q.dead
    refine ⟨rfl, ?_⟩
    rcases rest with _ | ⟨p, rest⟩
    · rw [List.nil_append]
      exact (back_begin (rs := rs) hq.inv rfl (no_asked hq) hq.un hq.ud hnf rfl).mono (by show S.done.length ≤ _; omega)
    · have eb : backX l 0 (deadS l.length S o.1, []) = (deadS l.length S o.1, []) := by
        unfold backX
        rw [some_asked hq, if_pos rfl]
      rw [eb, List.append_nil]
      rw [List.length_cons] at hrl
      refine .inr (.inl ⟨⟨hq, rfl, (by simp), fun i hi => ?_, by rw [← he]; exact deadS_i ⟨h0, h1⟩⟩, rfl, by show 2 * (p :: rest).length + S.done.length ≤ _; rw [List.length_cons]; omega⟩)
      by_cases e : (i : Int) = o.1
      · rw [e, deadS_i ⟨h0, h1⟩]
        exact .inr (.inr rfl)
      · have ef := deadS_f (S := S) (n := l.length) (i := o.1) (j := (i : Int)) ⟨by omega, by omega⟩ e
        unfold phaseI
        rw [ef]
        rcases h.ph i hi with e1 | e1 | e1
        · exact .inr (.inr ((stopR_ph _).2.2.1 (.inl e1)))
        · exact .inl ((stopR_ph _).1.2 e1)
        · exact .inr (.inl ((stopR_ph _).2.1.2 e1))
  · rw [if_neg he, ansR_zero h4 (h5.trans h3.symm), if_pos rfl, overS_put (by omega)]
    have hq := h.q.over
    have hff : phaseI (overS S o.1) fail ≠ 3 := by
      rw [overS_phase, if_neg (fun e => he e.symm)]
      exact h.ff
    have hph : ∀ i : Nat, i < l.length → phaseI (overS S o.1) (i : Int) = 0 ∨ phaseI (overS S o.1) (i : Int) = 1 ∨ phaseI (overS S o.1) (i : Int) = 3 := fun i hi => by
      rw [overS_phase]
      split
      · exact .inr (.inr rfl)
      · exact h.ph i hi
    have hst : (overS S o.1).status = 1 := h.st
    have hA := BackA.of_fold (rs := rs) hq hst hph (fun i e => by
      by_cases e2 : i = o.1
      · subst e2
        rw [overS_i] at e
        exact absurd (show (3 : Int) = 0 from e) (by decide)
      · rw [overS_f e2] at e ⊢
        exact h.id i e) hff
    have ho : onX l rs 0 (overS S o.1, []) = (List.range l.length).foldl (begX l rs 0) (overS S o.1, []) := by
      have ef : forthX l rs 0 (overS S o.1, []) = (List.range l.length).foldl (begX l rs 0) (overS S o.1, []) := by
        unfold forthX
        rw [if_neg, if_neg]
        · exact done_short hq.inv hf (fun e => hff (hq.inv.ov _ e))
        · rw [anyB_not (fun i hi e => by have := hph i hi; dsimp only at e; omega)]
          decide
      unfold onX
      dsimp only
      rw [if_pos hst, ef, if_neg]
      have := hA.st
      omega
    have hY := (begs_spec l rs 0 (overS S o.1, []) (fun i e => by
      have e : ((overS S o.1).runs (i, false)).1 = 0 := e
      show ((overS S o.1).runs (i, false)).2.1 = 0
      by_cases e2 : i = o.1
      · subst e2
        rw [overS_i] at e
        exact absurd (show (3 : Int) = 0 from e) (by decide)
      · rw [overS_f e2] at e ⊢
        exact h.id i e) l.length).done
    rw [ho]
    refine ⟨rfl, .inl ⟨hA, rfl, ?_⟩⟩
    rw [hY]
    show _ ≤ _ + (S.done ++ [o.1]).length
    rw [List.length_append, List.length_singleton]
    omega
theorem answer_B {l : List StepD} {rs : List (List Int)} {fail : Int} {S : SagD} {o : OrdD} {rest : List OrdD} {c : Nat} (h : BackB l fail S (o :: rest)) (hc : 2 * (o :: rest).length + S.done.length ≤ c) :
    (answerX l rs S (o.1, o.2.2.1) o.2.1 (outQ fail o) 0).2 = true ∧ BackQ l rs fail (answerX l rs S (o.1, o.2.2.1) o.2.1 (outQ fail o) 0).1.1 (rest ++ (answerX l rs S (o.1, o.2.2.1) o.2.1 (outQ fail o) 0).1.2) [] (c - 1) := by
  obtain ⟨h0, h1, h2, h3, h4, h5⟩ := h.q.td o List.mem_cons_self
  have he : o.1 ≠ fail := fun e => by
    have := h.ff
    unfold phaseI at this
    rw [← e] at this
    omega
  have hmv : movB S = true := by unfold movB; rw [h.st]; rfl
  have hoq : outQ fail o = if o.1 = fail then 2 else 0 := by
    unfold outQ
    rw [h2, if_neg (by decide)]
  rw [h2, hoq]
  unfold answerX
  rw [if_pos ⟨hmv, h0, h1⟩]
  dsimp only
  rw [if_neg he, ansR_zero h4 (h5.trans h3.symm), if_pos rfl, overS_put (by omega)]
  have hq := h.q.over
  have hst : (overS S o.1).status = 2 := h.st
  have ho : onX l rs 0 (overS S o.1, []) = backX l 0 (overS S o.1, []) := by
    have e1 : (if (overS S o.1).status = 1 then forthX l rs 0 (overS S o.1, []) else (overS S o.1, [])) = (overS S o.1, []) := if_neg (by rw [hst]; decide)
    unfold onX
    dsimp only
    rw [e1]
    exact if_pos hst
  rw [ho]
  have hff : phaseI (overS S o.1) fail = 4 := by
    rw [overS_phase, if_neg (fun e => he e.symm)]
    exact h.ff
  have hnf : fail ∉ (overS S o.1).done := fun e => by
    have := hq.inv.ov _ e
    unfold phaseI at hff
    omega
  have hdn : (overS S o.1).done.length = S.done.length + 1 := by
    show (S.done ++ [o.1]).length = _
    rw [List.length_append, List.length_singleton]
  rw [List.length_cons] at hc
  refine ⟨rfl, ?_⟩
  rcases rest with _ | ⟨p, rest⟩
  · rw [List.nil_append]
    exact (back_begin (rs := rs) hq.inv hst (no_asked hq) hq.un hq.ud hnf rfl).mono (by rw [hdn]; omega)
  · have eb : backX l 0 (overS S o.1, []) = (overS S o.1, []) := by
      unfold backX
      rw [some_asked hq, if_pos rfl]
    rw [eb, List.append_nil]
    refine .inr (.inl ⟨⟨hq, hst, (by simp), fun i hi => ?_, hff⟩, rfl, by rw [hdn]; omega⟩)
    rw [overS_phase]
    split
    · exact .inr (.inl rfl)
    · exact h.ph i hi
theorem answer_C {l : List StepD} {rs : List (List Int)} {fail : Int} {S : SagD} {todo : List OrdD} {und : List Int} {m : Nat} {i u : Int} {c : Nat} (h : BackC l fail S todo und m i u) (hc : m + 1 ≤ c) :
    (answerX l rs S (i, true) 1 0 0).2 = true ∧ BackQ l rs fail (answerX l rs S (i, true) 1 0 0).1.1 (answerX l rs S (i, true) 1 0 0).1.2 (und ++ [i]) (c - 1) := by
  have hml : m < S.done.length := by
    have := h.mi
    rcases Nat.lt_or_ge m S.done.length with h1 | h1
    · exact h1
    · rw [List.getElem?_eq_none h1] at this
      cases this
  have hgi : S.done[m] = i := by
    have := h.mi
    rw [List.getElem?_eq_getElem hml] at this
    exact Option.some.inj this
  have hmem : i ∈ S.done := hgi ▸ List.getElem_mem hml
  obtain ⟨h0, h1⟩ := h.inv.dn i hmem
  have hmv : movB S = true := by unfold movB; rw [h.st]; rfl
  unfold answerX
  rw [if_pos ⟨hmv, h0, h1⟩]
  dsimp only
  rw [ansR_zero h.r1 h.r2, if_pos rfl]
  have hp : putX (S, []) (i, true) (3, (S.runs (i, true)).2.1, 0, (S.runs (i, true)).2.2.2) = (S.set (i, true) (3, (S.runs (i, true)).2.1, 0, (S.runs (i, true)).2.2.2), []) := by
    unfold putX
    rw [if_neg (fun e => by cases e.2.2), if_neg (fun e => absurd (show (3 : Int) = 1 from e.1) (by decide))]
  rw [hp]
  have hul : S.undone.length = S.done.length - (m + 1) := by rw [h.un]; simp
  have ho : onX l rs 0 (S.set (i, true) (3, (S.runs (i, true)).2.1, 0, (S.runs (i, true)).2.2.2), []) = backL l 0 m ({ S.set (i, true) (3, (S.runs (i, true)).2.1, 0, (S.runs (i, true)).2.2.2) with undone := S.undone ++ [i] }, []) := by
    have e1 : (if (S.set (i, true) (3, (S.runs (i, true)).2.1, 0, (S.runs (i, true)).2.2.2)).status = 1 then forthX l rs 0 (S.set (i, true) (3, (S.runs (i, true)).2.1, 0, (S.runs (i, true)).2.2.2), []) else (S.set (i, true) (3, (S.runs (i, true)).2.1, 0, (S.runs (i, true)).2.2.2), [])) = (S.set (i, true) (3, (S.runs (i, true)).2.1, 0, (S.runs (i, true)).2.2.2), []) := if_neg (by show ¬ S.status = 1; rw [h.st]; decide)
    unfold onX
    dsimp only
    rw [e1, if_pos (show (S.set (i, true) (3, (S.runs (i, true)).2.1, 0, (S.runs (i, true)).2.2.2)).status = 2 from h.st)]
    unfold backX
    dsimp only
    rw [anyB_setT, h.no1, if_neg (by decide)]
    have e : (S.set (i, true) (3, (S.runs (i, true)).2.1, 0, (S.runs (i, true)).2.2.2)).done.length - (S.set (i, true) (3, (S.runs (i, true)).2.1, 0, (S.runs (i, true)).2.2.2)).undone.length = m + 1 := by
      show S.done.length - S.undone.length = m + 1
      omega
    rw [e]
    have ex : S.done[S.done.length - 1 - S.undone.length]?.getD 0 = i := by
      rw [show S.done.length - 1 - S.undone.length = m by omega, h.mi]
      rfl
    show (if (l[(S.done[S.done.length - 1 - S.undone.length]?.getD 0).toNat]?.getD default).undo = { data := #[] } ∨ ((S.set (i, true) (3, (S.runs (i, true)).2.1, 0, (S.runs (i, true)).2.2.2)).runs (S.done[S.done.length - 1 - S.undone.length]?.getD 0, true)).1 = 3 then backL l 0 m ({ S.set (i, true) (3, (S.runs (i, true)).2.1, 0, (S.runs (i, true)).2.2.2) with undone := S.undone ++ [S.done[S.done.length - 1 - S.undone.length]?.getD 0] }, []) else _) = _
    rw [ex, if_pos (.inr (by rw [sset_same]))]
  rw [ho]
  have hdr : (S.done.drop m).reverse = (S.done.drop (m + 1)).reverse ++ [i] := by
    rw [List.drop_eq_getElem_cons hml, List.reverse_cons, hgi]
  have hne : ∀ j ∈ S.done.take m, j ≠ i := by
    rintro j hj rfl
    have hnd := h.inv.nd
    have e2 : S.done = S.done.take m ++ j :: S.done.drop (m + 1) := by
      rw [← hgi, ← List.drop_eq_getElem_cons hml, List.take_append_drop]
    rw [e2, List.nodup_append] at hnd
    exact hnd.2.2 j hj j (by simp) rfl
  have hg := backL_go (l := l) (fail := fail) m ({ S.set (i, true) (3, (S.runs (i, true)).2.1, 0, (S.runs (i, true)).2.2.2) with undone := S.undone ++ [i] }, []) ⟨⟨h.inv.dn, h.inv.nd, fun j hj => ?_, ?_⟩, h.st, ?_, by show m ≤ S.done.length; omega, by show S.undone ++ [i] = (S.done.drop m).reverse; rw [hdr, h.un], fun j hj => ?_, h.ff⟩
  · have hfl : (S.undone ++ [i]).filter (undB l) = und ++ [i] := by
      rw [List.filter_append, List.filter_cons_of_pos h.hu, List.filter_nil, h.ud]
    dsimp only at hg
    rw [hfl] at hg
    refine ⟨rfl, ?_⟩
    rcases hg with ⟨m', i', u', g1, g2, g3⟩ | ⟨g2, g3⟩
    · rw [g3, List.nil_append]
      exact .inr (.inr (.inl ⟨m', i', u', g2, by omega⟩))
    · rw [g3]
      exact .inr (.inr (.inr g2))
  · show ((S.set (i, true) _).runs (j, false)).1 = 3
    rw [sset_other (fun e => by cases congrArg Prod.snd e)]
    exact h.inv.ov j hj
  · show (S.undone ++ [i]).length ≤ S.done.length
    rw [List.length_append, List.length_singleton]
    omega
  · have := h.no1
    rw [← anyB_setT (i := i) (r := (3, (S.runs (i, true)).2.1, 0, (S.runs (i, true)).2.2.2))] at this
    exact this
  · have hj : j ∈ S.done.take m := hj
    show (S.set (i, true) _).runs (j, true) = idleR
    rw [sset_other (fun e => hne j hj (congrArg Prod.fst e))]
    exact h.id j hj
theorem BackQ.answer {l : List StepD} {rs : List (List Int)} {fail : Int} {S : SagD} {o : OrdD} {rest : List OrdD} {und : List Int} {c : Nat} (hf : 0 ≤ fail ∧ fail < (l.length : Int)) (h : BackQ l rs fail S (o :: rest) und c) :
    1 ≤ c ∧ InvS l.length S ∧ (answerX l rs S (o.1, o.2.2.1) o.2.1 (outQ fail o) 0).2 = true ∧
      BackQ l rs fail (answerX l rs S (o.1, o.2.2.1) o.2.1 (outQ fail o) 0).1.1 (rest ++ (answerX l rs S (o.1, o.2.2.1) o.2.1 (outQ fail o) 0).1.2) (if o.2.2.1 = true then und ++ [o.1] else und) (c - 1) := by
  rcases h with ⟨h1, rfl, h3⟩ | ⟨h1, rfl, h3⟩ | ⟨m, i, u, h1, h2⟩ | h1
  · have hu := (h1.q.td o List.mem_cons_self).2.2.1
    have hd := h1.q.inv.dl
    obtain ⟨a, b⟩ := answer_A hf h1 h3
    rw [hu, if_neg (by decide)]
    rw [hu] at a b
    exact ⟨by omega, h1.q.inv, a, b⟩
  · have hu := (h1.q.td o List.mem_cons_self).2.2.1
    obtain ⟨a, b⟩ := answer_B (rs := rs) h1 h3
    rw [List.length_cons] at h3
    rw [hu, if_neg (by decide)]
    rw [hu] at a b
    exact ⟨by omega, h1.q.inv, a, b⟩
  · have e := h1.td
    simp only [List.cons.injEq] at e
    obtain ⟨rfl, rfl⟩ := e
    obtain ⟨a, b⟩ := answer_C (rs := rs) h1 h2
    rw [if_pos rfl]
    exact ⟨by omega, h1.inv, a, b⟩
  · cases h1.td
end Go.Proofs.YtgfiogjfgbegpaaGreat

/-
  reach.Drive: what lies in memory while a saga is driven.
-/
namespace Go.Proofs.YtgfiogjfgbegpaaGreat
open Go Go.RowKit Go.Maps Go.WideShapes

structure DrvM (w : World) (k : SagK) (eS eO eA : Nat) (V : Nat → Prop) (W : World) (t : Int) (q : SagD × Int) : Prop where
  sag : SagE W V k q.1
  inv : InvS k.d.steps.length q.1
  bS : W.heap[eS]? = some (.cells #[.pointer (some ⟨k.p, 0, none⟩)] 48 (0, 0))
  bO : W.heap[eO]? = some (.cells #[.int .i64 q.2] 3 (0, 0))
  bA : W.heap[eA]? = some (.cells #[.int .i64 t] 2 (0, 0))
  low : Below w.heap.size w W
  vB : ∀ j, V j → w.heap.size ≤ j ∧ j < W.heap.size ∧ j ≠ eS ∧ j ≠ eO ∧ j ≠ eA
  ne : eS ≠ eO ∧ eO ≠ eA ∧ eS ≠ eA
  ge : w.heap.size ≤ eS ∧ w.heap.size ≤ eO ∧ w.heap.size ≤ eA
  nN : k.N ≤ eO ∧ k.N ≤ eA
section
variable {w W W' : World} {k : SagK} {eS eO eA : Nat} {V : Nat → Prop} {t : Int} {q : SagD × Int}
theorem DrvM.moved (h : DrvM w k eS eO eA V W t q) (hl : Below w.heap.size w W') (hs : W.heap.size ≤ W'.heap.size) (hN : ∀ j, j < k.N → ¬ V j → W'.heap[j]? = W.heap[j]?) (hV : ∀ j, V j → W'.heap[j]? = W.heap[j]?) (h1 : W'.heap[eS]? = W.heap[eS]?) (h2 : W'.heap[eO]? = W.heap[eO]?) (h3 : W'.heap[eA]? = W.heap[eA]?) : DrvM w k eS eO eA V W' t q :=
  ⟨h.sag.moved hs hN (fun j hj _ => hV j hj), h.inv, h1.trans h.bS, h2.trans h.bO, h3.trans h.bA, hl, fun j hj => by have := h.vB j hj; omega, h.ne, h.ge, h.nN⟩
theorem DrvM.lt (h : DrvM w k eS eO eA V W t q) : eS < W.heap.size ∧ eO < W.heap.size ∧ eA < W.heap.size := ⟨(Array.getElem?_eq_some_iff.1 h.bS).1, (Array.getElem?_eq_some_iff.1 h.bO).1, (Array.getElem?_eq_some_iff.1 h.bA).1⟩
theorem DrvM.below (h : DrvM w k eS eO eA V W t q) (hb : Below W.heap.size W W') : DrvM w k eS eO eA V W' t q := by
  obtain ⟨l1, l2, l3⟩ := h.lt
  have hk := h.sag.bound
  exact h.moved (bthen h.low (Nat.le_refl _) hb) hb.size (fun j hj _ => hb.block j (by omega)) (fun j hj => hb.block j (h.vB j hj).2.1) (hb.block _ l1) (hb.block _ l2) (hb.block _ l3)
theorem DrvM.call {S' : SagD} {os : List OrdD} {v : Value} (h : DrvM w k eS eO eA V W t q) (hc : CallTo W V W' k S' os v) (hi : InvS k.d.steps.length S') :
    ∃ (V' : Nat → Prop) (va : Option Addr) (vc : Nat), v = .slice va os.length vc ∧ DrvM w k eS eO eA V' W' t (S', q.2) ∧ ∀ j, j < W.heap.size → ¬ V j → W'.heap[j]? = W.heap[j]? ∧ ¬ V' j := by
  obtain ⟨V', va, vc, e, hr, hS, hV', hb, hst⟩ := hc.after (B := w.heap.size) (fun j hj => ⟨(h.vB j hj).1, (h.vB j hj).2.1⟩) h.low.size
  obtain ⟨l1, l2, l3⟩ := h.lt
  have s1 := hst eS l1 (fun e => (h.vB _ e).2.2.1 rfl)
  have s2 := hst eO l2 (fun e => (h.vB _ e).2.2.2.1 rfl)
  have s3 := hst eA l3 (fun e => (h.vB _ e).2.2.2.2 rfl)
  exact ⟨V', va, vc, e, ⟨hS, hi, s1.1.trans h.bS, s2.1.trans h.bO, s3.1.trans h.bA, h.low.trans hb, fun j hj => ⟨(hV' j hj).1, (hV' j hj).2, fun e => s1.2 (e ▸ hj), fun e => s2.2 (e ▸ hj), fun e => s3.2 (e ▸ hj)⟩, h.ne, h.ge, h.nN⟩, hst⟩
theorem set1 {W : World} {B : Nat} {v : Value} {t : TypeId} (x : Value) (h : W.heap[B]? = some (.cells #[v] t (0, 0))) : (W.setCell ⟨B, 0, none⟩ x).heap[B]? = some (.cells #[x] t (0, 0)) := by
  have := setCell_heap 0 x h
  simpa using this
theorem DrvM.setO (h : DrvM w k eS eO eA V W t q) (x : Int) : DrvM w k eS eO eA V (W.setCell ⟨eO, 0, none⟩ (.int .i64 x)) t (q.1, x) :=
  ⟨sag_set h.sag (fun e => (h.vB _ e).2.2.2.1 rfl) h.nN.1, h.inv, (Below.heap_setCell _ _ _ _ h.ne.1).trans h.bS, set1 _ h.bO, (Below.heap_setCell _ _ _ _ h.ne.2.1.symm).trans h.bA, h.low.setCell h.ge.2.1 _, fun j hj => by have := h.vB j hj; simpa using this, h.ne, h.ge, h.nN⟩
theorem DrvM.setA (h : DrvM w k eS eO eA V W t q) (x : Int) : DrvM w k eS eO eA V (W.setCell ⟨eA, 0, none⟩ (.int .i64 x)) x q :=
  ⟨sag_set h.sag (fun e => (h.vB _ e).2.2.2.2 rfl) h.nN.2, h.inv, (Below.heap_setCell _ _ _ _ h.ne.2.2).trans h.bS, (Below.heap_setCell _ _ _ _ h.ne.2.1).trans h.bO, set1 _ h.bA, h.low.setCell h.ge.2.2 _, fun j hj => by have := h.vB j hj; simpa using this, h.ne, h.ge, h.nN⟩
def DrJ (w : World) (k : SagK) (eS eO eA B2 : Nat) (ss : List SayD) (b : Nat) (S : Nat → Prop) (pre : List Nat) (W : World) : Prop :=
  ∃ (V : Nat → Prop) (t : Int) (q : SagD × Int), DrvM w k eS eO eA V W t q ∧ driveO k.d.steps k.rs ss (List.range (b + 1)) (beginO k.d.steps k.rs) = driveO k.d.steps k.rs ss ((List.range (b + 1)).drop pre.length) (t, q) ∧
    (∀ j, V j → ¬ S j) ∧ ¬ S eS ∧ ¬ S eO ∧ ¬ S eA ∧ ∀ j, S j → B2 ≤ j
def DrX (w : World) (k : SagK) (eS eO eA B2 : Nat) (ss : List SayD) (b : Nat) (S : Nat → Prop) (W : World) : Prop :=
  ∃ (V : Nat → Prop) (t : Int) (q : SagD × Int), DrvM w k eS eO eA V W t q ∧ driveO k.d.steps k.rs ss (List.range (b + 1)) (beginO k.d.steps k.rs) = (t, q) ∧
    (∀ j, V j → ¬ S j) ∧ ¬ S eS ∧ ¬ S eO ∧ ¬ S eA ∧ ∀ j, S j → B2 ≤ j
theorem DrvM.step {S S' : Nat → Prop} {B2 : Nat} (h : DrvM w k eS eO eA V W t q) (hs : Step 0 S S' W W') (hB2 : w.heap.size ≤ B2) (hN : k.N ≤ B2) (hV : ∀ j, V j → ¬ S j) (h1 : ¬ S eS) (h2 : ¬ S eO) (h3 : ¬ S eA) (hS : ∀ j, S j → B2 ≤ j) (hz : B2 ≤ W.heap.size) :
    DrvM w k eS eO eA V W' t q ∧ (∀ j, V j → ¬ S' j) ∧ ¬ S' eS ∧ ¬ S' eO ∧ ¬ S' eA ∧ ∀ j, S' j → B2 ≤ j := by
  obtain ⟨l1, l2, l3⟩ := h.lt
  have hk := h.sag.bound
  have hl := h.low.size
  have nw : ∀ j, j < W.heap.size → ¬ S j → ¬ S' j := fun j hj hn e => (hs.new j e).elim hn (fun e => by omega)
  refine ⟨h.moved ⟨hs.below.os.trans h.low.os, hs.below.tape.trans h.low.tape, hs.below.output.trans h.low.output, Nat.le_trans hl hs.below.size, fun j hj => (hs.same j (by omega) (fun e => by have := hS j e; omega)).trans (h.low.block j hj)⟩ hs.below.size (fun j hj _ => hs.same j (by omega) (fun e => by have := hS j e; omega)) (fun j hj => hs.same j (h.vB j hj).2.1 (hV j hj)) (hs.same _ l1 h1) (hs.same _ l2 h2) (hs.same _ l3 h3), fun j hj => nw j (h.vB j hj).2.1 (hV j hj), nw _ l1 h1, nw _ l2 h2, nw _ l3 h3, fun j hj => (hs.new j hj).elim (hS j) (fun e => by omega)⟩
theorem DrJ_stable (w : World) (k : SagK) (eS eO eA B2 : Nat) (ss : List SayD) (b : Nat) (hB2 : w.heap.size ≤ B2) (hN : k.N ≤ B2) (Z : Nat) (hZ : B2 ≤ Z) : Stable 0 (fun S pre W => DrJ w k eS eO eA B2 ss b S pre W ∧ Z ≤ W.heap.size) := by
  rintro S S' pre A C hS ⟨⟨V, t, q, h, hd, h1, h2, h3, h4, h5⟩, hz⟩ hs
  obtain ⟨g0, g1, g2, g3, g4, g5⟩ := h.step hs hB2 hN h1 h2 h3 h4 h5 (by omega)
  exact ⟨⟨V, t, q, g0, hd, g1, g2, g3, g4, g5⟩, Nat.le_trans hz hs.below.size⟩
theorem DrX_stable (w : World) (k : SagK) (eS eO eA B2 : Nat) (ss : List SayD) (b : Nat) (hB2 : w.heap.size ≤ B2) (hN : k.N ≤ B2) (Z : Nat) (hZ : B2 ≤ Z) : Stable (α := Nat) 0 (fun S _ W => DrX w k eS eO eA B2 ss b S W ∧ Z ≤ W.heap.size) := by
  rintro S S' pre A C hS ⟨⟨V, t, q, h, hd, h1, h2, h3, h4, h5⟩, hz⟩ hs
  obtain ⟨g0, g1, g2, g3, g4, g5⟩ := h.step hs hB2 hN h1 h2 h3 h4 h5 (by omega)
  exact ⟨⟨V, t, q, g0, hd, g1, g2, g3, g4, g5⟩, Nat.le_trans hz hs.below.size⟩
end
theorem fine_new {k : SagK} {d : DefD} (h1 : k.d = d) (h2 : k.rs = depsA d.steps 0 d.steps) (hs : SmallD d) : FineK k := by
  subst h1
  refine ⟨hs, by rw [h2, depsA_len], fun r hr j hj => ?_⟩
  rw [h2] at hr
  obtain ⟨i, hi, rfl⟩ := List.getElem_of_mem hr
  rw [depsA_len] at hi
  have := depsA_get k.d.steps k.d.steps 0 i hi
  rw [List.getElem?_eq_getElem (by rw [depsA_len]; exact hi), Option.some.injEq] at this
  rw [this] at hj
  obtain ⟨n, rfl, hn⟩ := depsD_in _ _ _ _ hj
  omega
def drvD (d : DefD) (ss : List SayD) : Int × Int × Int := if cleanB d = true then driveX d.steps (depsA d.steps 0 d.steps) ss (boundI d).toNat else (0, 0, 0)
end Go.Proofs.YtgfiogjfgbegpaaGreat

/-
  reach.Drive: contract.
-/
namespace Go.Proofs.YtgfiogjfgbegpaaGreat
open Go Go.RowKit Go.Maps Go.WideShapes
attribute [local go_sem] Oper.semAt_some wide_fn wide_depth wide_fn' wide_depth'

theorem range_pre {pre : List Nat} {x m : Nat} (h : pre ++ [x] <+: List.range m) : x = pre.length ∧ pre.length < m := by
  obtain ⟨suf, e⟩ := h
  have h1 : (List.range m)[pre.length]? = some x := by rw [← e]; simp
  by_cases hlt : pre.length < m
  · rw [List.getElem?_range hlt] at h1
    cases h1
    exact ⟨rfl, hlt⟩
  · rw [List.getElem?_eq_none (by rw [List.length_range]; omega)] at h1
    cases h1
theorem driveO_drop {l : List StepD} {rs : List (List Int)} {ss : List SayD} {b n : Nat} {t : Int} {q : SagD × Int} (hn : n < b + 1) :
    driveO l rs ss ((List.range (b + 1)).drop n) (t, q) = if overB (roundO l rs ss (n : Int) q).1 then ((n : Int), roundO l rs ss (n : Int) q) else driveO l rs ss ((List.range (b + 1)).drop (n + 1)) ((n : Int), roundO l rs ss (n : Int) q) := by
  rw [List.drop_eq_getElem_cons (by rw [List.length_range]; exact hn), List.getElem_range]
  rfl
set_option maxRecDepth 100000 in
set_option maxHeartbeats 8000000 in
theorem Drive_any (d : DefD) (cs : List Value) (sa : Option Addr) (sc : Nat) (ss : List SayD) (va : Option Addr) (vc : Nat) (w : World) (h : DefR w cs d sa sc) (hs : SmallD d) (hl : ss.length ≤ 1000) (hok : ∀ x ∈ ss, I64w x.1) (hr : RdS w (.slice va ss.length vc) 5 ss.length (flatS ss)) :
    Calls Tryz.prog 10 #[.agg cs.toArray, .slice va ss.length vc] w fun e w' => e = .returned (.tuple #[.int .u8 (drvD d ss).1, .int .i64 (drvD d ss).2.1, .int .i64 (drvD d ss).2.2]) ∧ Below w.heap.size w w' := by
  obtain ⟨rfl, hnm, htx, hst⟩ := h
  have hb0 := (Below.refl w.heap.size w).alloc (Nat.le_refl _) (.cells #[.string d.name, .string d.text, .slice sa d.steps.length sc] 24)
  have g0 := World.alloc_heap_new w (.cells #[.string d.name, .string d.text, .slice sa d.steps.length sc] 24)
  have HD0 := Lib.hid (show DefR (w.alloc (.cells #[.string d.name, .string d.text, .slice sa d.steps.length sc] 24)) [.string d.name, .string d.text, .slice sa d.steps.length sc] d sa sc from ⟨rfl, hnm, htx, hst.below hb0⟩)
  have HR := Lib.hid hr
  have HB := Lib.hid hb0
  have HG := Lib.hid g0
  have HS := Lib.hid hs
  have HOK := Lib.hid hok
  have hbr := boundI_range hs
  clear hst hb0 g0 hnm htx hr hs hok
  generalize hres : drvD d ss = res
  have HRT : Hid (cleanB d = true → driveX d.steps (depsA d.steps 0 d.steps) ss (boundI d).toNat = res) := Lib.hid (fun e => by rw [← hres]; unfold drvD; rw [if_pos e])
  have HRF : Hid (cleanB d = false → res = (0, 0, 0)) := Lib.hid (fun e => by rw [← hres]; unfold drvD; rw [if_neg (by rw [e]; decide)])
  clear hres
  refine (callsIn_wide (n := 0)).1 ?_
  refine callsIn_of_wp_marks Tryz.func10 rfl trivial ?_ rfl
  simp only [Tryz.ntmps10, List.size_toArray, List.length_cons, List.length_nil, Nat.reduceAdd, Nat.reduceSub, Array.replicate_succ, Array.replicate_zero, List.push_toArray, List.append_toArray, List.nil_append, List.cons_append]
  gi_upto_region 1 with fail
  generalize (w.alloc (.cells #[.string d.name, .string d.text, .slice sa d.steps.length sc] 24)) = w0 at *
  refine wpIn_scope ?_
  obtain ⟨p0, p1, p2, -, -, -⟩ := cells3h HG.out
  rcases hc : cleanB d with _ | _
  · have HN := Lib.hid (New_no d _ sa sc w0 HD0.out HS.out hc)
    obtain rfl := HRF.out hc
    gi_wp2_with fail
    refine (callsIn_wide.2 HN.out).mono ?_
    rintro e w1 ⟨rfl, hb1⟩
    have HB1 := Lib.hid (bthen HB.out (Nat.le_refl _) hb1)
    clear p0 p1 p2 hb1
    gi_wp2_with fail
    exact ⟨_, results_tmp3 rfl _ _ _, rfl, HB1.out.alloc HB1.out.size _⟩
  have HN := Lib.hid (New_any d _ sa sc w0 HD0.out HS.out hc)
  have HRES := Lib.hid (HRT.out hc)
  clear HRT HRF
  gi_wp2_with fail
  refine (callsIn_wide.2 HN.out).mono ?_
  rintro e w1 ⟨k, U, rfl, hkd, hkr, hsag, hb1, hU⟩
  clear p0 p1 p2
  have hb2 : Below w1.heap.size w1 (w1.alloc (.cells #[.pointer (some ⟨k.p, 0, none⟩)] 48)) := (Below.refl _ _).alloc (Nat.le_refl _) _
  have g2 := World.alloc_heap_new w1 (.cells #[.pointer (some ⟨k.p, 0, none⟩)] 48)
  gi_upto_region 4 with fail
  generalize hE : w1.heap.size = eS at *
  generalize w1.alloc (.cells #[.pointer (some ⟨k.p, 0, none⟩)] 48) = w2 at *
  have hbE : Below w1.heap.size w1 w2 := by rw [hE]; exact hb2
  have hs1 := hb1.size
  have hs0 := HB.out.size
  have hl0 := (Array.getElem?_eq_some_iff.1 HG.out).1
  have hs2 := (Array.getElem?_eq_some_iff.1 g2).1
  have hN := hsag.bound
  have hfk := fine_new hkd hkr HS.out
  have hb12 : Below w0.heap.size w0 w2 := bthen hb1 (Nat.le_refl _) hbE
  have hg2d := (hb12.block _ hl0).trans HG.out
  have HST := Lib.hid (Start_any k newSag 0 U w2 (hsag.below hbE) (fun j hj => by have := hU j hj; omega) hfk (InvS.new _).good)
  have s0 := cell1 g2
  have HU := Lib.hid hU
  have HG2 := Lib.hid g2
  have HF := Lib.hid hfk
  have HB12 := Lib.hid hb12
  have HGD := Lib.hid hg2d
  have HKD := Lib.hid hkd
  have HKR := Lib.hid hkr
  clear hU g2 hfk hsag hb1 hb2 hbE hb12 hg2d hkd hkr HN
  gi_wp2_with fail
  refine (callsIn_wide.2 HST.out).mono ?_
  rintro e w3 ⟨v, rfl, hc⟩
  obtain ⟨V, oa, oc, rfl, -, hS3, hV3, hb3, hst3⟩ := hc.after (B := w0.heap.size) (fun j hj => ⟨(HU.out j hj).1, by have := (HU.out j hj).2; omega⟩) (by omega)
  have hs3 := hb3.size
  have hsl3 := hS3.bound
  obtain ⟨hgs3, hnv3⟩ := hst3 eS hs2 (fun e => by have := (HU.out _ e).2; omega)
  obtain ⟨hgd3, hnd3⟩ := hst3 w.heap.size (by omega) (fun e => by have := (HU.out _ e).1; omega)
  have hb03 : Below w0.heap.size w0 w3 := HB12.out.trans hb3
  have hgs3 := hgs3.trans HG2.out
  have hgd3 := hgd3.trans HGD.out
  clear s0 hst3 hb3 HST hc
  gi_upto_region 6 with fail
  refine wpIn_label ?_
  obtain ⟨hb5, hsz5, hf5⟩ := allocF [.cells #[.int .i64 ((startX k.d.steps k.rs newSag 0).2.length : Int)] 3, .cells #[.int .i64 0] 2] w3
  have g0 := hf5 0 _ rfl
  have g1 := hf5 1 _ rfl
  have e0 : w3.heap.size + 0 = w3.heap.size := rfl
  simp only [List.foldl_cons, List.foldl_nil, List.length_cons, List.length_nil, Nat.reduceAdd] at hb5 hsz5 g0 g1
  rw [e0] at g0
  generalize (w3.alloc (.cells #[.int .i64 ((startX k.d.steps k.rs newSag 0).2.length : Int)] 3)).alloc (.cells #[.int .i64 0] 2) = w5 at *
  have HM5 : Hid (DrvM w k eS w3.heap.size (w3.heap.size + 1) V w5 0 ((startX k.d.steps k.rs newSag 0).1, ((startX k.d.steps k.rs newSag 0).2.length : Int))) := Lib.hid ⟨hS3.below hb5, beginO_inv k.d.steps k.rs, (hb5.block _ (by omega)).trans hgs3, g0, g1, HB.out.trans ((bthen hb03 (Nat.le_refl _) hb5).mono hs0), fun j hj => by
    have h1 := hV3 j hj
    exact ⟨by omega, by omega, fun e => hnv3 (e ▸ hj), by omega, by omega⟩, by omega, by omega, by omega⟩
  have HD5 := Lib.hid (HD0.out.below (bthen hb03 (Nat.le_refl _) hb5))
  have hgd5 := (hb5.block _ (by omega)).trans hgd3
  obtain ⟨p0, p1, p2, -, -, -⟩ := cells3h hgd5
  obtain ⟨b, hbb⟩ : ∃ b : Nat, boundI d = (b : Int) := ⟨(boundI d).toNat, by omega⟩
  have HBO := Lib.hid (Bound_any d _ sa sc w5 HD5.out HS.out)
  rw [hbb] at HBO hbr
  have HRS : Hid (driveX d.steps (depsA d.steps 0 d.steps) ss b = res) := Lib.hid (by
    have := HRES.out
    rw [hbb, Int.toNat_natCast] at this
    exact this)
  clear hf5 g0 g1 e0 hgs3 hgd3 hgd5 hS3 hV3 HRES hb03 hnv3 hnd3 hsl3 HGD HG2 HB12 HU
  generalize hO : w3.heap.size = eO at *
  generalize hos : (startX k.d.steps k.rs newSag 0).2.length = on at *
  gi_wp2_with fail
  refine (callsIn_wide.2 HBO.out).mono ?_
  rintro e w6 ⟨rfl, hb6⟩
  have HM6 := Lib.hid (HM5.out.below hb6)
  clear p0 p1 p2 HM5
  gi_wp2_with fail
  refine (callsIn_wide.2 (eachS_any _ _ _ _ w6)).mono ?_
  rintro e w7 ⟨rfl, rfl⟩
  gi_wp2_with fail
  obtain ⟨hb7, hsz7, hf7⟩ := allocF [.cells #[.int .i64 (b : Int)] 3, .cells #[.slice va ss.length vc] 25] w6
  have g0 := hf7 0 _ rfl
  have g1 := hf7 1 _ rfl
  have e0 : w6.heap.size + 0 = w6.heap.size := rfl
  simp only [List.foldl_cons, List.foldl_nil, List.length_cons, List.length_nil, Nat.reduceAdd] at hb7 hsz7 g0 g1
  rw [e0] at g0
  have hN6 := HM6.out.sag.bound
  have hl6 := HM6.out.low.size
  obtain ⟨hx1, hx2, hx3⟩ := HM6.out.lt
  have hv6 := HM6.out.vB
  have HM7 := Lib.hid (HM6.out.below hb7)
  clear hf7 e0 hb6 HM6
  generalize (w6.alloc (.cells #[.int .i64 (b : Int)] 3)).alloc (.cells #[.slice va ss.length vc] 25) = w7 at *
  generalize hB2 : w6.heap.size = B2 at *
  clear hb7
  refine' wpIn_rfE rfl (enters_of Tryz.func64 (by kernel_rfl) rfl) (eachS_iter b ss (B2 + 1) B2 va vc w7 g1 g0 (by omega) hl HOK.out) (Nat.zero_le _) (fun j hj => ⟨Nat.zero_le _, by omega⟩) ?hps ?hE
    (fun S pre W => DrJ w k eS eO (eO + 1) B2 ss b S pre W ∧ w7.heap.size ≤ W.heap.size) (fun c S _ W => c = .exit 0 ∧ DrX w k eS eO (eO + 1) B2 ss b S W ∧ w7.heap.size ≤ W.heap.size) ?hfin ?hR ?hJ ?hJx ?h0 ?Ax ?hAx ?assign ?body ?done ?stop
  case hps =>
    rintro S x args W ⟨a, c, rfl, _⟩
    rfl
  case hE =>
    rintro S S' x args W hk ⟨a, c, e, hr, hg⟩
    exact ⟨a, c, e, hr, fun g h => hk g (hg g h)⟩
  case hfin => exact fun h => absurd trivial h
  case hR =>
    rintro S pre W ⟨⟨V, t, q, hM, _⟩, _⟩
    exact HR.out.below hM.low
  case hJ => exact DrJ_stable _ _ _ _ _ _ _ _ hl6 hN6 _ (by omega)
  case hJx =>
    rintro c S S' pre A C hS ⟨e, h⟩ hs
    exact ⟨e, DrX_stable w k eS eO (eO + 1) B2 ss b hl6 hN6 w7.heap.size (by omega) S S' pre A C hS h hs⟩
  case h0 => exact ⟨⟨V, 0, _, HM7.out, by rw [List.length_nil, List.drop_zero]; unfold beginO; rw [← hos], fun j hj e => by have := hv6 j hj; omega, by omega, by omega, by omega, fun j hj => by omega⟩, Nat.le_refl _⟩
  case Ax => exact fun S x a' W => ∃ (ga : Option Addr) (gc : Nat), a' = { tmps := #[.agg #[.string d.name, .string d.text, .slice sa d.steps.length sc], .slice va ss.length vc, .pointer (some ⟨w.heap.size, 0, none⟩), undef, .int .u8 0, .int .i64 0, .int .i64 0, .pointer (some ⟨eS, 0, none⟩), .int .i64 0, .pointer (some ⟨eO, 0, none⟩), .pointer (some ⟨eO + 1, 0, none⟩), .int .i64 (x : Int), .slice ga (saysAt ss x).length gc, undef, undef, undef, undef, .tuple #[.pointer (some ⟨k.p, 0, none⟩), .int .i64 0], .agg #[.string d.name, .string d.text, .slice sa d.steps.length sc], .tuple #[.pointer (some ⟨k.p, 0, none⟩), .int .i64 0], .pointer (some ⟨k.p, 0, none⟩), .int .i64 0, .int .i64 0, .bool false, .pointer (some ⟨k.p, 0, none⟩), .slice oa on oc, .int .i64 (on : Int), .agg #[.string d.name, .string d.text, .slice sa d.steps.length sc], .int .i64 (b : Int), .slice va ss.length vc, .func (.func 64) #[] #[.pointer (some ⟨B2 + 1, 0, none⟩), .pointer (some ⟨B2, 0, none⟩)], .int .i64 (x : Int), .slice ga (saysAt ss x).length gc, undef, undef, undef, undef, undef, undef, undef, undef, undef, undef, undef, undef, undef, undef, undef, undef, undef, undef, undef, undef, undef, undef, undef, undef, undef, undef, undef, undef, undef, undef, undef, undef, undef, undef], defers := [] } ∧ W.ownsRow 0 32 5 (.slice ga (saysAt ss x).length gc) (saysAt ss x).length (flatS (saysAt ss x)) ∧ ∀ g, (Value.slice ga (saysAt ss x).length gc).ownBlock = some g → S g
  case hAx =>
    rintro S x a' l W W' hl' hlt ⟨ga, gc, rfl, hr, hg⟩ hs ⟨r, hr2⟩
    refine ⟨ga, gc, rfl, ownsRow_keepB hr (fun g hgg => hs.same g (hr.lt g hgg).2 (fun e => ?_)), hg⟩
    obtain ⟨cur, hc2⟩ := owns_cells hr hgg
    rw [show g = l from e, hr2] at hc2
    cases hc2
  case assign =>
    rintro l S pre x args W K hS hw hj hpre ⟨ga, gc, rfl, hro, hrS⟩ hK
    have HK := Lib.hid hK
    have HJ := Lib.hid hj
    have HRO := Lib.hid hro
    have HRS' := Lib.hid hrS
    clear hS hK hj hro hrS
    gi_wp2_with fail
    exact HK.out _ _ (Keep.refl _ _ _) HJ.out ⟨ga, gc, rfl, HRO.out, HRS'.out⟩
  case stop =>
    rintro D c S pre W hD hS hSD hpre ⟨rfl, ⟨V, t, q, hM, hdr, hV, n1, n2, n3, hSB⟩, hz⟩ hKD
    have hres : res = (q.1.status, t, q.2) := by
      have h := HRS.out
      have e1 := HKD.out
      have e2 := HKR.out
      unfold driveX at h
      rw [← e2, ← e1, hdr] at h
      exact h.symm
    subst hres
    have s0 := cell1 hM.bS
    have o0 := cell1 hM.bO
    have a0 := cell1 hM.bA
    have HST := Lib.hid (Status_any k q.1 V W.drew (hM.sag.below (Below.refl _ _).drew))
    have HLOW := Lib.hid hM.low
    have HKD9 := Lib.hid hKD
    clear hM hdr hS hKD HRS
    gi_upto_region 19 with fail
    refine E_regionW (S := (fun W => W.cell? ⟨eS, 0, none⟩ = some (.pointer (some ⟨k.p, 0, none⟩)) ∧ W.cell? ⟨eO, 0, none⟩ = some (.int .i64 q.2) ∧ W.cell? ⟨eO + 1, 0, none⟩ = some (.int .i64 t))) 6 (by kernel_rfl) (by kernel_rfl) ⟨s0, o0, a0⟩ (fun Q' hQ hK' hHeld => ?_)
    refine E_take hQ hHeld 0 (v := ?qav1) rfl rfl (by kernel_rfl) (by kernel_rfl) (by kernel_rfl) (by kernel_rfl) (by kernel_rfl) (by rfl) ?qay1 ?qar1
    case qay1 => (intro w hSw; (try dsimp only at hSw); go_simp; (try with_reducible rfl))
    (try simp only [layE])
    refine E_take hQ hHeld 2 (v := ?qav2) rfl rfl (by kernel_rfl) (by kernel_rfl) (by kernel_rfl) (by kernel_rfl) (by kernel_rfl) (by rfl) ?qay2 ?qar2
    case qay2 => (intro w hSw; (try dsimp only at hSw); go_simp; (try with_reducible rfl))
    (try simp only [layE])
    refine E_take hQ hHeld 3 (v := ?qav3) rfl rfl (by kernel_rfl) (by kernel_rfl) (by kernel_rfl) (by kernel_rfl) (by kernel_rfl) (by rfl) ?qay3 ?qar3
    case qay3 => (intro w hSw; (try dsimp only at hSw); go_simp; (try with_reducible rfl))
    (try simp only [layE])
    refine E_one 1 (by kernel_rfl) rfl (by rfl) (fun K hK => ?_)
    go_simp
    refine HST.out.mono ?_
    rintro e w9 ⟨rfl, rfl⟩
    (skip)
    refine hK.out _ _ (fun _ _ => hHeld) (fun hHeld' => ?_)
    replace hHeld := hHeld' (by rfl) (by decide)
    clear hK hHeld'
    (try simp only [layE])
    refine E_take0 hQ (fun _ => hHeld) 4 (v := ?qav4) rfl rfl (by kernel_rfl) (by kernel_rfl) (by kernel_rfl) (by decide) (by rfl) ?qay4 ?qar4
    case qay4 => (intro w; go_simp; (try with_reducible rfl))
    (try simp only [layE])
    refine E_take0 hQ (fun _ => hHeld) 5 (v := ?qav5) rfl rfl (by kernel_rfl) (by kernel_rfl) (by kernel_rfl) (by decide) (by rfl) ?qay5 ?qar5
    case qay5 => (intro w; go_simp; (try with_reducible rfl))
    (try simp only [layE])
    refine E_one 6 (by kernel_rfl) rfl (by rfl) (fun K hK => ?_)
    go_simp
    (try simp only [layE])
    refine hK.out _ _ (fun _ h => absurd rfl h) (fun _ => ?_)
    clear hK hHeld
    (try simp only [layE])
    refine E_done (by kernel_rfl) ?_ _
    refine hK'.out _ _ ?_
    clear hK' hQ
    gi_wp2_with fail
    refine ⟨by simp, .inl ⟨_, _, rfl, run_takeDeferred HKD9.out, ?_⟩⟩
    exact ⟨_, results_tmp3 rfl _ _ _, rfl, (HLOW.out.drew).trans (below_putObj _ _ (by omega))⟩
  case done =>
    rintro D S W hD hS hSD ⟨⟨V, t, q, hM, hdr, hV, n1, n2, n3, hSB⟩, hz⟩ hKD
    rw [List.length_range, List.drop_of_length_le (by rw [List.length_range]; omega)] at hdr
    have hres : res = (q.1.status, t, q.2) := by
      have h := HRS.out
      have e1 := HKD.out
      have e2 := HKR.out
      unfold driveX at h
      rw [← e2, ← e1, hdr] at h
      exact h.symm
    subst hres
    have s0 := cell1 hM.bS
    have o0 := cell1 hM.bO
    have a0 := cell1 hM.bA
    have HST := Lib.hid (Status_any k q.1 V W.drew (hM.sag.below (Below.refl _ _).drew))
    have HLOW := Lib.hid hM.low
    have HKD9 := Lib.hid hKD
    clear hM hdr hS hKD HRS
    gi_upto_region 19 with fail
    refine E_regionW (S := (fun W => W.cell? ⟨eS, 0, none⟩ = some (.pointer (some ⟨k.p, 0, none⟩)) ∧ W.cell? ⟨eO, 0, none⟩ = some (.int .i64 q.2) ∧ W.cell? ⟨eO + 1, 0, none⟩ = some (.int .i64 t))) 6 (by kernel_rfl) (by kernel_rfl) ⟨s0, o0, a0⟩ (fun Q' hQ hK' hHeld => ?_)
    refine E_take hQ hHeld 0 (v := ?qbv1) rfl rfl (by kernel_rfl) (by kernel_rfl) (by kernel_rfl) (by kernel_rfl) (by kernel_rfl) (by rfl) ?qby1 ?qbr1
    case qby1 => (intro w hSw; (try dsimp only at hSw); go_simp; (try with_reducible rfl))
    (try simp only [layE])
    refine E_take hQ hHeld 2 (v := ?qbv2) rfl rfl (by kernel_rfl) (by kernel_rfl) (by kernel_rfl) (by kernel_rfl) (by kernel_rfl) (by rfl) ?qby2 ?qbr2
    case qby2 => (intro w hSw; (try dsimp only at hSw); go_simp; (try with_reducible rfl))
    (try simp only [layE])
    refine E_take hQ hHeld 3 (v := ?qbv3) rfl rfl (by kernel_rfl) (by kernel_rfl) (by kernel_rfl) (by kernel_rfl) (by kernel_rfl) (by rfl) ?qby3 ?qbr3
    case qby3 => (intro w hSw; (try dsimp only at hSw); go_simp; (try with_reducible rfl))
    (try simp only [layE])
    refine E_one 1 (by kernel_rfl) rfl (by rfl) (fun K hK => ?_)
    go_simp
    refine HST.out.mono ?_
    rintro e w9 ⟨rfl, rfl⟩
    (skip)
    refine hK.out _ _ (fun _ _ => hHeld) (fun hHeld' => ?_)
    replace hHeld := hHeld' (by rfl) (by decide)
    clear hK hHeld'
    (try simp only [layE])
    refine E_take0 hQ (fun _ => hHeld) 4 (v := ?qbv4) rfl rfl (by kernel_rfl) (by kernel_rfl) (by kernel_rfl) (by decide) (by rfl) ?qby4 ?qbr4
    case qby4 => (intro w; go_simp; (try with_reducible rfl))
    (try simp only [layE])
    refine E_take0 hQ (fun _ => hHeld) 5 (v := ?qbv5) rfl rfl (by kernel_rfl) (by kernel_rfl) (by kernel_rfl) (by decide) (by rfl) ?qby5 ?qbr5
    case qby5 => (intro w; go_simp; (try with_reducible rfl))
    (try simp only [layE])
    refine E_one 6 (by kernel_rfl) rfl (by rfl) (fun K hK => ?_)
    go_simp
    (try simp only [layE])
    refine hK.out _ _ (fun _ h => absurd rfl h) (fun _ => ?_)
    clear hK hHeld
    (try simp only [layE])
    refine E_done (by kernel_rfl) ?_ _
    refine hK'.out _ _ ?_
    clear hK' hQ
    gi_wp2_with fail
    refine ⟨by simp, .inl ⟨_, _, rfl, run_takeDeferred HKD9.out, ?_⟩⟩
    exact ⟨_, results_tmp3 rfl _ _ _, rfl, (HLOW.out.drew).trans (below_putObj _ _ (by omega))⟩
  case body =>
    rintro l S pre x a' W hS hw hSl - ⟨⟨V, t, q, hM, hdr, hV, n1, n2, n3, hSB⟩, hz⟩ ⟨ga, gc, rfl, hro, hrS⟩ hpre
    obtain ⟨hx, hxb⟩ := range_pre hpre
    rw [← hx] at hdr hxb
    rw [driveO_drop hxb] at hdr
    have hpl : (pre ++ [x]).length = x + 1 := by rw [List.length_append, List.length_singleton, hx]
    have HPL := Lib.hid hpl
    have HDR := Lib.hid hdr
    have a0 := cell1 hM.bA
    have f0 := froz8 (i := 0) hM.bA
    have HMA := Lib.hid (hM.setA (x : Int))
    have HKA : Hid (Keep 0 S W (W.setCell ⟨eO + 1, 0, none⟩ (.int .i64 (x : Int)))) := Lib.hid ⟨(Below.refl 0 W).setCell (Nat.zero_le _) _, fun j hj => Below.heap_setCell _ _ _ _ (by show j ≠ eO + 1; rintro rfl; exact n3 hj)⟩
    have HRO : Hid (∀ W', Keep 0 S W W' → W'.ownsRow 0 32 5 (.slice ga (saysAt ss x).length gc) (saysAt ss x).length (flatS (saysAt ss x))) := Lib.hid (fun W' hk => ownsRow_keepB hro (fun g hg => hk.same g (hrS g hg)))
    have HVV := Lib.hid hV
    have HSB := Lib.hid hSB
    have HSS := Lib.hid hS
    have hln := saysAt_len ss (x : Int)
    clear hM hdr hV hro hrS hpre hS hSl hSB hx hpl
    gi_upto_region 10 with fail
    generalize W.setCell ⟨eO + 1, 0, none⟩ (.int .i64 (x : Int)) = Wa at *
    gi_wp2_with fail
    clear a0 f0
    gi_loopg [36] ((saysAt ss x).length + 1) (fun gk i wr => ∃ (j : Nat) (V : Nat → Prop) (p : SagD × Int), j + gk = (saysAt ss x).length + 1 ∧ j ≤ (saysAt ss x).length ∧ i = .int .i64 j ∧ Hid (DrvM w k eS eO (eO + 1) V wr (x : Int) p) ∧ Hid (((saysAt ss x).take j).foldl (answO k.d.steps k.rs x) q = p) ∧ Hid (∀ j, V j → ¬ S j) ∧ Hid (Keep 0 S W wr))
    case atStart => exact ⟨0, V, q, by omega, by omega, rfl, HMA, Lib.hid rfl, HVV, HKA⟩
    case round =>
      obtain ⟨j, V', p, hgk, hj, rfl, HMr, HFO, HVr, HKr⟩ := hrel
      have hg : gk = (saysAt ss x).length + 1 - j := by omega
      subst hg
      by_cases hjl : j < (saysAt ss x).length
      · have d1 : decide ((j : Int) < ((saysAt ss x).length : Int)) = true := decide_eq_true (by omega)
        have hj1 : (j : Int) < ((saysAt ss x).length : Int) := by omega
        have hj0 : (0 : Int) ≤ (j : Int) := by omega
        have HTK : Hid ((saysAt ss x).take (j + 1) = (saysAt ss x).take j ++ [(saysAt ss x)[j]]) := Lib.hid (by rw [List.take_add_one, List.getElem?_eq_getElem hjl]; rfl)
        obtain ⟨sg, soff, scap, he, q0, q1, q2, q3, q4⟩ := says_at (RdS.of_owns (HRO.out wr HKr.out)) hjl
        cases he
        generalize (saysAt ss x)[j] = y at *
        have hb1 : Below wr.heap.size wr (wr.alloc (.cells #[.int .i64 y.1, .int .i64 y.2.1, .int .i64 y.2.2.1, .bool y.2.2.2.1, .int .u8 y.2.2.2.2] 32)) := (Below.refl _ _).alloc (Nat.le_refl _) _
        have g5 := World.alloc_heap_new wr (.cells #[.int .i64 y.1, .int .i64 y.2.1, .int .i64 y.2.2.1, .bool y.2.2.2.1, .int .u8 y.2.2.2.2] 32)
        gi_upto_region 13 with fail
        generalize wr.alloc (.cells #[.int .i64 y.1, .int .i64 y.2.1, .int .i64 y.2.2.1, .bool y.2.2.2.1, .int .u8 y.2.2.2.2] 32) = w8 at *
        clear q0 q1 q2 q3 q4
        obtain ⟨z0, z1, z2, z3, z4⟩ := cells5s g5
        have HM8 := Lib.hid (HMr.out.below hb1)
        have HB8 := Lib.hid hb1
        have s0 := cell1 HM8.out.bS
        have HAN := Lib.hid (AnswerS_any k p.1 y.2.1 y.2.2.1 y.2.2.2.2 (x : Int) y.2.2.2.1 V' w8 HM8.out.sag (fun j hj => (HM8.out.vB j hj).2.1) HF.out HM8.out.inv.good)
        clear hb1 g5
        gi_wp2_with fail
        refine ((callsIn_wide.2 HAN.out).inRound l).mono ?_
        rintro e w9 ⟨v, rfl, hc⟩
        obtain ⟨V9, oa9, oc9, rfl, hM9, hst9⟩ := HM8.out.call hc (HM8.out.inv.answer _ _ _ _)
        have o0 := cell1 hM9.bO
        have fO := froz8 (i := 0) hM9.bO
        have HMZ := Lib.hid (hM9.setO (wrap64 (p.2 + ((answerX k.d.steps k.rs p.1 (y.2.1, y.2.2.2.1) y.2.2.1 y.2.2.2.2 (x : Int)).1.2.length : Int))))
        have hs8 := HB8.out.size
        have hsr := HKr.out.below.size
        have hln1 := hM9.low
        have HKZ : Hid (Keep 0 S W (w9.setCell ⟨eO, 0, none⟩ (.int .i64 (wrap64 (p.2 + ((answerX k.d.steps k.rs p.1 (y.2.1, y.2.2.2.1) y.2.2.1 y.2.2.2.2 (x : Int)).1.2.length : Int)))))) := Lib.hid ⟨(HKr.out.below.trans ((HB8.out.mono (Nat.zero_le _)).trans ⟨hln1.os.trans HM8.out.low.os.symm, hln1.tape.trans HM8.out.low.tape.symm, hln1.output.trans HM8.out.low.output.symm, (by obtain ⟨va9, vc9, V10, h1, h2, h3, h4, h5, h6⟩ := hc; exact h5.size), fun j hj => absurd hj (Nat.not_lt_zero j)⟩)).setCell (Nat.zero_le _) _, fun j hj => (Below.heap_setCell _ _ _ _ (by show j ≠ eO; rintro rfl; exact n2 hj)).trans (((hst9 j (by have := (HSS.out j hj).2; omega) (fun e => HVr.out j e hj)).1).trans ((HB8.out.block j (by have := (HSS.out j hj).2; omega)).trans (HKr.out.same j hj)))⟩
        have HV9 : Hid (∀ j, V9 j → ¬ S j) := Lib.hid (fun j hj e => (hst9 j (by have := (HSS.out j e).2; omega) (fun e2 => HVr.out j e2 e)).2 hj)
        clear hM9 hst9 hc hln1 s0 z0 z1 z2 z3 z4 HAN
        gi_wp2_with fail
        gi_roundg ((saysAt ss x).length + 1 - (j + 1))
        case measure => omega
        case rel => exact ⟨j + 1, V9, answO k.d.steps k.rs (x : Int) p y, by omega, by omega, by go_num, HMZ, Lib.hid (by rw [HTK.out, List.foldl_append, HFO.out]; rfl), HV9, HKZ⟩
      · have d1 : decide ((j : Int) < ((saysAt ss x).length : Int)) = false := decide_eq_false (by omega)
        have hj1 : ¬ (j : Int) < ((saysAt ss x).length : Int) := by omega
        obtain rfl : j = (saysAt ss x).length := by omega
        rw [List.take_length] at HFO
        clear hgk
        by_cases hx0 : 0 < x
        · have hx1 : (0 : Int) < (x : Int) := by omega
          have d2 : decide ((0 : Int) < (x : Int)) = true := decide_eq_true (by omega)
          have s0 := cell1 HMr.out.bS
          have o0 := cell1 HMr.out.bO
          have HMd := Lib.hid (HMr.out.below (Below.refl _ wr).drew)
          have HTK := Lib.hid (TickS_any k p.1 (x : Int) V' wr.drew HMd.out.sag (fun j hj => (HMd.out.vB j hj).2.1) HF.out HMd.out.inv.good)
          have hsr := HKr.out.below.size
          gi_upto_region 17 with fail
          refine E_regionR (S := (fun W => W.cell? ⟨eO, 0, none⟩ = some (.int .i64 p.2) ∧ W.cell? ⟨eS, 0, none⟩ = some (.pointer (some ⟨k.p, 0, none⟩)))) 6 (by kernel_rfl) (by kernel_rfl) ⟨o0, s0⟩ (fun Q' hQ hK' hHeld => ?_)
          refine E_take hQ hHeld 0 (v := ?qcv1) rfl rfl (by kernel_rfl) (by kernel_rfl) (by kernel_rfl) (by kernel_rfl) (by kernel_rfl) (by rfl) ?qcy1 ?qcr1
          case qcy1 => (intro w hSw; (try dsimp only at hSw); go_simp; (try with_reducible rfl))
          (try simp only [layE])
          refine E_take hQ hHeld 1 (v := ?qcv2) rfl rfl (by kernel_rfl) (by kernel_rfl) (by kernel_rfl) (by kernel_rfl) (by kernel_rfl) (by rfl) ?qcy2 ?qcr2
          case qcy2 => (intro w hSw; (try dsimp only at hSw); go_simp; (try with_reducible rfl))
          (try simp only [layE])
          refine E_take0 hQ (fun _ => hHeld) 2 (v := ?qcv3) rfl rfl (by kernel_rfl) (by kernel_rfl) (by kernel_rfl) (by decide) (by rfl) ?qcy3 ?qcr3
          case qcy3 => (intro w; go_simp; (try with_reducible rfl))
          (try simp only [layE])
          refine E_one 3 (by kernel_rfl) rfl (by rfl) (fun K hK => ?_)
          go_simp
          refine HTK.out.mono ?_
          rintro e w9 ⟨v, rfl, hc⟩
          have hsz9 : wr.heap.size ≤ w9.heap.size := by obtain ⟨va9, vc9, V10, h1, h2, h3, h4, h5, h6⟩ := hc; exact h5.size
          obtain ⟨V9, oa9, oc9, rfl, hM9, hst9⟩ := HMd.out.call hc (HMd.out.inv.tick _)
          have o9 := cell1 hM9.bO
          have s9 := cell1 hM9.bS
          have f9 := froz8 (i := 0) hM9.bO
          (skip)
          refine hK.out _ _ (fun _ _ => ⟨o9, s9⟩) (fun hHeld' => ?_)
          replace hHeld := hHeld' (by rfl) (by decide)
          clear hK hHeld'
          (try simp only [layE])
          refine E_take0 hQ (fun _ => hHeld) 4 (v := ?qcv4) rfl rfl (by kernel_rfl) (by kernel_rfl) (by kernel_rfl) (by decide) (by rfl) ?qcy4 ?qcr4
          case qcy4 => (intro w; go_simp; (try with_reducible rfl))
          (try simp only [layE])
          refine E_take0 hQ (fun _ => hHeld) 5 (v := ?qcv5) rfl rfl (by kernel_rfl) (by kernel_rfl) (by kernel_rfl) (by decide) (by rfl) ?qcy5 ?qcr5
          case qcy5 => (intro w; go_simp; (try with_reducible rfl))
          (try simp only [layE])
          refine E_one 6 (by kernel_rfl) rfl (by rfl) (fun K hK => ?_)
          go_simp
          (try simp only [layE])
          refine hK.out _ _ (fun _ h => absurd rfl h) (fun _ => ?_)
          clear hK hHeld
          (try simp only [layE])
          refine E_done (by kernel_rfl) ?_ _
          refine hK'.out _ _ ?_
          have HMZ : Hid (DrvM w k eS eO (eO + 1) V9 (w9.setCell ⟨eO, 0, none⟩ (.int .i64 (wrap64 (p.2 + ((tickX k.d.steps k.rs p.1 (x : Int)).2.length : Int))))) (x : Int) ((tickX k.d.steps k.rs p.1 (x : Int)).1, wrap64 (p.2 + ((tickX k.d.steps k.rs p.1 (x : Int)).2.length : Int)))) := Lib.hid (hM9.setO _)
          have HKZ : Hid (Keep 0 S W (w9.setCell ⟨eO, 0, none⟩ (.int .i64 (wrap64 (p.2 + ((tickX k.d.steps k.rs p.1 (x : Int)).2.length : Int)))))) := Lib.hid ⟨(HKr.out.below.trans ⟨hM9.low.os.trans HMr.out.low.os.symm, hM9.low.tape.trans HMr.out.low.tape.symm, hM9.low.output.trans HMr.out.low.output.symm, hsz9, fun j hj => absurd hj (Nat.not_lt_zero j)⟩).setCell (Nat.zero_le _) _, fun j hj => (Below.heap_setCell _ _ _ _ (by show j ≠ eO; rintro rfl; exact n2 hj)).trans (((hst9 j (by have := (HSS.out j hj).2; show j < wr.heap.size; omega) (fun e => HVr.out j e hj)).1).trans (HKr.out.same j hj))⟩
          have HV9 : Hid (∀ j, V9 j → ¬ S j) := Lib.hid (fun j hj e => (hst9 j (by have := (HSS.out j e).2; show j < wr.heap.size; omega) (fun e2 => HVr.out j e2 e)).2 hj)
          have HRD : Hid (roundO k.d.steps k.rs ss (x : Int) q = ((tickX k.d.steps k.rs p.1 (x : Int)).1, wrap64 (p.2 + ((tickX k.d.steps k.rs p.1 (x : Int)).2.length : Int)))) := Lib.hid (by unfold roundO tickO; rw [HFO.out, if_pos hx1])
          clear hM9 hst9 s9 o9 f9 s0 o0 hK' hQ HTK HMd HMr HVr HKr HFO
          gi_upto_region 18 with fail
          rw [IntWalk.i64_left]
          generalize (w9.setCell ⟨eO, 0, none⟩ (.int .i64 (wrap64 (p.2 + ((tickX k.d.steps k.rs p.1 (x : Int)).2.length : Int))))) = wz at *
          have s0 := cell1 HMZ.out.bS
          gi_wp2_with fail
          refine ((callsIn_wide.2 (Over_any k ((tickX k.d.steps k.rs p.1 (x : Int)).1, wrap64 (p.2 + ((tickX k.d.steps k.rs p.1 (x : Int)).2.length : Int))).1 V9 wz HMZ.out.sag)).inRound l).mono ?_
          rintro e w' ⟨rfl, rfl⟩
          have hsz := HKZ.out.below.size
          rcases hov : overB ((tickX k.d.steps k.rs p.1 (x : Int)).1, wrap64 (p.2 + ((tickX k.d.steps k.rs p.1 (x : Int)).2.length : Int))).1 with _ | _
          · have HDZ : Hid (driveO k.d.steps k.rs ss (List.range (b + 1)) (beginO k.d.steps k.rs) = driveO k.d.steps k.rs ss ((List.range (b + 1)).drop (pre ++ [x]).length) ((x : Int), ((tickX k.d.steps k.rs p.1 (x : Int)).1, wrap64 (p.2 + ((tickX k.d.steps k.rs p.1 (x : Int)).2.length : Int))))) := Lib.hid (by rw [HDR.out, HRD.out, hov, HPL.out]; rfl)
            gi_wp2_with fail
            exact ⟨⟨⟨V9, (x : Int), ((tickX k.d.steps k.rs p.1 (x : Int)).1, wrap64 (p.2 + ((tickX k.d.steps k.rs p.1 (x : Int)).2.length : Int))), HMZ.out, HDZ.out, HV9.out, n1, n2, n3, HSB.out⟩, by omega⟩, HKZ.out⟩
          · have HDZ : Hid (driveO k.d.steps k.rs ss (List.range (b + 1)) (beginO k.d.steps k.rs) = ((x : Int), ((tickX k.d.steps k.rs p.1 (x : Int)).1, wrap64 (p.2 + ((tickX k.d.steps k.rs p.1 (x : Int)).2.length : Int))))) := Lib.hid (by rw [HDR.out, HRD.out, hov]; rfl)
            gi_wp2_with fail
            exact ⟨⟨rfl, ⟨V9, (x : Int), ((tickX k.d.steps k.rs p.1 (x : Int)).1, wrap64 (p.2 + ((tickX k.d.steps k.rs p.1 (x : Int)).2.length : Int))), HMZ.out, HDZ.out, HV9.out, n1, n2, n3, HSB.out⟩, by omega⟩, HKZ.out⟩
        · have hx1 : ¬ (0 : Int) < (x : Int) := by omega
          have d2 : decide ((0 : Int) < (x : Int)) = false := decide_eq_false (by omega)
          have HRD : Hid (roundO k.d.steps k.rs ss (x : Int) q = p) := Lib.hid (by unfold roundO tickO; rw [HFO.out, if_neg hx1])
          have s0 := cell1 HMr.out.bS
          gi_wp2_with fail
          refine ((callsIn_wide.2 (Over_any k p.1 V' wr HMr.out.sag)).inRound l).mono ?_
          rintro e w' ⟨rfl, rfl⟩
          have hsz := HKr.out.below.size
          rcases hov : overB p.1 with _ | _
          · have HDZ : Hid (driveO k.d.steps k.rs ss (List.range (b + 1)) (beginO k.d.steps k.rs) = driveO k.d.steps k.rs ss ((List.range (b + 1)).drop (pre ++ [x]).length) ((x : Int), p)) := Lib.hid (by rw [HDR.out, HRD.out, hov, HPL.out]; rfl)
            gi_wp2_with fail
            exact ⟨⟨⟨V', (x : Int), p, HMr.out, HDZ.out, HVr.out, n1, n2, n3, HSB.out⟩, by omega⟩, HKr.out⟩
          · have HDZ : Hid (driveO k.d.steps k.rs ss (List.range (b + 1)) (beginO k.d.steps k.rs) = ((x : Int), p)) := Lib.hid (by rw [HDR.out, HRD.out, hov]; rfl)
            gi_wp2_with fail
            exact ⟨⟨rfl, ⟨V', (x : Int), p, HMr.out, HDZ.out, HVr.out, n1, n2, n3, HSB.out⟩, by omega⟩, HKr.out⟩
end Go.Proofs.YtgfiogjfgbegpaaGreat

/-
  Sagas (no program): what becomes of a saga of which nobody answers anything.
-/
namespace Go.Proofs.YtgfiogjfgbegpaaGreat
open Go Go.RowKit

structure NumS (s : StepD) : Prop where
  L : 1 ≤ limI s.limit
  M : 1 ≤ bMost s.most
theorem clean_numS {d : DefD} (h : cleanB d = true) {i : Nat} (hi : i < d.steps.length) : NumS (d.steps[i]?.getD default) := by
  have := clean_nums h i hi
  rw [List.getElem?_eq_getElem hi, Option.getD_some]
  refine ⟨?_, ?_⟩
  · unfold limI; omega
  · unfold bMost; omega
theorem span_end {s : StepD} (h : NumS s) : spanS s = endI (limI s.limit) s.first s.factor (bMost s.most).toNat := by
  have hM := bMost_range s.most
  have h1 := h.M
  obtain ⟨M, hMe⟩ : ∃ M : Nat, bMost s.most = M := ⟨(bMost s.most).toNat, by omega⟩
  unfold spanS spanI endI wN
  rw [hMe, Int.mul_comm, show ((M : Int) - 1).toNat = M - 1 by omega, Int.toNat_natCast]
def AliveR (s : StepD) (n : Int) (x : RunD) : Prop :=
  ∃ t : Nat, 1 ≤ t ∧ (t : Int) ≤ bMost s.most ∧
    ((x = (1, (t : Int), endI (limI s.limit) s.first s.factor t, false) ∧ n < endI (limI s.limit) s.first s.factor t) ∨
     (x = (2, (t : Int), endI (limI s.limit) s.first s.factor t + waitI s.first s.factor t, false) ∧ (t : Int) < bMost s.most ∧ n < endI (limI s.limit) s.first s.factor t + waitI s.first s.factor t))
theorem AliveR.span {s : StepD} {n : Int} {x : RunD} (hs : NumS s) (h : AliveR s n x) : n < spanS s ∧ x.2.2.1 ≤ spanS s ∧ (x.1 = 1 ∨ x.1 = 2) ∧ n < x.2.2.1 := by
  have hM := bMost_range s.most
  have hL := hs.L
  obtain ⟨M, hMe⟩ : ∃ M : Nat, bMost s.most = M := ⟨(bMost s.most).toNat, by omega⟩
  have hsp := span_end hs
  rw [hMe, Int.toNat_natCast] at hsp
  obtain ⟨t, h1, h2, ⟨rfl, h3⟩ | ⟨rfl, h3, h4⟩⟩ := h
  · have := endI_mono (f := s.first) (k := s.factor) (L := limI s.limit) (by omega) (M - t) t h1 (by omega)
    rw [show t + (M - t) = M by omega] at this
    exact ⟨by omega, by show endI _ _ _ _ ≤ _; omega, .inl rfl, h3⟩
  · have hq := endI_succ (limI s.limit) s.first s.factor t h1 (by omega)
    have := endI_mono (f := s.first) (k := s.factor) (L := limI s.limit) (by omega) (M - (t + 1)) (t + 1) (by omega) (by omega)
    rw [show t + 1 + (M - (t + 1)) = M by omega] at this
    exact ⟨by omega, by show endI _ _ _ _ + waitI _ _ _ ≤ _; omega, .inr rfl, h4⟩
theorem now_is {n : Nat} (h : n ≤ 1000000) : nowI (n : Int) = n := by unfold nowI; omega
theorem AliveR.begin {s : StepD} (hs : NumS s) : AliveR s 0 (beginR s 0) := by
  have hL := hs.L
  have e : endI (limI s.limit) s.first s.factor 1 = limI s.limit := by
    unfold endI
    simp [bSum]
  refine ⟨1, Nat.le_refl _, hs.M, .inl ⟨?_, by rw [e]; omega⟩⟩
  unfold beginR
  rw [inc_zero, e]
  have : nowI 0 = 0 := by decide
  rw [this, Int.zero_add]
  rfl
theorem AliveR.tick {s : StepD} {n : Nat} {x : RunD} (hs : NumS s) (hn : n ≤ 999999) (h : AliveR s n x) :
    AliveR s ((n + 1 : Nat) : Int) (tickR s x ((n + 1 : Nat) : Int)).1 ∨ ((tickR s x ((n + 1 : Nat) : Int)).1.1 = 4 ∧ ((n + 1 : Nat) : Int) = spanS s) := by
  have hM := bMost_range s.most
  have hL := hs.L
  obtain ⟨M, hMe⟩ : ∃ M : Nat, bMost s.most = M := ⟨(bMost s.most).toNat, by omega⟩
  have hsp := span_end hs
  rw [hMe, Int.toNat_natCast] at hsp
  have hnow := now_is (n := n + 1) (by omega)
  obtain ⟨t, h1, h2, ⟨rfl, h3⟩ | ⟨rfl, h3, h4⟩⟩ := h
  · have hw := waitI_range s.first s.factor (t : Int)
    unfold tickR tickT
    dsimp only
    rw [hnow]
    by_cases hu : endI (limI s.limit) s.first s.factor t ≤ ((n + 1 : Nat) : Int)
    · rw [if_pos hu, if_pos rfl]
      dsimp only
      unfold failT
      by_cases hlt : (t : Int) < bMost s.most
      · have hq := endI_succ (limI s.limit) s.first s.factor t h1 (by omega)
        have hmm : moreB s.most (t : Int) = true := by unfold moreB; exact decide_eq_true ⟨by omega, hlt⟩
        rw [hmm, if_neg (by decide), hnow]
        by_cases hz : waitI s.first s.factor (t : Int) = 0
        · rw [if_pos hz, inc_nat (by omega)]
          refine .inl ⟨t + 1, by omega, by omega, .inl ⟨?_, by omega⟩⟩
          rw [show ((n + 1 : Nat) : Int) + limI s.limit = endI (limI s.limit) s.first s.factor (t + 1) by omega]
        · rw [if_neg hz]
          refine .inl ⟨t, h1, h2, .inr ⟨?_, hlt, by omega⟩⟩
          rw [show ((n + 1 : Nat) : Int) = endI (limI s.limit) s.first s.factor t by omega]
      · have hmm : moreB s.most (t : Int) = false := by unfold moreB; exact decide_eq_false (fun e => hlt e.2)
        rw [hmm, if_pos (by decide)]
        refine .inr ⟨rfl, ?_⟩
        rw [hsp, show M = t by omega]
        omega
    · rw [if_neg hu]
      exact .inl ⟨t, h1, h2, .inl ⟨rfl, by omega⟩⟩
  · have hw := waitI_range s.first s.factor (t : Int)
    have hq := endI_succ (limI s.limit) s.first s.factor t h1 (by omega)
    unfold tickR tickT
    dsimp only
    rw [hnow]
    by_cases hu : endI (limI s.limit) s.first s.factor t + waitI s.first s.factor t ≤ ((n + 1 : Nat) : Int)
    · rw [if_pos hu, if_neg (by decide), if_pos rfl]
      dsimp only
      rw [inc_nat (by omega)]
      refine .inl ⟨t + 1, by omega, by omega, .inl ⟨?_, by omega⟩⟩
      rw [show ((n + 1 : Nat) : Int) + limI s.limit = endI (limI s.limit) s.first s.factor (t + 1) by omega]
    · rw [if_neg hu]
      exact .inl ⟨t, h1, h2, .inr ⟨rfl, h3, by omega⟩⟩
structure TkS (l : List StepD) (now : Int) (X Y : AskX) (ks : List WayD) : Prop where
  runs : ∀ y : WayD, Y.1.runs y = if y ∈ ks then (tickR (l[y.1.toNat]?.getD default) (X.1.runs y) now).1 else X.1.runs y
  done : Y.1.done = X.1.done
  undone : Y.1.undone = X.1.undone
  status : Y.1.status = X.1.status
theorem tks_spec (l : List StepD) (now : Int) : ∀ (ks : List WayD) (X : AskX), ks.Nodup → TkS l now X (ks.foldl (tkX l now) X) ks
  | [], X, _ => ⟨fun y => rfl, rfl, rfl, rfl⟩
  | k :: ks, X, h => by
    rw [List.nodup_cons] at h
    have ih := tks_spec l now ks (tkX l now X k) h.2
    have h1 : ∀ y, (tkX l now X k).1.runs y = if y = k then (tickR (l[y.1.toNat]?.getD default) (X.1.runs y) now).1 else X.1.runs y := by
      intro y
      unfold tkX
      dsimp only
      by_cases hc : (tickR (l[k.1.toNat]?.getD default) (X.1.runs k) now).2 = true
      · rw [if_pos hc, putX_runs]
        dsimp only
        by_cases e : y = k
        · subst e
          rw [if_pos rfl]
        · rw [if_neg e, if_neg e]
      · rw [if_neg hc]
        by_cases e : y = k
        · subst e
          rw [if_pos rfl, tickR_no (by simpa using hc)]
        · rw [if_neg e]
    have hst : (tkX l now X k).1.status = X.1.status := by
      unfold tkX
      dsimp only
      split
      · exact putX_status _ _ _
      · rfl
    rw [List.foldl_cons]
    refine ⟨fun y => ?_, ih.done.trans (tkX_done l now X k), ih.undone.trans (tkX_undone l now X k), ih.status.trans hst⟩
    rw [ih.runs, h1]
    by_cases e : y = k
    · subst e
      rw [if_neg h.1, if_pos rfl, if_pos List.mem_cons_self]
    · rw [if_neg e]
      by_cases hm : y ∈ ks
      · rw [if_pos hm, if_pos (List.mem_cons_of_mem _ hm)]
      · rw [if_neg hm, if_neg (fun e2 => (List.mem_cons.1 e2).elim e hm)]
theorem waysD_nodup (n : Nat) : (waysD n).Nodup := by
  unfold waysD
  rw [List.nodup_append]
  refine ⟨List.Pairwise.map (R := (· ≠ ·)) (S := (· ≠ ·)) _ (fun a b hab e => hab ?_) List.nodup_range, List.Pairwise.map (R := (· ≠ ·)) (S := (· ≠ ·)) _ (fun a b hab e => hab ?_) List.nodup_range, ?_⟩
  · have := congrArg Prod.fst e
    have : (a : Int) = (b : Int) := this
    omega
  · have := congrArg Prod.fst e
    have : (a : Int) = (b : Int) := this
    omega
  · intro a ha b hb e
    obtain ⟨i, _, rfl⟩ := List.mem_map.1 ha
    obtain ⟨j, _, rfl⟩ := List.mem_map.1 hb
    cases congrArg Prod.snd e
theorem tick_idle (s : StepD) (now : Int) : (tickR s idleR now).1 = idleR := by
  rw [tickR_over (by decide) (by decide)]
structure NevA (l : List StepD) (rs : List (List Int)) (n : Nat) (S : SagD) : Prop where
  st : S.status = 1
  dn : S.done = []
  un : S.undone = []
  ud : ∀ i, S.runs (i, true) = idleR
  rt : ∀ i : Nat, i < l.length → rs[i]?.getD [] = [] → AliveR (l[i]?.getD default) n (S.runs ((i : Int), false))
  no : ∀ i : Int, ¬ (0 ≤ i ∧ i < (l.length : Int) ∧ rs[i.toNat]?.getD [] = []) → S.runs (i, false) = idleR
structure NevB (l : List StepD) (most : Int) (n : Nat) (S : SagD) : Prop where
  st : S.status = 2
  dn : S.done = []
  un : S.undone = []
  ud : ∀ i, S.runs (i, true) = idleR
  ph : ∀ i : Nat, i < l.length → (S.runs ((i : Int), false)).1 = 4 ∨ ((S.runs ((i : Int), false)).1 = 1 ∧ (S.runs ((i : Int), false)).2.2.2 = true ∧ (n : Int) < (S.runs ((i : Int), false)).2.2.1 ∧ (S.runs ((i : Int), false)).2.2.1 ≤ most)
  some : anyB l.length S 1 = true
theorem tick_ways {l : List StepD} {rs : List (List Int)} {S : SagD} {now : Int} (h : movB S = true) : ∃ Y : AskX, tickX l rs S now = onX l rs now Y ∧ Y.1.done = S.done ∧ Y.1.undone = S.undone ∧ Y.1.status = S.status ∧
    (∀ i : Nat, i < l.length → Y.1.runs ((i : Int), false) = (tickR (l[i]?.getD default) (S.runs ((i : Int), false)) now).1) ∧ (∀ i, S.runs (i, true) = idleR → Y.1.runs (i, true) = idleR) ∧ (∀ i : Int, S.runs (i, false) = idleR → Y.1.runs (i, false) = idleR) := by
  have hT := tks_spec l now (waysD l.length) (S, []) (waysD_nodup _)
  refine ⟨(waysD l.length).foldl (tkX l now) (S, []), by unfold tickX; rw [if_pos h], hT.done, hT.undone, hT.status, fun i hi => ?_, fun i hi => ?_, fun i hi => ?_⟩
  · rw [hT.runs, if_pos (ways_f hi)]
    show (tickR (l[((i : Int)).toNat]?.getD default) _ now).1 = _
    rw [show ((i : Int)).toNat = i by omega]
  · rw [hT.runs]
    split
    · show (tickR _ (S.runs (i, true)) now).1 = _
      rw [hi, tick_idle]
    · exact hi
  · rw [hT.runs]
    split
    · show (tickR _ (S.runs (i, false)) now).1 = _
      rw [hi, tick_idle]
    · exact hi
theorem back_now {l : List StepD} {X : AskX} {now : Int} (_h2 : X.1.status = 2) (hd : X.1.done = []) : (anyB l.length X.1 1 = true ∧ backX l now X = X) ∨ (anyB l.length X.1 1 = false ∧ backX l now X = ({ X.1 with status := 4 }, X.2)) := by
  cases h : anyB l.length X.1 1 with
  | true =>
    refine .inl ⟨rfl, ?_⟩
    unfold backX
    rw [h, if_pos rfl]
  | false =>
    refine .inr ⟨rfl, ?_⟩
    unfold backX
    rw [h, if_neg (by decide), hd, List.length_nil, Nat.zero_sub]
    rfl
theorem NevB.tick {l : List StepD} {rs : List (List Int)} {most : Int} {n : Nat} {S : SagD} (h : NevB l most n S) (hn : n ≤ 999999) :
    ((tickX l rs S ((n + 1 : Nat) : Int)).1.status = 4 ∧ ((n + 1 : Nat) : Int) ≤ most) ∨ NevB l most (n + 1) (tickX l rs S ((n + 1 : Nat) : Int)).1 := by
  obtain ⟨Y, e, y1, y2, y3, y4, y5, y6⟩ := tick_ways (l := l) (rs := rs) (S := S) (now := ((n + 1 : Nat) : Int)) (by unfold movB; rw [h.st]; rfl)
  have hnow := now_is (n := n + 1) (by omega)
  have hon : onX l rs ((n + 1 : Nat) : Int) Y = backX l ((n + 1 : Nat) : Int) Y := by
    have e1 : (if Y.1.status = 1 then forthX l rs ((n + 1 : Nat) : Int) Y else Y) = Y := if_neg (by rw [y3, h.st]; decide)
    unfold onX
    dsimp only
    rw [e1]
    exact if_pos (y3.trans h.st)
  have hph : ∀ i : Nat, i < l.length → (Y.1.runs ((i : Int), false)).1 = 4 ∨ ((Y.1.runs ((i : Int), false)).1 = 1 ∧ (Y.1.runs ((i : Int), false)).2.2.2 = true ∧ ((n + 1 : Nat) : Int) < (Y.1.runs ((i : Int), false)).2.2.1 ∧ (Y.1.runs ((i : Int), false)).2.2.1 ≤ most) := by
    intro i hi
    rw [y4 i hi]
    rcases h.ph i hi with h4 | ⟨h1, h2, h3, h5⟩
    · rw [tickR_over (by omega) (by omega)]
      exact .inl h4
    · unfold tickR tickT
      rw [hnow]
      by_cases hu : (S.runs ((i : Int), false)).2.2.1 ≤ ((n + 1 : Nat) : Int)
      · rw [if_pos hu, if_pos h1]
        refine .inl ?_
        show (failT (l[i]?.getD default).most (l[i]?.getD default).first (l[i]?.getD default).factor (l[i]?.getD default).limit (S.runs ((i : Int), false)).1 (S.runs ((i : Int), false)).2.1 (S.runs ((i : Int), false)).2.2.1 (S.runs ((i : Int), false)).2.2.2 ((n + 1 : Nat) : Int)).1 = 4
        unfold failT
        rw [h2, Bool.true_or, if_pos rfl]
      · rw [if_neg hu]
        exact .inr ⟨h1, h2, by show _ < (S.runs ((i : Int), false)).2.2.1; omega, h5⟩
  rw [e, hon]
  rcases back_now (l := l) (now := ((n + 1 : Nat) : Int)) (y3.trans h.st) (y1.trans h.dn) with ⟨ha, hb⟩ | ⟨ha, hb⟩
  · rw [hb]
    exact .inr ⟨y3.trans h.st, y1.trans h.dn, y2.trans h.un, fun i => y5 i (h.ud i), hph, ha⟩
  · rw [hb]
    refine .inl ⟨rfl, ?_⟩
    obtain ⟨i, hi, hp⟩ := anyB_iff.1 h.some
    rcases h.ph i hi with h4 | ⟨h1, h2, h3, h5⟩
    · unfold phaseI at hp
      omega
    · omega
theorem NevA.tick {l : List StepD} {rs : List (List Int)} {least most : Int} {n : Nat} {S : SagD} (h : NevA l rs n S) (hn : n ≤ 999999) (hl0 : l.length ≠ 0) (hnum : ∀ i : Nat, i < l.length → NumS (l[i]?.getD default))
    (hsp : ∀ i : Nat, i < l.length → rs[i]?.getD [] = [] → least ≤ spanS (l[i]?.getD default) ∧ spanS (l[i]?.getD default) ≤ most) :
    ((tickX l rs S ((n + 1 : Nat) : Int)).1.status = 4 ∧ least ≤ ((n + 1 : Nat) : Int) ∧ ((n + 1 : Nat) : Int) ≤ most) ∨ (least ≤ ((n + 1 : Nat) : Int) ∧ NevB l most (n + 1) (tickX l rs S ((n + 1 : Nat) : Int)).1) ∨ NevA l rs (n + 1) (tickX l rs S ((n + 1 : Nat) : Int)).1 := by
  obtain ⟨Y, e, y1, y2, y3, y4, y5, y6⟩ := tick_ways (l := l) (rs := rs) (S := S) (now := ((n + 1 : Nat) : Int)) (by unfold movB; rw [h.st]; rfl)
  have hst : Y.1.status = 1 := y3.trans h.st
  have hroot : ∀ i : Nat, i < l.length → rs[i]?.getD [] = [] → AliveR (l[i]?.getD default) ((n + 1 : Nat) : Int) (Y.1.runs ((i : Int), false)) ∨ ((Y.1.runs ((i : Int), false)).1 = 4 ∧ ((n + 1 : Nat) : Int) = spanS (l[i]?.getD default)) := fun i hi hr => by
    rw [y4 i hi]
    exact (h.rt i hi hr).tick (hnum i hi) hn
  have hno : ∀ i : Int, ¬ (0 ≤ i ∧ i < (l.length : Int) ∧ rs[i.toNat]?.getD [] = []) → Y.1.runs (i, false) = idleR := fun i hi => y6 i (h.no i hi)
  have hnon : ∀ i : Nat, i < l.length → rs[i]?.getD [] ≠ [] → Y.1.runs ((i : Int), false) = idleR := fun i hi hr => hno _ (fun e2 => hr (by have := e2.2.2; rwa [show ((i : Int)).toNat = i by omega] at this))
  rw [e]
  by_cases ha : anyB l.length Y.1 4 = true
  · have hf : onX l rs ((n + 1 : Nat) : Int) Y = backX l ((n + 1 : Nat) : Int) (haltS l.length Y.1, Y.2) := by
      have e1 : (if Y.1.status = 1 then forthX l rs ((n + 1 : Nat) : Int) Y else Y) = (haltS l.length Y.1, Y.2) := by
        rw [if_pos hst]
        unfold forthX
        rw [if_pos ha]
      unfold onX
      dsimp only
      rw [e1]
      exact if_pos rfl
    obtain ⟨j, hj, hp⟩ := anyB_iff.1 ha
    have hjr : rs[j]?.getD [] = [] := by
      by_cases hr : rs[j]?.getD [] = []
      · exact hr
      · exfalso
        unfold phaseI at hp
        rw [hnon j hj hr] at hp
        exact absurd (show (0 : Int) = 4 from hp) (by decide)
    have hnj : ((n + 1 : Nat) : Int) = spanS (l[j]?.getD default) := by
      rcases hroot j hj hjr with h1 | h1
      · have := (h1.span (hnum j hj)).2.2.1
        unfold phaseI at hp
        omega
      · exact h1.2
    have hlm := hsp j hj hjr
    have hruns : ∀ i : Nat, i < l.length → (haltS l.length Y.1).runs ((i : Int), false) = stopR (Y.1.runs ((i : Int), false)) := fun i hi => by
      show (if (((i : Int), false) : WayD).2 = false ∧ 0 ≤ (((i : Int), false) : WayD).1 ∧ (((i : Int), false) : WayD).1 < (l.length : Int) then stopR (Y.1.runs ((i : Int), false)) else _) = _
      exact if_pos ⟨rfl, by show (0 : Int) ≤ (i : Int); omega, by show (i : Int) < _; omega⟩
    have hph : ∀ i : Nat, i < l.length → ((haltS l.length Y.1).runs ((i : Int), false)).1 = 4 ∨ (((haltS l.length Y.1).runs ((i : Int), false)).1 = 1 ∧ ((haltS l.length Y.1).runs ((i : Int), false)).2.2.2 = true ∧ ((n + 1 : Nat) : Int) < ((haltS l.length Y.1).runs ((i : Int), false)).2.2.1 ∧ ((haltS l.length Y.1).runs ((i : Int), false)).2.2.1 ≤ most) := by
      intro i hi
      rw [hruns i hi]
      by_cases hr : rs[i]?.getD [] = []
      · rcases hroot i hi hr with h1 | h1
        · obtain ⟨a1, a2, a3, a4⟩ := h1.span (hnum i hi)
          have hm := (hsp i hi hr).2
          rcases a3 with a3 | a3
          · have es : stopR (Y.1.runs ((i : Int), false)) = ((Y.1.runs ((i : Int), false)).1, (Y.1.runs ((i : Int), false)).2.1, (Y.1.runs ((i : Int), false)).2.2.1, true) := by
              unfold stopR stopT
              rw [if_neg (by omega), if_pos a3]
            rw [es]
            exact .inr ⟨a3, rfl, a4, by show (Y.1.runs ((i : Int), false)).2.2.1 ≤ most; omega⟩
          · exact .inl ((stopR_ph _).2.2.1 (.inr (.inl a3)))
        · exact .inl ((stopR_ph _).2.2.1 (.inr (.inr h1.1)))
      · rw [hnon i hi hr]
        exact .inl rfl
    have hud : ∀ i, (haltS l.length Y.1).runs (i, true) = idleR := fun i => by
      unfold haltS stopS
      dsimp only
      rw [if_neg (fun e => by cases e.1)]
      exact y5 i (h.ud i)
    rw [hf]
    rcases back_now (l := l) (now := ((n + 1 : Nat) : Int)) (X := (haltS l.length Y.1, Y.2)) rfl (show Y.1.done = [] from y1.trans h.dn) with ⟨hb1, hb⟩ | ⟨hb1, hb⟩
    · rw [hb]
      exact .inr (.inl ⟨by omega, ⟨rfl, y1.trans h.dn, y2.trans h.un, hud, hph, hb1⟩⟩)
    · rw [hb]
      exact .inl ⟨rfl, by omega, by omega⟩
  · have hnl : ∀ i : Nat, i < l.length → rs[i]?.getD [] = [] → AliveR (l[i]?.getD default) ((n + 1 : Nat) : Int) (Y.1.runs ((i : Int), false)) := fun i hi hr => by
      rcases hroot i hi hr with h1 | h1
      · exact h1
      · exact absurd (anyB_iff.2 ⟨i, hi, h1.1⟩) ha
    have hrd : ∀ i : Nat, i < l.length → readyB rs Y.1 i = false := fun i hi => by
      by_cases hr : rs[i]?.getD [] = []
      · refine readyB_no ?_
        have := ((hnl i hi hr).span (hnum i hi)).2.2.1
        unfold phaseI
        omega
      · unfold readyB
        rw [Bool.and_eq_false_iff]
        refine .inr ?_
        obtain ⟨j, js, hjs⟩ : ∃ j js, rs[i]?.getD [] = j :: js := by
          cases hq : rs[i]?.getD [] with
          | nil => exact absurd hq hr
          | cons a b => exact ⟨a, b, rfl⟩
        rw [hjs, List.all_cons, Bool.and_eq_false_iff]
        refine .inl (decide_eq_false ?_)
        unfold phaseI
        by_cases hj : 0 ≤ j ∧ j < (l.length : Int) ∧ rs[j.toNat]?.getD [] = []
        · have := ((hnl j.toNat (by omega) hj.2.2).span (hnum j.toNat (by omega))).2.2.1
          have e2 : ((j.toNat : Nat) : Int) = j := by omega
          rw [e2] at this
          omega
        · rw [hno j hj]
          decide
    have hid : ∀ i : Int, (Y.1.runs (i, false)).1 = 0 → (Y.1.runs (i, false)).2.1 = 0 := fun i h0 => by
      by_cases hi : 0 ≤ i ∧ i < (l.length : Int) ∧ rs[i.toNat]?.getD [] = []
      · have := ((hnl i.toNat (by omega) hi.2.2).span (hnum i.toNat (by omega))).2.2.1
        have e2 : ((i.toNat : Nat) : Int) = i := by omega
        rw [e2] at this
        omega
      · rw [hno i hi]
        rfl
    have hB := begs_spec l rs ((n + 1 : Nat) : Int) Y hid l.length
    have hon : onX l rs ((n + 1 : Nat) : Int) Y = (List.range l.length).foldl (begX l rs ((n + 1 : Nat) : Int)) Y := by
      have e1 : (if Y.1.status = 1 then forthX l rs ((n + 1 : Nat) : Int) Y else Y) = (List.range l.length).foldl (begX l rs ((n + 1 : Nat) : Int)) Y := by
        rw [if_pos hst]
        unfold forthX
        rw [if_neg ha, if_neg (by rw [y1, h.dn]; exact fun e => hl0 e.symm)]
      unfold onX
      dsimp only
      rw [e1]
      exact if_neg (by rw [hB.status, hst]; decide)
    have hruns : ∀ k, ((List.range l.length).foldl (begX l rs ((n + 1 : Nat) : Int)) Y).1.runs k = Y.1.runs k := fun k => by
      rw [hB.runs, if_neg]
      rintro ⟨_, h0, h1, h2⟩
      rw [hrd k.1.toNat (by omega)] at h2
      cases h2
    rw [hon]
    refine .inr (.inr ⟨hB.status.trans hst, hB.done.trans (y1.trans h.dn), hB.undone.trans (y2.trans h.un), fun i => by rw [hruns]; exact y5 i (h.ud i), fun i hi hr => by rw [hruns]; exact hnl i hi hr, fun i hi => by rw [hruns]; exact hno i hi⟩)
theorem saysAt_none (n : Int) : saysAt [] n = [] := rfl
theorem round_none {l : List StepD} {rs : List (List Int)} {n : Nat} {p : SagD × Int} : (roundO l rs [] ((n + 1 : Nat) : Int) p).1 = (tickX l rs p.1 ((n + 1 : Nat) : Int)).1 := by
  unfold roundO tickO
  rw [saysAt_none, List.foldl_nil, if_pos (by omega)]
theorem never_go {l : List StepD} {rs : List (List Int)} {least most : Int} {b : Nat} (hb : most ≤ (b : Int)) (hb9 : b ≤ 999999) (hl0 : l.length ≠ 0) (hnum : ∀ i : Nat, i < l.length → NumS (l[i]?.getD default))
    (hsp : ∀ i : Nat, i < l.length → rs[i]?.getD [] = [] → least ≤ spanS (l[i]?.getD default) ∧ spanS (l[i]?.getD default) ≤ most) (hroot : ∃ i : Nat, i < l.length ∧ rs[i]?.getD [] = []) :
    ∀ (m n : Nat) (t : Int) (p : SagD × Int), most ≤ (n : Int) + m → (NevA l rs n p.1 ∨ (least ≤ (n : Int) ∧ NevB l most n p.1)) →
      (driveO l rs [] ((List.range (b + 1)).drop (n + 1)) (t, p)).2.1.status = 4 ∧ least ≤ (driveO l rs [] ((List.range (b + 1)).drop (n + 1)) (t, p)).1 ∧ (driveO l rs [] ((List.range (b + 1)).drop (n + 1)) (t, p)).1 ≤ most := by
  intro m
  induction m with
  | zero =>
    intro n t p hm hp
    exfalso
    rcases hp with h | ⟨_, h⟩
    · obtain ⟨i, hi, hr⟩ := hroot
      have := ((h.rt i hi hr).span (hnum i hi)).1
      have := (hsp i hi hr).2
      omega
    · obtain ⟨i, hi, hp⟩ := anyB_iff.1 h.some
      rcases h.ph i hi with h4 | ⟨h1, h2, h3, h5⟩
      · unfold phaseI at hp
        omega
      · omega
  | succ m ih =>
    intro n t p hm hp
    have hlt : (n : Int) < most := by
      rcases hp with h | ⟨_, h⟩
      · obtain ⟨i, hi, hr⟩ := hroot
        have := ((h.rt i hi hr).span (hnum i hi)).1
        have := (hsp i hi hr).2
        omega
      · obtain ⟨i, hi, hp⟩ := anyB_iff.1 h.some
        rcases h.ph i hi with h4 | ⟨h1, h2, h3, h5⟩
        · unfold phaseI at hp
          omega
        · omega
    have hdr : driveO l rs [] ((List.range (b + 1)).drop (n + 1)) (t, p) = if overB (roundO l rs [] ((n + 1 : Nat) : Int) p).1 then (((n + 1 : Nat) : Int), roundO l rs [] ((n + 1 : Nat) : Int) p) else driveO l rs [] ((List.range (b + 1)).drop (n + 1 + 1)) (((n + 1 : Nat) : Int), roundO l rs [] ((n + 1 : Nat) : Int) p) := by
      rw [List.drop_eq_getElem_cons (by rw [List.length_range]; omega), List.getElem_range]
      rfl
    have hover : ∀ S : SagD, S.status = 4 → overB S = true := fun S e => by unfold overB; rw [e]; rfl
    have hgo : ∀ S : SagD, (S.status = 1 ∨ S.status = 2) → overB S = false := fun S e => by unfold overB; rcases e with e | e <;> (rw [e]; rfl)
    have hr1 := round_none (l := l) (rs := rs) (n := n) (p := p)
    rw [hdr, hr1]
    rcases hp with h | ⟨hle, h⟩
    · rcases h.tick (by omega) hl0 hnum hsp with ⟨h1, h2, h3⟩ | ⟨h2, h3⟩ | h3
      · rw [hover _ h1, if_pos rfl]
        exact ⟨by rw [hr1]; exact h1, h2, h3⟩
      · rw [hgo _ (.inr h3.st), if_neg (by decide)]
        exact ih (n + 1) _ _ (by omega) (.inr ⟨h2, by rw [hr1]; exact h3⟩)
      · rw [hgo _ (.inl h3.st), if_neg (by decide)]
        exact ih (n + 1) _ _ (by omega) (.inl (by rw [hr1]; exact h3))
    · rcases h.tick (rs := rs) (by omega) with ⟨h1, h3⟩ | h3
      · rw [hover _ h1, if_pos rfl]
        exact ⟨by rw [hr1]; exact h1, by show least ≤ ((n + 1 : Nat) : Int); omega, h3⟩
      · rw [hgo _ (.inr h3.st), if_neg (by decide)]
        exact ih (n + 1) _ _ (by omega) (.inr ⟨by omega, by rw [hr1]; exact h3⟩)
theorem never_start {l : List StepD} {rs : List (List Int)} (hl0 : l.length ≠ 0) (hnum : ∀ i : Nat, i < l.length → NumS (l[i]?.getD default)) : NevA l rs 0 (startX l rs newSag 0).1 := by
  have hB := begs_spec l rs 0 (runSag, []) (fun _ _ => rfl) l.length
  have e : startX l rs newSag 0 = (List.range l.length).foldl (begX l rs 0) (runSag, []) := by
    unfold startX
    rw [if_pos (show newSag.status = 0 from rfl)]
    show onX l rs 0 (runSag, []) = _
    have e1 : (if runSag.status = 1 then forthX l rs 0 (runSag, []) else (runSag, [])) = (List.range l.length).foldl (begX l rs 0) (runSag, []) := by
      rw [if_pos (show runSag.status = 1 from rfl)]
      unfold forthX
      rw [if_neg, if_neg]
      · exact fun e => hl0 e.symm
      · rw [anyB_not (fun i _ => by show (0 : Int) ≠ 4; decide)]
        decide
    unfold onX
    dsimp only
    rw [e1]
    exact if_neg (by rw [hB.status]; show ¬ (1 : Int) = 2; decide)
  rw [e]
  have hrd : ∀ i : Nat, readyB rs runSag i = true ↔ rs[i]?.getD [] = [] := fun i => by
    unfold readyB
    rw [decide_eq_true (show phaseI runSag (i : Int) = 0 from rfl), Bool.true_and]
    constructor
    · intro h
      cases hq : rs[i]?.getD [] with
      | nil => rfl
      | cons a b =>
        rw [hq, List.all_cons, Bool.and_eq_true, decide_eq_true_eq] at h
        exact absurd (show (0 : Int) = 3 from h.1) (by decide)
    · intro h
      rw [h]
      rfl
  refine ⟨hB.status, hB.done, hB.undone, fun i => ?_, fun i hi hr => ?_, fun i hi => ?_⟩
  · rw [hB.runs, if_neg (by rintro ⟨h, _⟩; cases h)]
    rfl
  · rw [hB.runs, if_pos ⟨rfl, by show (0 : Int) ≤ (i : Int); omega, by show (i : Int) < _; omega, by show readyB rs runSag ((i : Int)).toNat = true; rw [show ((i : Int)).toNat = i by omega]; exact (hrd i).2 hr⟩]
    show AliveR _ _ (beginR (l[((i : Int)).toNat]?.getD default) 0)
    rw [show ((i : Int)).toNat = i by omega]
    exact AliveR.begin (hnum i hi)
  · rw [hB.runs, if_neg]
    · rfl
    · rintro ⟨_, h1, h2, h3⟩
      exact hi ⟨h1, h2, (hrd _).1 h3⟩
theorem never_drv {d : DefD} {least most : Int} (hc : cleanB d = true) (hb9 : boundI d ≤ 3000) (hmost : most ≤ boundI d)
    (hsp : ∀ i : Nat, i < d.steps.length → (depsA d.steps 0 d.steps)[i]?.getD [] = [] → least ≤ spanS (d.steps[i]?.getD default) ∧ spanS (d.steps[i]?.getD default) ≤ most) :
    (drvD d []).1 = 4 ∧ least ≤ (drvD d []).2.1 ∧ (drvD d []).2.1 ≤ most := by
  have hl0 : d.steps.length ≠ 0 := by have := clean_some hc; omega
  have hnum : ∀ i : Nat, i < d.steps.length → NumS (d.steps[i]?.getD default) := fun i hi => clean_numS hc hi
  obtain ⟨i, hi, -, hd⟩ := clean_first hc (D := fun _ => False) ⟨0, by omega, fun e => e⟩
  have hroot : ∃ i : Nat, i < d.steps.length ∧ (depsA d.steps 0 d.steps)[i]?.getD [] = [] := by
    refine ⟨i, hi, ?_⟩
    cases hq : (depsA d.steps 0 d.steps)[i]?.getD [] with
    | nil => rfl
    | cons a b =>
      obtain ⟨y, _, _, hf⟩ := hd a (by rw [hq]; exact List.mem_cons_self)
      exact hf.elim
  have hA := never_start (rs := depsA d.steps 0 d.steps) hl0 hnum
  unfold drvD driveX
  rw [if_pos hc]
  obtain ⟨b, hbe⟩ : ∃ b : Nat, (boundI d).toNat = b := ⟨_, rfl⟩
  rw [hbe]
  have hbI : most ≤ (b : Int) := by omega
  have e0 : driveO d.steps (depsA d.steps 0 d.steps) [] (List.range (b + 1)) (beginO d.steps (depsA d.steps 0 d.steps)) = driveO d.steps (depsA d.steps 0 d.steps) [] ((List.range (b + 1)).drop (0 + 1)) (0, (beginO d.steps (depsA d.steps 0 d.steps)).2) := by
    have e1 : List.range (b + 1) = 0 :: (List.range (b + 1)).drop (0 + 1) := by
      have := List.drop_eq_getElem_cons (l := List.range (b + 1)) (i := 0) (by rw [List.length_range]; omega)
      rw [List.getElem_range, List.drop_zero] at this
      exact this
    have e2 : roundO d.steps (depsA d.steps 0 d.steps) [] ((0 : Nat) : Int) (beginO d.steps (depsA d.steps 0 d.steps)).2 = (beginO d.steps (depsA d.steps 0 d.steps)).2 := by
      unfold roundO tickO
      rw [saysAt_none, List.foldl_nil, if_neg (by decide)]
    have e3 : overB (beginO d.steps (depsA d.steps 0 d.steps)).2.1 = false := by
      unfold overB
      rw [show (beginO d.steps (depsA d.steps 0 d.steps)).2.1.status = 1 from hA.st]
      rfl
    conv => lhs; rw [e1]
    show (if overB (roundO d.steps (depsA d.steps 0 d.steps) [] ((0 : Nat) : Int) (beginO d.steps (depsA d.steps 0 d.steps)).2).1 = true then _ else driveO d.steps (depsA d.steps 0 d.steps) [] ((List.range (b + 1)).drop (0 + 1)) (((0 : Nat) : Int), roundO d.steps (depsA d.steps 0 d.steps) [] ((0 : Nat) : Int) (beginO d.steps (depsA d.steps 0 d.steps)).2)) = _
    rw [e2, e3, if_neg (by decide)]
    rfl
  rw [e0]
  exact never_go hbI (by omega) hl0 hnum hsp hroot most.toNat 0 0 (beginO d.steps (depsA d.steps 0 d.steps)).2 (by omega) (.inl hA)
end Go.Proofs.YtgfiogjfgbegpaaGreat

/-
  rescripttop.awakeSaga: contract.
-/
namespace Go.Proofs.YtgfiogjfgbegpaaGreat
open Go Go.RowKit Go.Maps Go.WideShapes

def sSa : StepD := ⟨{ data := #[97] }, { data := #[120] }, { data := #[117] }, [], 0, 0, 0, 5, zeroTA⟩
def sSb : StepD := ⟨{ data := #[98] }, { data := #[121] }, { data := #[118] }, [{ data := #[97] }], 0, 0, 0, 5, zeroTA⟩
def dSg : DefD := ⟨{ data := #[115] }, { data := #[] }, [sSa, sSb]⟩
theorem dSg_small : SmallD dSg := by
  have hz : SmallP 18 zeroTA := (small_of (by decide +kernel)).1
  refine ⟨by show ByteArray.size { data := #[115] } ≤ _; decide, by show ByteArray.size { data := #[] } ≤ _; decide, by show 2 ≤ 30; decide, fun s hs => ?_⟩
  rcases List.mem_cons.1 hs with rfl | hs
  · exact ⟨by decide, by decide, by decide, by decide, hz, fun a h => by cases h⟩
  · cases List.mem_singleton.1 hs
    exact ⟨by decide, by decide, by decide, by decide, hz, fun a h => by cases List.mem_singleton.1 h; decide⟩
theorem drvSg1 : drvD dSg [(1, 0, 1, false, 0), (2, 1, 1, false, 0)] = (3, 2, 2) := by decide +kernel
theorem drvSg2 : drvD dSg [(1, 0, 1, false, 0)] = (5, 11, 3) := by decide +kernel
theorem dSg_r {W : World} {g0 g : Nat} (h0 : W.heap[g0]? = some (.cells #[.string { data := #[97] }] 9 (0, 0))) (h : W.heap[g]? = some (.cells #[.string { data := #[97] }, .string { data := #[120] }, .string { data := #[117] }, .slice none 0 0, .int .i64 0, .int .i64 0, .int .i64 0, .int .i64 5, .int .u8 0, .string { data := #[] }, .slice none 0 0, .slice none 0 0, .int .i64 0, .string { data := #[98] }, .string { data := #[121] }, .string { data := #[118] }, .slice (some ⟨g0, 0, none⟩) 1 1, .int .i64 0, .int .i64 0, .int .i64 0, .int .i64 5, .int .u8 0, .string { data := #[] }, .slice none 0 0, .slice none 0 0, .int .i64 0] 47 (0, 0))) : DefR W [.string { data := #[115] }, .string { data := #[] }, .slice (some ⟨g, 0, none⟩) 2 2] dSg (some ⟨g, 0, none⟩) 2 := by
  refine ⟨rfl, by show ByteArray.size { data := #[115] } ≤ _; unfold maxLen; decide, Nat.zero_le _, [[.string { data := #[97] }, .string { data := #[120] }, .string { data := #[117] }, .slice none 0 0, .int .i64 0, .int .i64 0, .int .i64 0, .int .i64 5, .int .u8 0, .string { data := #[] }, .slice none 0 0, .slice none 0 0, .int .i64 0], [.string { data := #[98] }, .string { data := #[121] }, .string { data := #[118] }, .slice (some ⟨g0, 0, none⟩) 1 1, .int .i64 0, .int .i64 0, .int .i64 0, .int .i64 5, .int .u8 0, .string { data := #[] }, .slice none 0 0, .slice none 0 0, .int .i64 0]], rfl, rds_rowK 2 13 (l := [.string { data := #[97] }, .string { data := #[120] }, .string { data := #[117] }, .slice none 0 0, .int .i64 0, .int .i64 0, .int .i64 0, .int .i64 5, .int .u8 0, .string { data := #[] }, .slice none 0 0, .slice none 0 0, .int .i64 0, .string { data := #[98] }, .string { data := #[121] }, .string { data := #[118] }, .slice (some ⟨g0, 0, none⟩) 1 1, .int .i64 0, .int .i64 0, .int .i64 0, .int .i64 5, .int .u8 0, .string { data := #[] }, .slice none 0 0, .slice none 0 0, .int .i64 0]) h rfl (by decide), fun i r s hr hs => ?_⟩
  have hi : I64w 0 := by unfold I64w; decide
  have h5 : I64w 5 := by unfold I64w; decide
  rcases i with _ | _ | i
  · cases hr
    cases hs
    exact ⟨none, 0, none, 0, none, 0, rfl, ⟨by show ByteArray.size { data := #[97] } ≤ _; unfold maxLen; decide, by show ByteArray.size { data := #[120] } ≤ _; unfold maxLen; decide, by show ByteArray.size { data := #[117] } ≤ _; unfold maxLen; decide, (fun a h => by cases h), hi, hi, hi, h5⟩, ⟨rfl, none, 0, rfl, Nat.le_refl _, Nat.zero_le _, .inl rfl⟩, zeroTA_r W⟩
  · cases hr
    cases hs
    exact ⟨some ⟨g0, 0, none⟩, 1, none, 0, none, 0, rfl, ⟨by show ByteArray.size { data := #[98] } ≤ _; unfold maxLen; decide, by show ByteArray.size { data := #[121] } ≤ _; unfold maxLen; decide, by show ByteArray.size { data := #[118] } ≤ _; unfold maxLen; decide, (fun a h => by cases List.mem_singleton.1 h; show ByteArray.size { data := #[97] } ≤ _; unfold maxLen; decide), hi, hi, hi, h5⟩, rds_rowK 1 1 (l := [.string { data := #[97] }]) h0 rfl (by decide), zeroTA_r W⟩
  · cases hr
set_option maxRecDepth 100000 in
set_option maxHeartbeats 4000000 in
theorem awakeSaga_any (w : World) : Calls Tryz.prog 7 #[] w fun e w' => e = .returned (.bool true) ∧ Below w.heap.size w w' := by
  obtain ⟨hb3, hsz3, hf3⟩ := allocF [(.cells #[.string { data := #[97] }] 9), (.cells #[.string { data := #[97] }, .string { data := #[120] }, .string { data := #[117] }, .slice none 0 0, .int .i64 0, .int .i64 0, .int .i64 0, .int .i64 5, .int .u8 0, .string { data := #[] }, .slice none 0 0, .slice none 0 0, .int .i64 0, .string { data := #[98] }, .string { data := #[121] }, .string { data := #[118] }, .slice (some ⟨w.heap.size, 0, none⟩) 1 1, .int .i64 0, .int .i64 0, .int .i64 0, .int .i64 5, .int .u8 0, .string { data := #[] }, .slice none 0 0, .slice none 0 0, .int .i64 0] 47), (.cells #[.string { data := #[115] }, .string { data := #[] }, .slice (some ⟨w.heap.size + 1, 0, none⟩) 2 2] 24)] w
  have g0 := hf3 0 _ rfl
  have g1 := hf3 1 _ rfl
  have g2 := hf3 2 _ rfl
  have e0 : w.heap.size + 0 = w.heap.size := rfl
  simp only [List.foldl_cons, List.foldl_nil, List.length_cons, List.length_nil, Nat.reduceAdd] at hb3 hsz3 g0 g1 g2
  rw [e0] at g0
  clear hf3 e0
  go_enter Tryz.func7, Tryz.ntmps7
  go_upto_region 2 with fail
  generalize (((w.alloc (.cells #[.string { data := #[97] }] 9)).alloc (.cells #[.string { data := #[97] }, .string { data := #[120] }, .string { data := #[117] }, .slice none 0 0, .int .i64 0, .int .i64 0, .int .i64 0, .int .i64 5, .int .u8 0, .string { data := #[] }, .slice none 0 0, .slice none 0 0, .int .i64 0, .string { data := #[98] }, .string { data := #[121] }, .string { data := #[118] }, .slice (some ⟨w.heap.size, 0, none⟩) 1 1, .int .i64 0, .int .i64 0, .int .i64 0, .int .i64 5, .int .u8 0, .string { data := #[] }, .slice none 0 0, .slice none 0 0, .int .i64 0] 47)).alloc (.cells #[.string { data := #[115] }, .string { data := #[] }, .slice (some ⟨w.heap.size + 1, 0, none⟩) 2 2] 24)) = w3 at *
  have hb4 : Below w3.heap.size w3 (w3.alloc (.cells #[.int .i64 1, .int .i64 0, .int .i64 1, .bool false, .int .u8 0, .int .i64 2, .int .i64 1, .int .i64 1, .bool false, .int .u8 0] 32)) := (Below.refl _ _).alloc (Nat.le_refl _) _
  have g4 := World.alloc_heap_new w3 (.cells #[.int .i64 1, .int .i64 0, .int .i64 1, .bool false, .int .u8 0, .int .i64 2, .int .i64 1, .int .i64 1, .bool false, .int .u8 0] 32)
  have HDR := Lib.hid (Drive_any dSg _ _ _ [(1, 0, 1, false, 0), (2, 1, 1, false, 0)] (some ⟨w3.heap.size, 0, none⟩) 2 _ ((dSg_r g0 g1).below hb4) dSg_small (by decide) (fun x hx => by
    simp only [List.mem_cons, List.not_mem_nil, or_false] at hx
    rcases hx with rfl | rfl <;> (unfold I64w; decide)) (rds_rowK 2 5 (l := [.int .i64 1, .int .i64 0, .int .i64 1, .bool false, .int .u8 0, .int .i64 2, .int .i64 1, .int .i64 1, .bool false, .int .u8 0]) g4 rfl (by decide)))
  rw [drvSg1] at HDR
  obtain ⟨p0, p1, p2, -, -, -⟩ := cells3h g2
  have HB := Lib.hid hb3
  have HB4 := Lib.hid hb4
  have HG0 := Lib.hid g0
  have HG1 := Lib.hid g1
  have HG2 := Lib.hid g2
  have HSZ := Lib.hid hsz3
  clear hb3 hb4 g0 g1 g2 g4 hsz3
  go_wp2_with fail
  refine HDR.out.mono ?_
  rintro e w5 ⟨rfl, hb5⟩
  have hl2 := HSZ.out
  have hb35 : Below w3.heap.size w3 w5 := HB4.out.trans (hb5.mono HB4.out.size)
  have hg0 := (hb35.block _ (by omega)).trans HG0.out
  have hg1 := (hb35.block _ (by omega)).trans HG1.out
  have hg2 := (hb35.block _ (by omega)).trans HG2.out
  have HB5 := Lib.hid (bthen HB.out (by omega) hb35)
  clear p0 p1 p2 hb5 hb35 HDR HB4 hl2
  obtain ⟨p0, p1, p2, -, -, -⟩ := cells3h hg2
  have hb6 : Below w5.heap.size w5 (w5.alloc (.cells #[.int .i64 1, .int .i64 0, .int .i64 1, .bool false, .int .u8 0] 32)) := (Below.refl _ _).alloc (Nat.le_refl _) _
  have g6 := World.alloc_heap_new w5 (.cells #[.int .i64 1, .int .i64 0, .int .i64 1, .bool false, .int .u8 0] 32)
  have HDR := Lib.hid (Drive_any dSg _ _ _ [(1, 0, 1, false, 0)] (some ⟨w5.heap.size, 0, none⟩) 1 _ ((dSg_r hg0 hg1).below hb6) dSg_small (by decide) (fun x hx => by
    cases List.mem_singleton.1 hx
    unfold I64w
    decide) (rds_rowK 1 5 (l := [.int .i64 1, .int .i64 0, .int .i64 1, .bool false, .int .u8 0]) g6 rfl (by decide)))
  rw [drvSg2] at HDR
  have HB6 := Lib.hid hb6
  clear hg0 hg1 hg2 hb6 g6
  go_wp2_with fail
  refine HDR.out.mono ?_
  rintro e w7 ⟨rfl, hb7⟩
  have HB7 := Lib.hid ((HB5.out.trans ((HB6.out.trans (hb7.mono HB6.out.size)).mono HB5.out.size)))
  clear p0 p1 p2 hb7 HDR
  go_wp2_with fail
  go_ret
  exact ⟨rfl, HB7.out⟩
end Go.Proofs.YtgfiogjfgbegpaaGreat

/-
  WholeNever: the law's walk.
-/
namespace Go.Proofs.YtgfiogjfgbegpaaGreat
open Go Go.RowKit Go.Maps Go.WideShapes

def nevL (l : List StepD) (rs : List (List Int)) : Nat → Int × Int
  | 0 => (-1, 0)
  | j + 1 => if rs[j]?.getD [] = [] then (if (nevL l rs j).1 < 0 ∨ spanS (l[j]?.getD default) < (nevL l rs j).1 then spanS (l[j]?.getD default) else (nevL l rs j).1, max (nevL l rs j).2 (spanS (l[j]?.getD default))) else nevL l rs j
theorem nevL_fact (l : List StepD) (rs : List (List Int)) : ∀ j : Nat, (-1 ≤ (nevL l rs j).1 ∧ (nevL l rs j).1 ≤ 1000000 ∧ 0 ≤ (nevL l rs j).2 ∧ (nevL l rs j).2 ≤ spansTo l j) ∧ ∀ i : Nat, i < j → rs[i]?.getD [] = [] → 0 ≤ (nevL l rs j).1 ∧ (nevL l rs j).1 ≤ spanS (l[i]?.getD default) ∧ spanS (l[i]?.getD default) ≤ (nevL l rs j).2
  | 0 => ⟨⟨by show (-1 : Int) ≤ -1; decide, by show (-1 : Int) ≤ 1000000; decide, by show (0 : Int) ≤ 0; decide, by show (0 : Int) ≤ 0; decide⟩, fun i hi => absurd hi (Nat.not_lt_zero i)⟩
  | j + 1 => by
    obtain ⟨⟨h1, h2, h3, h4⟩, h5⟩ := nevL_fact l rs j
    have hs := spanS_range (l[j]?.getD default)
    have hst : spansTo l (j + 1) = spansTo l j + spanS (l[j]?.getD default) := rfl
    unfold nevL
    by_cases hr : rs[j]?.getD [] = []
    · rw [if_pos hr]
      by_cases hc : (nevL l rs j).1 < 0 ∨ spanS (l[j]?.getD default) < (nevL l rs j).1
      · rw [if_pos hc]
        dsimp only
        refine ⟨⟨by omega, by omega, by omega, by omega⟩, fun i hi hri => ?_⟩
        rcases Nat.lt_succ_iff_lt_or_eq.1 hi with h | rfl
        · have := h5 i h hri
          omega
        · omega
      · rw [if_neg hc]
        dsimp only
        refine ⟨⟨by omega, by omega, by omega, by omega⟩, fun i hi hri => ?_⟩
        rcases Nat.lt_succ_iff_lt_or_eq.1 hi with h | rfl
        · have := h5 i h hri
          omega
        · omega
    · rw [if_neg hr]
      refine ⟨⟨h1, h2, h3, by omega⟩, fun i hi hri => ?_⟩
      rcases Nat.lt_succ_iff_lt_or_eq.1 hi with h | rfl
      · exact h5 i h hri
      · exact absurd hri hr
set_option maxRecDepth 100000 in
set_option maxHeartbeats 4000000 in
theorem WholeNever_any (d : DefD) (sa : Option Addr) (sc : Nat) (w : World) (h : DefR w [.string d.name, .string d.text, .slice sa d.steps.length sc] d sa sc) :
    Calls Tryz.prog 4 #[.agg #[.string d.name, .string d.text, .slice sa d.steps.length sc]] w fun e w' => e = .returned (.bool true) ∧ Below w.heap.size w w' := by
  have hmx := @run_max2 Tryz.prog
  have hb0 := (Below.refl w.heap.size w).alloc (Nat.le_refl _) (.cells #[.string d.name, .string d.text, .slice sa d.steps.length sc] 24)
  have HD := Lib.hid (h.below hb0)
  have HG := Lib.hid (World.alloc_heap_new w (.cells #[.string d.name, .string d.text, .slice sa d.steps.length sc] 24))
  clear h
  go_enter Tryz.func4, Tryz.ntmps4
  go_upto_region 1 with fail
  generalize (w.alloc (.cells #[.string d.name, .string d.text, .slice sa d.steps.length sc] 24)) = w0 at *
  have HB0 := Lib.hid hb0
  have hlt := (Array.getElem?_eq_some_iff.1 HG.out).1
  clear hb0
  go_wp2_with fail
  refine (awakeSaga_any _).mono ?_
  rintro e w1 ⟨rfl, hb1⟩
  have HB1 := Lib.hid (bthen HB0.out (Nat.le_refl _) hb1)
  have HD1 := Lib.hid (HD.out.below hb1)
  have HG1 := Lib.hid ((hb1.block _ hlt).trans HG.out)
  obtain ⟨q0, q1, q2, -, -, -⟩ := cells3h HG1.out
  clear hb1
  go_wp2_with fail
  refine (rdSmall_any d _ _ _ w1 HD1.out).mono ?_
  rintro e w2 ⟨rfl, hb2⟩
  clear q0 q1 q2
  have HB2 := Lib.hid (bthen HB1.out (Nat.le_refl _) hb2)
  have HD2 := Lib.hid (HD1.out.below hb2)
  have hlt1 := (Array.getElem?_eq_some_iff.1 HG1.out).1
  have HG2 := Lib.hid ((hb2.block _ hlt1).trans HG1.out)
  obtain ⟨q0, q1, q2, -, -, -⟩ := cells3h HG2.out
  clear hb2
  rcases hsm : smallDef d with _ | _
  · clear hsm
    go_wp2
    go_ret
    exact ⟨rfl, HB2.out⟩
  have HSM := Lib.hid (smallDef_of hsm)
  clear hsm
  go_wp2_with fail
  refine (Clean_any d _ _ _ w2 HD2.out HSM.out).mono ?_
  rintro e w3 ⟨rfl, hb3⟩
  clear q0 q1 q2
  have HB3 := Lib.hid (bthen HB2.out (Nat.le_refl _) hb3)
  have HD3 := Lib.hid (HD2.out.below hb3)
  have hlt2 := (Array.getElem?_eq_some_iff.1 HG2.out).1
  have HG3 := Lib.hid ((hb3.block _ hlt2).trans HG2.out)
  obtain ⟨q0, q1, q2, -, -, -⟩ := cells3h HG3.out
  clear hb3
  rcases hcl : cleanB d with _ | _
  · clear hcl
    go_wp2
    go_ret
    exact ⟨rfl, HB3.out⟩
  have HCL := Lib.hid hcl
  clear hcl
  have hbr := boundI_range HSM.out
  have HBE : Hid (2 * spansTo d.steps d.steps.length = boundI d) := Lib.hid rfl
  go_wp2_with fail
  refine (rBound_any d _ _ _ w3 HD3.out HSM.out).mono ?_
  rintro e w4 ⟨rfl, hb4⟩
  clear q0 q1 q2
  have HB4 := Lib.hid (bthen HB3.out (Nat.le_refl _) hb4)
  have HD4 := Lib.hid (HD3.out.below hb4)
  have hlt3 := (Array.getElem?_eq_some_iff.1 HG3.out).1
  have HG4 := Lib.hid ((hb4.block _ hlt3).trans HG3.out)
  obtain ⟨q0, q1, q2, -, -, -⟩ := cells3h HG4.out
  clear hb4
  have HBD : Hid (∀ N, boundI d = N → ¬ 3000 < N → boundI d ≤ 3000) := Lib.hid (fun N e h => by omega)
  generalize hN : boundI d = N at *
  by_cases hbd : 3000 < N
  · have d2 : decide ((3000 : Int) < N) = true := decide_eq_true hbd
    clear hN
    go_wp2_with fail
    go_ret
    exact ⟨rfl, HB4.out⟩
  have d2 : decide ((3000 : Int) < N) = false := decide_eq_false hbd
  have HN3 : Hid (boundI d ≤ 3000 ∧ 2 * spansTo d.steps d.steps.length ≤ 3000) := Lib.hid ⟨by omega, by have := HBE.out; omega⟩
  clear hN HBD
  have hn30 := HSM.out.steps
  go_wp2_with fail
  refine (nRefs_any d _ _ _ w4 HD4.out (by omega) (by have := refs_few HSM.out; omega)).mono ?_
  rintro e w5 ⟨v, rfl, hrw, hb5⟩
  clear q0 q1 q2 d2 hbd hbr
  have HB5 := Lib.hid (bthen HB4.out (Nat.le_refl _) hb5)
  have HD5 := Lib.hid (HD4.out.below hb5)
  have hlt4 := (Array.getElem?_eq_some_iff.1 HG4.out).1
  have HG5 := Lib.hid ((hb5.block _ hlt4).trans HG4.out)
  have hlr : (depsA d.steps 0 d.steps).length = d.steps.length := depsA_len _ _ _
  obtain ⟨ra, rc, rfl⟩ : ∃ ra rc, v = .slice ra d.steps.length rc := by
    obtain ⟨cs, h1, -⟩ := hrw
    obtain ⟨ra, rc, e⟩ := h1.form
    exact ⟨ra, rc, by rw [e, hlr]⟩
  have HRW : Hid (Rows2 w5 (.slice ra (depsA d.steps 0 d.steps).length rc) (depsA d.steps 0 d.steps)) := Lib.hid (by rw [hlr]; exact hrw)
  have HLR := Lib.hid hlr
  clear hb5 hrw hlr
  have hlt5 := (Array.getElem?_eq_some_iff.1 HG5.out).1
  go_wp2_with fail
  go_loopg [4, 5, 6] (d.steps.length + 1) (fun gk le mo i wi => ∃ (j : Nat), j + gk = d.steps.length + 1 ∧ j ≤ d.steps.length ∧ i = .int .i64 j ∧ le = .int .i64 (nevL d.steps (depsA d.steps 0 d.steps) j).1 ∧ mo = .int .i64 (nevL d.steps (depsA d.steps 0 d.steps) j).2 ∧ Hid (Below w5.heap.size w5 wi))
  case atStart => exact ⟨0, by omega, by omega, rfl, rfl, rfl, Lib.hid (Below.refl _ _)⟩
  case round =>
    obtain ⟨j, hgk, hj, rfl, rfl, rfl, HB⟩ := hrel
    have hg : gk = d.steps.length + 1 - j := by omega
    subst hg
    obtain ⟨p0, p1, p2, -, -, -⟩ := cells3h ((HB.out.block _ hlt5).trans HG5.out)
    have hnf := (nevL_fact d.steps (depsA d.steps 0 d.steps) j).1
    have hst := spansTo_range d.steps j
    by_cases hjl : j < d.steps.length
    · have d1 : decide ((j : Int) < (d.steps.length : Int)) = true := decide_eq_true (by omega)
      have hj1 : (j : Int) < (d.steps.length : Int) := by omega
      have hj0 : (0 : Int) ≤ (j : Int) := by omega
      obtain ⟨rg, roff, ra2, rc2, rfl, hrc1, hrc2, hrcell, -⟩ := (HRW.out.below HB.out).at (i := j) (by rw [HLR.out]; exact hjl)
      rw [HLR.out] at hrc1
      have HSUC : Hid (nevL d.steps (depsA d.steps 0 d.steps) (j + 1) = if (depsA d.steps 0 d.steps)[j]?.getD [] = [] then (if (nevL d.steps (depsA d.steps 0 d.steps) j).1 < 0 ∨ spanI d.steps[j].most d.steps[j].first d.steps[j].factor d.steps[j].limit < (nevL d.steps (depsA d.steps 0 d.steps) j).1 then spanI d.steps[j].most d.steps[j].first d.steps[j].factor d.steps[j].limit else (nevL d.steps (depsA d.steps 0 d.steps) j).1, max (nevL d.steps (depsA d.steps 0 d.steps) j).2 (spanI d.steps[j].most d.steps[j].first d.steps[j].factor d.steps[j].limit)) else nevL d.steps (depsA d.steps 0 d.steps) j) := Lib.hid (by
        show (if _ then _ else _) = _
        rw [List.getElem?_eq_getElem hjl]
        rfl)
      have hgr : (depsA d.steps 0 d.steps)[j]?.getD [] = (depsA d.steps 0 d.steps)[j]'(by rw [HLR.out]; exact hjl) := by rw [List.getElem?_eq_getElem (by rw [HLR.out]; exact hjl)]; rfl
      rw [hgr] at HSUC
      clear hgr
      generalize (depsA d.steps 0 d.steps)[j]'(by rw [HLR.out]; exact hjl) = row at *
      generalize hle : nevL d.steps (depsA d.steps 0 d.steps) j = pq at *
      obtain ⟨le, mo⟩ := pq
      (try dsimp only at *)
      by_cases hrow : row = []
      · subst hrow
        rw [if_pos rfl] at HSUC
        have hsp := spanS_range d.steps[j]
        unfold spanS at hsp
        obtain ⟨g, off, cap, aa, ac, ka, kc, ba, bc, he, hcl, hcu, hstx, hat⟩ := (HD5.out.steps.below HB.out).at hjl
        cases he
        obtain ⟨z0, z1, z2, z3, z4, z5, z6, z7, z8, z9, z10, z11, z12⟩ := hat
        have hspan := fun w => Span_any d.steps[j].name d.steps[j].action d.steps[j].undo aa d.steps[j].after.length ac d.steps[j].most d.steps[j].first d.steps[j].factor d.steps[j].limit (d.steps[j].note.kind : Int) d.steps[j].note.text ka d.steps[j].note.keys.length kc ba d.steps[j].note.kids.length bc d.steps[j].note.line w
        unfold stepV at hspan
        have HSPAN := Lib.hid hspan
        clear hspan hstx hle
        go_wp2_with fail
        refine (HSPAN.out _).mono ?_
        rintro e w6 ⟨rfl, hb6⟩
        have HB6 := Lib.hid (bthen HB.out (Nat.le_refl _) hb6)
        clear hb6 z0 z1 z2 z3 z4 z5 z6 z7 z8 z9 z10 z11 z12 p0 p1 p2 hrcell HSPAN
        generalize spanI d.steps[j].most d.steps[j].first d.steps[j].factor d.steps[j].limit = sp at *
        by_cases h1 : le < 0
        · have d3 : decide (le < (0 : Int)) = true := decide_eq_true h1
          rw [if_pos (.inl h1)] at HSUC
          go_wp2_with fail
          go_roundg (d.steps.length + 1 - (j + 1))
          case measure => omega
          case rel => exact ⟨j + 1, by omega, by omega, by go_num, by rw [HSUC.out], by rw [HSUC.out], HB6⟩
        · have d3 : decide (le < (0 : Int)) = false := decide_eq_false h1
          by_cases h2 : sp < le
          · have d4 : decide (sp < le) = true := decide_eq_true h2
            rw [if_pos (.inr h2)] at HSUC
            go_wp2_with fail
            go_roundg (d.steps.length + 1 - (j + 1))
            case measure => omega
            case rel => exact ⟨j + 1, by omega, by omega, by go_num, by rw [HSUC.out], by rw [HSUC.out], HB6⟩
          · have d4 : decide (sp < le) = false := decide_eq_false h2
            rw [if_neg (fun e => e.elim h1 h2)] at HSUC
            go_wp2_with fail
            go_roundg (d.steps.length + 1 - (j + 1))
            case measure => omega
            case rel => exact ⟨j + 1, by omega, by omega, by go_num, by rw [HSUC.out], by rw [HSUC.out], HB6⟩
      · rw [if_neg hrow] at HSUC
        have hpos : 0 < row.length := List.length_pos_iff.2 hrow
        have d2 : decide ((0 : Int) < (row.length : Int)) = true := decide_eq_true (by omega)
        clear hle
        go_wp2_with fail
        go_roundg (d.steps.length + 1 - (j + 1))
        case measure => omega
        case rel => exact ⟨j + 1, by omega, by omega, by go_num, by rw [HSUC.out], by rw [HSUC.out], HB⟩
    · have d1 : decide ((j : Int) < (d.steps.length : Int)) = false := decide_eq_false (by omega)
      have hj1 : ¬ (j : Int) < (d.steps.length : Int) := by omega
      obtain rfl : j = d.steps.length := by omega
      have H1 := Lib.hid (Drive_any d _ _ _ [] none 0 wr (HD5.out.below HB.out) HSM.out (by decide) (fun x hx => by cases hx) ⟨rfl, none, 0, rfl, Nat.le_refl _, Nat.zero_le _, .inl rfl⟩)
      have hv := never_drv (d := d) (least := (nevL d.steps (depsA d.steps 0 d.steps) d.steps.length).1) (most := (nevL d.steps (depsA d.steps 0 d.steps) d.steps.length).2) HCL.out HN3.out.1 (by have h1 := (nevL_fact d.steps (depsA d.steps 0 d.steps) d.steps.length).1.2.2.2; have h2 := spansTo_range d.steps d.steps.length; unfold boundI; omega) (fun i hi hr => ((nevL_fact d.steps (depsA d.steps 0 d.steps) d.steps.length).2 i hi hr).2)
      generalize drvD d [] = rr at *
      obtain ⟨r1, r2, r3⟩ := rr
      obtain ⟨h4, h5, h6⟩ := hv
      (try dsimp only at h4 h5 h6)
      subst h4
      generalize (nevL d.steps (depsA d.steps 0 d.steps) d.steps.length).1 = le at *
      generalize (nevL d.steps (depsA d.steps 0 d.steps) d.steps.length).2 = mo at *
      have d3 : decide (le ≤ r2) = true := decide_eq_true h5
      have d4 : decide (r2 ≤ mo) = true := decide_eq_true h6
      go_wp2_with fail
      refine H1.out.mono ?_
      rintro e w7 ⟨rfl, hb7⟩
      have HB7 := Lib.hid (HB5.out.trans ((bthen HB.out (Nat.le_refl _) hb7).mono HB5.out.size))
      clear hb7 p0 p1 p2
      go_wp2_with fail
      go_ret
      exact ⟨rfl, HB7.out⟩
end Go.Proofs.YtgfiogjfgbegpaaGreat
