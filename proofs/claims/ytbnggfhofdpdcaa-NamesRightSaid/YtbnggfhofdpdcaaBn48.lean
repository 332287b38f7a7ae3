/-
  names.Check: what its second loop keeps.
-/
import Derived.Test.YtbnggfhofdpdcaaBn46
import Derived.Test.YtbnggfhofdpdcaaBn47
namespace Go.Proofs.Ytbnggfhofdpdcaa
open Go.RowKit Go.WideShapes Go.Maps

theorem stepN_len (all : List StepD) (i : Nat) (s : StepD) (l : List DiagD) : (stepN all i s l).length ≤ l.length + 4 := by
  unfold stepN
  refine Nat.le_trans (noteL_len _ _ _) ?_
  refine Nat.succ_le_succ (Nat.le_trans (noteL_len _ _ _) ?_)
  refine Nat.succ_le_succ (Nat.le_trans (noteL_len _ _ _) ?_)
  exact Nat.succ_le_succ (noteL_len _ _ _)
theorem stepsN_len (all : List StepD) : ∀ (r : List StepD) (i : Nat) (l : List DiagD), (stepsN all i r l).length ≤ l.length + 4 * r.length
  | [], i, l => by simp [stepsN]
  | s :: r, i, l => by
    rw [stepsN, List.length_cons]
    have := stepsN_len all r (i + 1) (stepN all i s l)
    have := stepN_len all i s l
    omega
theorem stepsN_snoc (all : List StepD) (s : StepD) : ∀ (r : List StepD) (i : Nat) (l : List DiagD), stepsN all i (r ++ [s]) l = stepN all (i + r.length) s (stepsN all i r l)
  | [], i, l => rfl
  | t :: r, i, l => by
    rw [List.cons_append, stepsN, stepsN_snoc all s r (i + 1) _, stepsN, List.length_cons, show i + 1 + r.length = i + (r.length + 1) by omega]
theorem refN_len (all : List StepD) (pre : List RefD) (r : RefD) (l : List DiagD) : (refN all pre r l).length ≤ l.length + 3 := by
  unfold refN
  refine Nat.le_trans (noteL_len _ _ _) ?_
  refine Nat.succ_le_succ (Nat.le_trans (noteL_len _ _ _) ?_)
  exact Nat.succ_le_succ (noteL_len _ _ _)
theorem refsN_len (all : List StepD) : ∀ (r pre : List RefD) (l : List DiagD), (refsN all pre r l).length ≤ l.length + 3 * r.length
  | [], pre, l => by simp [refsN]
  | s :: r, pre, l => by
    rw [refsN, List.length_cons]
    have := refsN_len all r (pre ++ [s]) (refN all pre s l)
    have := refN_len all pre s l
    omega
theorem headN_len (d : DefD) : (headN d).length ≤ 2 := by
  unfold headN
  exact Nat.le_trans (noteL_len _ _ _) (Nat.succ_le_succ (noteL_len _ _ _))
theorem idxStep_get (n : ByteArray) : ∀ (l : List StepD) (i k : Nat) (hk : k < l.length), l[k].name = n → 0 ≤ idxStep l n i
  | a :: l, i, 0, _, h => by
    have h' : a.name = n := h
    rw [idxStep, if_pos h']; omega
  | a :: l, i, k + 1, hk, h => by
    rw [idxStep]
    split
    · omega
    · exact idxStep_get n l (i + 1) k (by simpa using hk) (by simpa using h)
theorem plN_get {l : List StepD} {k : Nat} (hk : k < l.length) : (plN l l[k].name).getD 0 = idxStep l l[k].name 0 := by
  unfold plN
  rw [if_pos (idxStep_get _ l 0 k hk rfl)]
  rfl
/-- What lies at names.Check: the list behind its box, the note's box, the definition's box. -/
structure StW (w0 W : World) (b : Nat) (dc : Array Value) (nf : Value) (va : Option Addr) (vc : Nat) (l : List DiagD) : Prop where
  out : OutG W (b + 1) va vc l
  note : W.heap[b + 1 + 1]? = some (.cells #[nf] 122 (0, 0))
  dfb : W.heap[b]? = some (.cells dc 24 (0, 0))
  low : Below b w0 W
theorem StW.drew {w0 W : World} {b vc : Nat} {dc : Array Value} {nf : Value} {va : Option Addr} {l : List DiagD} (h : StW w0 W b dc nf va vc l) : StW w0 W.drew b dc nf va vc l := ⟨h.out.below ((Below.refl _ _).drew), h.note, h.dfb, h.low.drew⟩
theorem StW.below {w0 W W' : World} {b vc : Nat} {dc : Array Value} {nf : Value} {va : Option Addr} {l : List DiagD} (h : StW w0 W b dc nf va vc l) (hb : Below W.heap.size W W') : StW w0 W' b dc nf va vc l :=
  ⟨h.out.below hb, (hb.block _ (Array.getElem?_eq_some_iff.1 h.note).1).trans h.note, (hb.block _ (Array.getElem?_eq_some_iff.1 h.dfb).1).trans h.dfb, h.low.trans (hb.mono (Nat.le_of_lt (Array.getElem?_eq_some_iff.1 h.dfb).1))⟩
theorem StW.nlt {w0 W : World} {b vc : Nat} {dc : Array Value} {nf : Value} {va : Option Addr} {l : List DiagD} (h : StW w0 W b dc nf va vc l) : b + 1 + 1 < W.heap.size := (Array.getElem?_eq_some_iff.1 h.note).1
theorem StW.ncell {w0 W : World} {b vc : Nat} {dc : Array Value} {nf : Value} {va : Option Addr} {l : List DiagD} (h : StW w0 W b dc nf va vc l) : W.cell? ⟨b + 1 + 1, 0, none⟩ = some nf := Boxed.cell (t := 122) h.note
/-- A note leaves all else. -/
theorem StW.noted {w0 W w' : World} {b vc : Nat} {dc : Array Value} {nf : Value} {va : Option Addr} {l l' : List DiagD} (h : StW w0 W b dc nf va vc l) (hn : Noted W w' (b + 1) va vc l' l) :
    ∃ va' vc', StW w0 w' b dc nf va' vc' l' ∧ Below (b + 1) W w' ∧ (∀ q, q < W.heap.size → (Value.slice va l.length vc).ownBlock ≠ some q → (Value.slice va' l'.length vc').ownBlock ≠ some q) ∧ (∀ q, q < W.heap.size → q ≠ b + 1 → (Value.slice va l.length vc).ownBlock ≠ some q → w'.heap[q]? = W.heap[q]?) ∧
      (∀ (q : Nat) (c : Array Value) (t : TypeId) (fr : Nat × Nat), W.heap[q]? = some (.cells c t fr) → t ≠ 61 → q ≠ b + 1 → w'.heap[q]? = some (.cells c t fr)) := by
  obtain ⟨va', vc', h1, h2, h3, h4⟩ := hn
  have key : ∀ (q : Nat) (c : Array Value) (t : TypeId) (fr : Nat × Nat), W.heap[q]? = some (.cells c t fr) → t ≠ 61 → q ≠ b + 1 → w'.heap[q]? = some (.cells c t fr) :=
    fun q c t fr hq ht hqb => h3 q _ hq hqb (h.out.own.ne hq ht)
  refine ⟨va', vc', ⟨h1, key _ _ _ _ h.note (by decide) (by omega), key _ _ _ _ h.dfb (by decide) (by omega), h.low.trans (h2.mono (by omega))⟩, h2, h4, fun q hq hqb hqo => ?_, key⟩
  have e := Array.getElem?_eq_getElem hq
  rw [h3 q _ e hqb hqo, e]
theorem StW.map {w0 W w' : World} {b vc : Nat} {dc : Array Value} {nf : Value} {va : Option Addr} {l : List DiagD} (h : StW w0 W b dc nf va vc l) (hs : ∀ q, q < W.heap.size → q ≠ b + 1 → (Value.slice va l.length vc).ownBlock ≠ some q → w'.heap[q]? = W.heap[q]?) {κ : Type} {enc : κ → Value} {P : Program} {k e n M : Nat} {g : κ → Option Int} (hm : MapO P k e enc W M n g) : MapO P k e enc w' M n g :=
  hm.block (hs M hm.lt (fun e => hm.ne (h.out.box) e.symm) (h.out.own.nemap hm))

/-- A step of an iterator's. -/
theorem MapO.step {n0 : Nat} {S S' : Nat → Prop} {W W' : World} {P : Program} {k e : TypeId} {κ : Type} {enc : κ → Value} {b n : Nat} {g : κ → Option Int} (h : Step n0 S S' W W') (hm : MapO P k e enc W b n g) (hS : ¬ S b) : MapO P k e enc W' b n g ∧ ¬ S' b :=
  ⟨hm.block (h.same b hm.lt hS), fun hs' => by rcases h.new b hs' with h1 | ⟨h1, _⟩; exact hS h1; have := hm.lt; omega⟩
/-- What lies between two rounds of the second loop. -/
structure NkJ (w0 : World) (b R : Nat) (dc : Array Value) (nf : Value) (all : List StepD) (l0 : List DiagD) (S : Nat → Prop) (pre : List RefD) (W : World) (va : Option Addr) (vc nM : Nat) : Prop where
  st : StW w0 W b dc nf va vc (refsN all [] pre l0)
  map : MapO Try.prog 131 3 aggO W R nM (cntI (pre.map keyR))
  few : nM ≤ pre.length
  mbox : Boxed W (R + 1) 125 (.map (some R))
  o1 : ¬ S (b + 1)
  o2 : ¬ S (b + 1 + 1)
  o3 : ¬ S R
  o4 : ¬ S (R + 1)
  o5 : ∀ g, (Value.slice va (refsN all [] pre l0).length vc).ownBlock = some g → ¬ S g
def nkJ (w0 : World) (b R : Nat) (dc : Array Value) (nf : Value) (all : List StepD) (l0 : List DiagD) : (Nat → Prop) → List RefD → World → Prop := fun S pre W => ∃ va vc nM, NkJ w0 b R dc nf all l0 S pre W va vc nM
theorem nkJ_step (w0 : World) (b R : Nat) (dc : Array Value) (nf : Value) (all : List StepD) (l0 : List DiagD) : Stable (b + 1) (nkJ w0 b R dc nf all l0) := by
  rintro S S' s W W' hS ⟨va, vc, nM, h⟩ hs
  obtain ⟨k1, k2⟩ := hs.boxed h.st.out.box h.o1
  obtain ⟨k3, k4⟩ := hs.owns h.st.out.own h.o5
  obtain ⟨k5, k6⟩ := hs.boxed (B := b + 1 + 1) h.st.note h.o2
  obtain ⟨k7, k8⟩ := MapO.step hs h.map h.o3
  obtain ⟨k9, k10⟩ := hs.boxed h.mbox h.o4
  exact ⟨va, vc, nM, ⟨⟨k1, k3⟩, k5, (hs.below.block b (Nat.lt_succ_self b)).trans h.st.dfb, h.st.low.trans (hs.below.mono (Nat.le_succ b))⟩, k7, h.few, k9, k2, k6, k8, k10, k4⟩
/-- A note behind a round's block: all that the loop keeps, and the iterator's blocks. -/
theorem NkN {w0 W w' : World} {b R T nM vc : Nat} {dc : Array Value} {nf : Value} {va : Option Addr} {l l' : List DiagD} {S : Nat → Prop} {g : Nat × ByteArray → Option Int} {tc : Array Value} {tt : TypeId} {n0 : Nat}
    (h : StW w0 W b dc nf va vc l) (hm : MapO Try.prog 131 3 aggO W R nM g) (hx : Boxed W (R + 1) 125 (.map (some R))) (hT : W.heap[T]? = some (.cells tc tt (0, 0))) (htt : tt ≠ 61) (hTb : T ≠ b + 1) (hRb : R + 1 ≠ b + 1)
    (hS : ∀ k, S k → n0 ≤ k ∧ k < W.heap.size) (h1 : ¬ S (b + 1)) (h5 : ∀ g, (Value.slice va l.length vc).ownBlock = some g → ¬ S g) (hn0 : n0 ≤ b + 1) (hn : Noted W w' (b + 1) va vc l' l) :
    ∃ va' vc', StW w0 w' b dc nf va' vc' l' ∧ MapO Try.prog 131 3 aggO w' R nM g ∧ Boxed w' (R + 1) 125 (.map (some R)) ∧ w'.heap[T]? = some (.cells tc tt (0, 0)) ∧ (∀ g, (Value.slice va' l'.length vc').ownBlock = some g → ¬ S g) ∧ Keep n0 S W w' ∧ Below (b + 1) W w' := by
  obtain ⟨va', vc', k1, k2, k3, k4, k5⟩ := h.noted hn
  refine ⟨va', vc', k1, h.map k4 hm, k5 _ _ _ _ hx (by decide) hRb, k5 _ _ _ _ hT htt hTb, fun g hg hs => ?_, ⟨k2.mono hn0, fun q hq => ?_⟩, k2⟩
  · have hlt := (hS g hs).2
    by_cases e : (Value.slice va l.length vc).ownBlock = some g
    · exact h5 g e hs
    · exact k3 g hlt e hg
  · exact k4 q (hS q hq).2 (fun e => h1 (e ▸ hq)) (fun e => h5 q e hq)
/-- A loop over a function whose variable lies in a box: the frame of a round is a function of the element and of the box. -/
theorem wpIn_rfB {P : Program} {α : Type} {g : Operand} {ps : Array Tmp} {assign body : Code} {Q : Exit → Act → World → Prop} {a : Act} {w : World}
    {gf : Nat} {lb : Array Value} (hg : a.eval g = .func (.func gf) #[] lb) (eg : ∀ args w, (callFunc gf args).run P w = .ok (.enter gf args) w)
    {encs : α → Array Value} {xs : List α} {n0 : Nat} {S0 : Nat → Prop} {fin : Prop} (hit : IterAt P n0 gf lb encs xs fin S0 w)
    (hn0 : n0 ≤ w.heap.size) (hS0 : ∀ k, S0 k → n0 ≤ k ∧ k < w.heap.size) (hps : ∀ x, (encs x).size = ps.size)
    (J : (Nat → Prop) → List α → World → Prop) (Jx : Code → (Nat → Prop) → List α → World → Prop) (hfin : ¬ fin → ∀ S W, ¬ J S xs W) (hJ : Stable n0 J) (hJx : ∀ c, Stable n0 (Jx c)) (h0 : J S0 [] w)
    (F : α → Nat → Act) (cs : α → Array Value) (t : TypeId)
    (hassign : ∀ (l : Nat) (S : Nat → Prop) (pre : List α) (x : α) (W : World) (K : Act → World → Prop), (∀ k, S k → n0 ≤ k ∧ k < W.heap.size) → w.heap.size ≤ W.heap.size → J S pre W → (∀ b W', Keep n0 S W W' → J S pre W' → W'.heap[b]? = some (.cells (cs x) t (0, 0)) → K (F x b) W') →
      assign.wpIn (Fence.wide.inRound l) 0 P (Exit.then K (fun _ _ _ => False)) { tmps := (ps.zip (encs x)).foldl (fun t (p, v) => t.setIfInBounds p v) a.tmps, defers := [] } W)
    (hbody : ∀ (l : Nat) (S : Nat → Prop) (pre : List α) (x : α) (b : Nat) (W : World), (∀ k, S k → n0 ≤ k ∧ k < W.heap.size) → w.heap.size ≤ W.heap.size → S l → (∃ r, W.heap[l]? = some (.loop r)) → J S pre W → W.heap[b]? = some (.cells (cs x) t (0, 0)) → pre ++ [x] <+: xs →
      body.wpIn (Fence.wide.inRound l) 0 P (rfPost n0 S J Jx (pre ++ [x]) W) (F x b) W)
    (hdone : ∀ (D : Nat) (S : Nat → Prop) (W : World), w.heap.size ≤ D → (∀ k, S k → n0 ≤ k ∧ k < W.heap.size) → S D → J S xs W → W.heap[D]? = some (.deferred (some [])) → Q .normal { a with defers := { target := .collected D, args := #[] } :: a.defers } W)
    (hstop : ∀ (D : Nat) (c : Code) (S : Nat → Prop) (pre : List α) (W : World), w.heap.size ≤ D → (∀ k, S k → n0 ≤ k ∧ k < W.heap.size) → S D → pre <+: xs → Jx c S pre W → W.heap[D]? = some (.deferred (some [])) → c.wpIn Fence.wide 0 P Q { a with defers := { target := .collected D, args := #[] } :: a.defers } W) :
    (Code.rangeFunc g ps assign body).wpIn Fence.wide 0 P Q a w := by
  refine wpIn_rf hg eg hit hn0 hS0 hps J Jx hfin hJ hJx h0 (fun x a' W => ∃ b, a' = F x b ∧ W.heap[b]? = some (.cells (cs x) t (0, 0))) ?_ ?_ ?_ hdone hstop
  · rintro x a' l W W' hl hlt ⟨b, rfl, hb⟩ hs ⟨r, hr⟩
    have hne : b ≠ l := by rintro rfl; rw [hr] at hb; cases hb
    exact ⟨b, rfl, (hs.same b (Array.getElem?_eq_some_iff.1 hb).1 hne).trans hb⟩
  · exact fun l S pre x W K h1 h2 h3 h4 hk => hassign l S pre x W K h1 h2 h3 fun b W' k1 k2 k3 => hk _ W' k1 k2 ⟨b, rfl, k3⟩
  · rintro l S pre x a' W h1 h2 h3 h4 h5 ⟨b, rfl, hb⟩ h7
    exact hbody l S pre x b W h1 h2 h3 h4 h5 hb h7
end Go.Proofs.Ytbnggfhofdpdcaa

/-
  The law BoundsChecks: walk.
-/
namespace Go.Proofs.Ytbnggfhofdpdcaa
open Go Go.RowKit Go.WideShapes

theorem refsF_len (all : List StepD) {m : Nat} : ∀ (l : List StepD) (i : Nat), (∀ s ∈ l, s.after.length ≤ m) → (refsF all i l).length ≤ l.length * m
  | [], i, _ => by simp [refsF]
  | s :: l, i, h => by
    rw [refsF, List.length_append, List.length_cons, Nat.add_mul, Nat.one_mul]
    have h1 := refsF_len all l (i + 1) (fun t ht => h t (by simp [ht]))
    have h2 := h s (by simp)
    unfold rowRf
    rw [List.length_map]
    omega
theorem chk_ok {d : DefD} (hs : SmallD d) : ∀ x ∈ chkU d.steps d.steps.length (chkR 0 d.steps []), OkG x := by
  intro x hx
  have hl := hs.steps
  rw [chkU_mem, chkR_mem] at hx
  rcases hx with (h | ⟨i, s, hi, h⟩) | ⟨q, u, t, s, hq, hu, h1, h2, h3, h4, rfl⟩
  · cases h
  · have hil : i < d.steps.length := (List.getElem?_eq_some_iff.1 hi).1
    unfold rangeL at h
    simp only [noteL_mem, List.not_mem_nil, false_or] at h
    rcases h with ((⟨-, rfl⟩ | ⟨-, rfl⟩) | ⟨-, rfl⟩) | ⟨-, rfl⟩
    all_goals exact ⟨by unfold I64w; simp only; omega, by unfold I64w; simp only; omega, by simp only; decide⟩
  · obtain ⟨n, rfl, hn⟩ := depsD_in d.steps q u t h2
    have := (hs.each s (List.mem_of_getElem? h3)).name
    exact ⟨by unfold I64w; simp only; omega, by unfold I64w; simp only; omega, by unfold maxLen; simp only; omega⟩
theorem ref_ok {d : DefD} (hs : SmallD d) : ∀ x ∈ refC d.steps d.steps.length, OkG x := by
  intro x hx
  have := (sortD_mem _ x).2 hx
  rw [checks_alike] at this
  exact chk_ok hs x ((sortD_mem _ x).1 this)

end Go.Proofs.Ytbnggfhofdpdcaa

/-
  Plain: what holds of a definition with whose names nothing is wrong.
-/
namespace Go.Proofs.Ytbnggfhofdpdcaa
open Go Go.RowKit

theorem noteL_none {l : List DiagD} {b : Bool} {y : DiagD} (h : noteL l b y = []) : l = [] ∧ b = false := by
  cases b with
  | true => simp [noteL] at h
  | false => exact ⟨h, rfl⟩
theorem headN_none {d : DefD} (h : headN d = []) : 0 < d.steps.length ∧ rightB d.name = true := by
  unfold headN at h
  obtain ⟨h1, h2⟩ := noteL_none h
  obtain ⟨-, h3⟩ := noteL_none h1
  have h4 := of_decide_eq_false h3
  refine ⟨by omega, ?_⟩
  cases h5 : rightB d.name with
  | true => rfl
  | false => rw [h5] at h2; cases h2
theorem stepN_none {all : List StepD} {i : Nat} {s : StepD} {l : List DiagD} (h : stepN all i s l = []) : l = [] ∧ rightB s.name = true ∧ (i : Int) ≤ idxStep all s.name 0 := by
  unfold stepN at h
  obtain ⟨h, h4⟩ := noteL_none h
  obtain ⟨h, -⟩ := noteL_none h
  obtain ⟨h, -⟩ := noteL_none h
  obtain ⟨h, h1⟩ := noteL_none h
  have h5 := of_decide_eq_false h4
  refine ⟨h, ?_, by omega⟩
  cases h5 : rightB s.name with
  | true => rfl
  | false => rw [h5] at h1; cases h1
theorem stepsN_none {all : List StepD} : ∀ {r : List StepD} {i : Nat} {l : List DiagD}, stepsN all i r l = [] → l = [] ∧ ∀ (k : Nat) (hk : k < r.length), rightB r[k].name = true ∧ ((i + k : Nat) : Int) ≤ idxStep all r[k].name 0
  | [], i, l, h => ⟨h, fun k hk => absurd hk (Nat.not_lt_zero _)⟩
  | s :: r, i, l, h => by
    rw [stepsN] at h
    obtain ⟨h1, h2⟩ := stepsN_none h
    obtain ⟨h3, h4, h5⟩ := stepN_none h1
    refine ⟨h3, fun k hk => ?_⟩
    cases k with
    | zero => exact ⟨h4, h5⟩
    | succ k =>
      have := h2 k (by simpa using hk)
      rw [show i + 1 + k = i + (k + 1) by omega] at this
      exact this
theorem refN_none {all : List StepD} {pre : List RefD} {r : RefD} {l : List DiagD} (h : refN all pre r l = []) : l = [] ∧ 0 ≤ r.2.2 ∧ all[r.1]?.map StepD.name ≠ some r.2.1 ∧ keyR r ∉ pre.map keyR := by
  unfold refN at h
  obtain ⟨h, h3⟩ := noteL_none h
  obtain ⟨h, h2⟩ := noteL_none h
  obtain ⟨h, h1⟩ := noteL_none h
  have h1 := of_decide_eq_false h1
  have h2 := of_decide_eq_false h2
  have h3 := of_decide_eq_false h3
  exact ⟨h, by omega, h2, (cntN_zero _ _).1 (by omega)⟩
theorem refsN_none {all : List StepD} : ∀ {rs pre : List RefD} {l : List DiagD}, refsN all pre rs l = [] → l = [] ∧ ∀ (us : List RefD) (r : RefD), us ++ [r] <+: rs → 0 ≤ r.2.2 ∧ all[r.1]?.map StepD.name ≠ some r.2.1 ∧ keyR r ∉ (pre ++ us).map keyR
  | [], pre, l, h => ⟨h, fun us r hp => by have := hp.length_le; simp at this⟩
  | q :: rs, pre, l, h => by
    rw [refsN] at h
    obtain ⟨h1, h2⟩ := refsN_none h
    obtain ⟨h3, h4⟩ := refN_none h1
    refine ⟨h3, fun us r hp => ?_⟩
    cases us with
    | nil =>
      obtain ⟨t, ht⟩ := hp
      simp at ht
      rw [ht.1, List.append_nil]
      exact h4
    | cons u us =>
      obtain ⟨t, ht⟩ := hp
      simp at ht
      have := h2 us r ⟨t, by simpa using ht.2⟩
      rw [← ht.1] at this
      rw [List.append_assoc] at this
      exact this
theorem idxStep_at (n : ByteArray) : ∀ (l : List StepD) (i : Nat), 0 ≤ idxStep l n i → ∃ (k : Nat) (hk : k < l.length), idxStep l n i = ((i + k : Nat) : Int) ∧ l[k].name = n
  | [], i, h => by rw [idxStep] at h; omega
  | a :: l, i, h => by
    by_cases ha : a.name = n
    · refine ⟨0, by simp, ?_, ha⟩
      rw [idxStep, if_pos ha]; rfl
    · rw [idxStep, if_neg ha] at h ⊢
      obtain ⟨k, hk, h1, h2⟩ := idxStep_at n l (i + 1) h
      exact ⟨k + 1, by simpa using hk, by rw [h1]; omega, h2⟩
theorem idxStep_le (n : ByteArray) : ∀ (l : List StepD) (i k : Nat) (hk : k < l.length), l[k].name = n → idxStep l n i ≤ ((i + k : Nat) : Int)
  | a :: l, i, 0, _, h => by
    have h' : a.name = n := h
    rw [idxStep, if_pos h']; omega
  | a :: l, i, k + 1, hk, h => by
    rw [idxStep]
    split
    · omega
    · have := idxStep_le n l (i + 1) k (by simpa using hk) (by simpa using h)
      omega
theorem fold_fine (k : Nat) : ∀ (l r : List Int), (∀ (j : Nat) (hj : j < l.length), 0 ≤ l[j] ∧ l[j] ≠ (k : Int) ∧ l[j] ∉ r ++ l.take j) → l.foldl (addRf k) r = r ++ l
  | [], r, _ => by simp
  | a :: l, r, h => by
    obtain ⟨h1, h2, h3⟩ := h 0 (by simp)
    have ha : addRf k r a = r ++ [a] := by
      unfold addRf
      rw [if_pos ⟨h1, h2, by simpa using h3⟩]
    rw [List.foldl_cons, ha, fold_fine k l (r ++ [a]) (fun j hj => ?_), List.append_assoc]
    · rfl
    · have := h (j + 1) (by simpa using hj)
      simp only [List.getElem_cons_succ, List.take_succ_cons] at this
      rw [List.append_assoc]
      exact this
theorem missL_none : ∀ {pre : List RefD}, (∀ r ∈ pre, 0 ≤ r.2.2) → missL pre = [] := by
  intro pre
  induction pre using snocRec with
  | h0 => intro _; rfl
  | h1 l r ih =>
    intro h
    have h1 := h r (by simp)
    rw [missL_snoc, ih fun q hq => h q (by simp [hq])]
    unfold addM
    rw [if_neg]
    rintro ⟨h2, -⟩
    omega
/-- Where nothing is wrong. -/
structure FineN (d : DefD) : Prop where
  some : 0 < d.steps.length
  name : rightB d.name = true
  each : ∀ (k : Nat) (hk : k < d.steps.length), rightB d.steps[k].name = true
  unlike : ∀ (i k : Nat) (hi : i < d.steps.length) (hk : k < i), d.steps[k].name ≠ d.steps[i].name
  deps : ∀ (k : Nat) (hk : k < d.steps.length), depsD d.steps k d.steps[k] = d.steps[k].after.map fun a => idxStep d.steps a 0
  tos : ∀ (k : Nat) (hk : k < d.steps.length) (j : Nat) (hj : j < d.steps[k].after.length), ∃ (n : Nat) (hn : n < d.steps.length), idxStep d.steps d.steps[k].after[j] 0 = (n : Int) ∧ n ≠ k ∧ d.steps[n].name = d.steps[k].after[j]
  missing : missL (refsF d.steps 0 d.steps) = []
theorem fine_names {d : DefD} (h : chkN d = []) : FineN d := by
  unfold chkN at h
  obtain ⟨h1, hr⟩ := refsN_none h
  obtain ⟨h2, hs⟩ := stepsN_none h1
  obtain ⟨h3, h4⟩ := headN_none h2
  have hun : ∀ (i k : Nat) (hi : i < d.steps.length) (hk : k < i), d.steps[k].name ≠ d.steps[i].name := fun i k hi hk e => by
    have h5 := (hs i hi).2
    have h6 := idxStep_le d.steps[i].name d.steps 0 k (by omega) e
    omega
  have hto : ∀ (k : Nat) (hk : k < d.steps.length) (j : Nat) (hj : j < d.steps[k].after.length), ∃ (n : Nat) (hn : n < d.steps.length), idxStep d.steps d.steps[k].after[j] 0 = (n : Int) ∧ n ≠ k ∧ d.steps[n].name = d.steps[k].after[j] := fun k hk j hj => by
    have hp := refs_prefix d.steps hk (j + 1)
    rw [rowRf_take d.steps k _ hj, ← List.append_assoc] at hp
    obtain ⟨h5, h6, -⟩ := hr _ _ hp
    obtain ⟨n, hn, h7, h8⟩ := idxStep_at _ _ _ h5
    refine ⟨n, hn, by rw [h7, Nat.zero_add], fun e => ?_, h8⟩
    subst e
    refine h6 ?_
    show d.steps[n]?.map StepD.name = _
    rw [List.getElem?_eq_getElem hk]
    exact congrArg Option.some h8
  refine ⟨h3, h4, fun k hk => (hs k hk).1, hun, fun k hk => ?_, hto, ?_⟩
  · unfold depsD
    rw [fold_fine k _ [] (fun j hj => ?_), List.nil_append]
    rw [List.length_map] at hj
    simp only [List.getElem_map, List.nil_append]
    obtain ⟨n, hn, e1, e2, e3⟩ := hto k hk j hj
    refine ⟨by omega, by omega, fun hm => ?_⟩
    rw [← List.map_take] at hm
    obtain ⟨b, hb, he⟩ := List.mem_map.1 hm
    have hp := refs_prefix d.steps hk (j + 1)
    rw [rowRf_take d.steps k _ hj, ← List.append_assoc] at hp
    obtain ⟨-, -, h7⟩ := hr _ _ hp
    rw [e1] at he
    obtain ⟨m, hm2, e4, e5⟩ := idxStep_at b d.steps 0 (by omega)
    have : m = n := by omega
    subst this
    have hbj : b = d.steps[k].after[j] := e5.symm.trans e3
    refine h7 ?_
    refine List.mem_map.2 ⟨(k, b, idxStep d.steps b 0), ?_, by rw [hbj]⟩
    refine List.mem_append.2 (.inr (List.mem_append.2 (.inr ?_)))
    unfold rowRf
    rw [← List.map_take]
    exact List.mem_map.2 ⟨b, hb, rfl⟩
  · refine missL_none fun r hr2 => ?_
    obtain ⟨us, vs, he⟩ := List.append_of_mem hr2
    exact (hr us r ⟨vs, by rw [he]; simp⟩).1
end Go.Proofs.Ytbnggfhofdpdcaa
