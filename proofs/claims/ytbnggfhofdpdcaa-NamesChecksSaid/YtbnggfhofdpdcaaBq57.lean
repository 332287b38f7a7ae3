/-
  names.Check: what its second loop keeps.
-/
import Derived.Test.YtbnggfhofdpdcaaBq55
import Derived.Test.YtbnggfhofdpdcaaBq56
namespace Go.Proofs.Ytbnggfhofdpdcaa
open Go.RowKit Go.WideShapes Go.Maps

theorem stepN_len (all : List StepD) (i : Nat) (s : StepD) (l : List DiagD) : (stepN all i s l).length ≤ l.length + 4 := by
  unfold stepN
  refine Nat.le_trans (noteL_len _ _ _) ?_
  refine Nat.succ_le_succ (Nat.le_trans (noteL_len _ _ _) ?_)
  refine Nat.succ_le_succ (Nat.le_trans (noteL_len _ _ _) ?_)
  exact Nat.succ_le_succ (noteL_len _ _ _)
theorem stepsN_len (all : List StepD) : ∀ (r : List StepD) (i : Nat) (l : List DiagD), (stepsN all i r l).length ≤ l.length + 4 * r.length
  | [], i, l => by simp [stepsN]
  | s :: r, i, l => by
    rw [stepsN, List.length_cons]
    have := stepsN_len all r (i + 1) (stepN all i s l)
    have := stepN_len all i s l
    omega
theorem stepsN_snoc (all : List StepD) (s : StepD) : ∀ (r : List StepD) (i : Nat) (l : List DiagD), stepsN all i (r ++ [s]) l = stepN all (i + r.length) s (stepsN all i r l)
  | [], i, l => rfl
  | t :: r, i, l => by
    rw [List.cons_append, stepsN, stepsN_snoc all s r (i + 1) _, stepsN, List.length_cons, show i + 1 + r.length = i + (r.length + 1) by omega]
theorem refN_len (all : List StepD) (pre : List RefD) (r : RefD) (l : List DiagD) : (refN all pre r l).length ≤ l.length + 3 := by
  unfold refN
  refine Nat.le_trans (noteL_len _ _ _) ?_
  refine Nat.succ_le_succ (Nat.le_trans (noteL_len _ _ _) ?_)
  exact Nat.succ_le_succ (noteL_len _ _ _)
theorem refsN_len (all : List StepD) : ∀ (r pre : List RefD) (l : List DiagD), (refsN all pre r l).length ≤ l.length + 3 * r.length
  | [], pre, l => by simp [refsN]
  | s :: r, pre, l => by
    rw [refsN, List.length_cons]
    have := refsN_len all r (pre ++ [s]) (refN all pre s l)
    have := refN_len all pre s l
    omega
theorem headN_len (d : DefD) : (headN d).length ≤ 2 := by
  unfold headN
  exact Nat.le_trans (noteL_len _ _ _) (Nat.succ_le_succ (noteL_len _ _ _))
theorem idxStep_get (n : ByteArray) : ∀ (l : List StepD) (i k : Nat) (hk : k < l.length), l[k].name = n → 0 ≤ idxStep l n i
  | a :: l, i, 0, _, h => by
    have h' : a.name = n := h
    rw [idxStep, if_pos h']; omega
  | a :: l, i, k + 1, hk, h => by
    rw [idxStep]
    split
    · omega
    · exact idxStep_get n l (i + 1) k (by simpa using hk) (by simpa using h)
theorem plN_get {l : List StepD} {k : Nat} (hk : k < l.length) : (plN l l[k].name).getD 0 = idxStep l l[k].name 0 := by
  unfold plN
  rw [if_pos (idxStep_get _ l 0 k hk rfl)]
  rfl
/-- What lies at names.Check: the list behind its box, the note's box, the definition's box. -/
structure StW (w0 W : World) (b : Nat) (dc : Array Value) (nf : Value) (va : Option Addr) (vc : Nat) (l : List DiagD) : Prop where
  out : OutG W (b + 1) va vc l
  note : W.heap[b + 1 + 1]? = some (.cells #[nf] 122 (0, 0))
  dfb : W.heap[b]? = some (.cells dc 24 (0, 0))
  low : Below b w0 W
theorem StW.drew {w0 W : World} {b vc : Nat} {dc : Array Value} {nf : Value} {va : Option Addr} {l : List DiagD} (h : StW w0 W b dc nf va vc l) : StW w0 W.drew b dc nf va vc l := ⟨h.out.below ((Below.refl _ _).drew), h.note, h.dfb, h.low.drew⟩
theorem StW.below {w0 W W' : World} {b vc : Nat} {dc : Array Value} {nf : Value} {va : Option Addr} {l : List DiagD} (h : StW w0 W b dc nf va vc l) (hb : Below W.heap.size W W') : StW w0 W' b dc nf va vc l :=
  ⟨h.out.below hb, (hb.block _ (Array.getElem?_eq_some_iff.1 h.note).1).trans h.note, (hb.block _ (Array.getElem?_eq_some_iff.1 h.dfb).1).trans h.dfb, h.low.trans (hb.mono (Nat.le_of_lt (Array.getElem?_eq_some_iff.1 h.dfb).1))⟩
theorem StW.nlt {w0 W : World} {b vc : Nat} {dc : Array Value} {nf : Value} {va : Option Addr} {l : List DiagD} (h : StW w0 W b dc nf va vc l) : b + 1 + 1 < W.heap.size := (Array.getElem?_eq_some_iff.1 h.note).1
theorem StW.ncell {w0 W : World} {b vc : Nat} {dc : Array Value} {nf : Value} {va : Option Addr} {l : List DiagD} (h : StW w0 W b dc nf va vc l) : W.cell? ⟨b + 1 + 1, 0, none⟩ = some nf := Boxed.cell (t := 122) h.note
/-- A note leaves all else. -/
theorem StW.noted {w0 W w' : World} {b vc : Nat} {dc : Array Value} {nf : Value} {va : Option Addr} {l l' : List DiagD} (h : StW w0 W b dc nf va vc l) (hn : Noted W w' (b + 1) va vc l' l) :
    ∃ va' vc', StW w0 w' b dc nf va' vc' l' ∧ Below (b + 1) W w' ∧ (∀ q, q < W.heap.size → (Value.slice va l.length vc).ownBlock ≠ some q → (Value.slice va' l'.length vc').ownBlock ≠ some q) ∧ (∀ q, q < W.heap.size → q ≠ b + 1 → (Value.slice va l.length vc).ownBlock ≠ some q → w'.heap[q]? = W.heap[q]?) ∧
      (∀ (q : Nat) (c : Array Value) (t : TypeId) (fr : Nat × Nat), W.heap[q]? = some (.cells c t fr) → t ≠ 61 → q ≠ b + 1 → w'.heap[q]? = some (.cells c t fr)) := by
  obtain ⟨va', vc', h1, h2, h3, h4⟩ := hn
  have key : ∀ (q : Nat) (c : Array Value) (t : TypeId) (fr : Nat × Nat), W.heap[q]? = some (.cells c t fr) → t ≠ 61 → q ≠ b + 1 → w'.heap[q]? = some (.cells c t fr) :=
    fun q c t fr hq ht hqb => h3 q _ hq hqb (h.out.own.ne hq ht)
  refine ⟨va', vc', ⟨h1, key _ _ _ _ h.note (by decide) (by omega), key _ _ _ _ h.dfb (by decide) (by omega), h.low.trans (h2.mono (by omega))⟩, h2, h4, fun q hq hqb hqo => ?_, key⟩
  have e := Array.getElem?_eq_getElem hq
  rw [h3 q _ e hqb hqo, e]
theorem StW.map {w0 W w' : World} {b vc : Nat} {dc : Array Value} {nf : Value} {va : Option Addr} {l : List DiagD} (h : StW w0 W b dc nf va vc l) (hs : ∀ q, q < W.heap.size → q ≠ b + 1 → (Value.slice va l.length vc).ownBlock ≠ some q → w'.heap[q]? = W.heap[q]?) {κ : Type} {enc : κ → Value} {P : Program} {k e n M : Nat} {g : κ → Option Int} (hm : MapO P k e enc W M n g) : MapO P k e enc w' M n g :=
  hm.block (hs M hm.lt (fun e => hm.ne (h.out.box) e.symm) (h.out.own.nemap hm))

/-- A step of an iterator's. -/
theorem MapO.step {n0 : Nat} {S S' : Nat → Prop} {W W' : World} {P : Program} {k e : TypeId} {κ : Type} {enc : κ → Value} {b n : Nat} {g : κ → Option Int} (h : Step n0 S S' W W') (hm : MapO P k e enc W b n g) (hS : ¬ S b) : MapO P k e enc W' b n g ∧ ¬ S' b :=
  ⟨hm.block (h.same b hm.lt hS), fun hs' => by rcases h.new b hs' with h1 | ⟨h1, _⟩; exact hS h1; have := hm.lt; omega⟩
/-- What lies between two rounds of the second loop. -/
structure NkJ (w0 : World) (b R : Nat) (dc : Array Value) (nf : Value) (all : List StepD) (l0 : List DiagD) (S : Nat → Prop) (pre : List RefD) (W : World) (va : Option Addr) (vc nM : Nat) : Prop where
  st : StW w0 W b dc nf va vc (refsN all [] pre l0)
  map : MapO Try.prog 131 3 aggO W R nM (cntI (pre.map keyR))
  few : nM ≤ pre.length
  mbox : Boxed W (R + 1) 125 (.map (some R))
  o1 : ¬ S (b + 1)
  o2 : ¬ S (b + 1 + 1)
  o3 : ¬ S R
  o4 : ¬ S (R + 1)
  o5 : ∀ g, (Value.slice va (refsN all [] pre l0).length vc).ownBlock = some g → ¬ S g
def nkJ (w0 : World) (b R : Nat) (dc : Array Value) (nf : Value) (all : List StepD) (l0 : List DiagD) : (Nat → Prop) → List RefD → World → Prop := fun S pre W => ∃ va vc nM, NkJ w0 b R dc nf all l0 S pre W va vc nM
theorem nkJ_step (w0 : World) (b R : Nat) (dc : Array Value) (nf : Value) (all : List StepD) (l0 : List DiagD) : Stable (b + 1) (nkJ w0 b R dc nf all l0) := by
  rintro S S' s W W' hS ⟨va, vc, nM, h⟩ hs
  obtain ⟨k1, k2⟩ := hs.boxed h.st.out.box h.o1
  obtain ⟨k3, k4⟩ := hs.owns h.st.out.own h.o5
  obtain ⟨k5, k6⟩ := hs.boxed (B := b + 1 + 1) h.st.note h.o2
  obtain ⟨k7, k8⟩ := MapO.step hs h.map h.o3
  obtain ⟨k9, k10⟩ := hs.boxed h.mbox h.o4
  exact ⟨va, vc, nM, ⟨⟨k1, k3⟩, k5, (hs.below.block b (Nat.lt_succ_self b)).trans h.st.dfb, h.st.low.trans (hs.below.mono (Nat.le_succ b))⟩, k7, h.few, k9, k2, k6, k8, k10, k4⟩
/-- A note behind a round's block: all that the loop keeps, and the iterator's blocks. -/
theorem NkN {w0 W w' : World} {b R T nM vc : Nat} {dc : Array Value} {nf : Value} {va : Option Addr} {l l' : List DiagD} {S : Nat → Prop} {g : Nat × ByteArray → Option Int} {tc : Array Value} {tt : TypeId} {n0 : Nat}
    (h : StW w0 W b dc nf va vc l) (hm : MapO Try.prog 131 3 aggO W R nM g) (hx : Boxed W (R + 1) 125 (.map (some R))) (hT : W.heap[T]? = some (.cells tc tt (0, 0))) (htt : tt ≠ 61) (hTb : T ≠ b + 1) (hRb : R + 1 ≠ b + 1)
    (hS : ∀ k, S k → n0 ≤ k ∧ k < W.heap.size) (h1 : ¬ S (b + 1)) (h5 : ∀ g, (Value.slice va l.length vc).ownBlock = some g → ¬ S g) (hn0 : n0 ≤ b + 1) (hn : Noted W w' (b + 1) va vc l' l) :
    ∃ va' vc', StW w0 w' b dc nf va' vc' l' ∧ MapO Try.prog 131 3 aggO w' R nM g ∧ Boxed w' (R + 1) 125 (.map (some R)) ∧ w'.heap[T]? = some (.cells tc tt (0, 0)) ∧ (∀ g, (Value.slice va' l'.length vc').ownBlock = some g → ¬ S g) ∧ Keep n0 S W w' ∧ Below (b + 1) W w' := by
  obtain ⟨va', vc', k1, k2, k3, k4, k5⟩ := h.noted hn
  refine ⟨va', vc', k1, h.map k4 hm, k5 _ _ _ _ hx (by decide) hRb, k5 _ _ _ _ hT htt hTb, fun g hg hs => ?_, ⟨k2.mono hn0, fun q hq => ?_⟩, k2⟩
  · have hlt := (hS g hs).2
    by_cases e : (Value.slice va l.length vc).ownBlock = some g
    · exact h5 g e hs
    · exact k3 g hlt e hg
  · exact k4 q (hS q hq).2 (fun e => h1 (e ▸ hq)) (fun e => h5 q e hq)
/-- A loop over a function whose variable lies in a box: the frame of a round is a function of the element and of the box. -/
theorem wpIn_rfB {P : Program} {α : Type} {g : Operand} {ps : Array Tmp} {assign body : Code} {Q : Exit → Act → World → Prop} {a : Act} {w : World}
    {gf : Nat} {lb : Array Value} (hg : a.eval g = .func (.func gf) #[] lb) (eg : ∀ args w, (callFunc gf args).run P w = .ok (.enter gf args) w)
    {encs : α → Array Value} {xs : List α} {n0 : Nat} {S0 : Nat → Prop} {fin : Prop} (hit : IterAt P n0 gf lb encs xs fin S0 w)
    (hn0 : n0 ≤ w.heap.size) (hS0 : ∀ k, S0 k → n0 ≤ k ∧ k < w.heap.size) (hps : ∀ x, (encs x).size = ps.size)
    (J : (Nat → Prop) → List α → World → Prop) (Jx : Code → (Nat → Prop) → List α → World → Prop) (hfin : ¬ fin → ∀ S W, ¬ J S xs W) (hJ : Stable n0 J) (hJx : ∀ c, Stable n0 (Jx c)) (h0 : J S0 [] w)
    (F : α → Nat → Act) (cs : α → Array Value) (t : TypeId)
    (hassign : ∀ (l : Nat) (S : Nat → Prop) (pre : List α) (x : α) (W : World) (K : Act → World → Prop), (∀ k, S k → n0 ≤ k ∧ k < W.heap.size) → w.heap.size ≤ W.heap.size → J S pre W → (∀ b W', Keep n0 S W W' → J S pre W' → W'.heap[b]? = some (.cells (cs x) t (0, 0)) → K (F x b) W') →
      assign.wpIn (Fence.wide.inRound l) 0 P (Exit.then K (fun _ _ _ => False)) { tmps := (ps.zip (encs x)).foldl (fun t (p, v) => t.setIfInBounds p v) a.tmps, defers := [] } W)
    (hbody : ∀ (l : Nat) (S : Nat → Prop) (pre : List α) (x : α) (b : Nat) (W : World), (∀ k, S k → n0 ≤ k ∧ k < W.heap.size) → w.heap.size ≤ W.heap.size → S l → (∃ r, W.heap[l]? = some (.loop r)) → J S pre W → W.heap[b]? = some (.cells (cs x) t (0, 0)) → pre ++ [x] <+: xs →
      body.wpIn (Fence.wide.inRound l) 0 P (rfPost n0 S J Jx (pre ++ [x]) W) (F x b) W)
    (hdone : ∀ (D : Nat) (S : Nat → Prop) (W : World), w.heap.size ≤ D → (∀ k, S k → n0 ≤ k ∧ k < W.heap.size) → S D → J S xs W → W.heap[D]? = some (.deferred (some [])) → Q .normal { a with defers := { target := .collected D, args := #[] } :: a.defers } W)
    (hstop : ∀ (D : Nat) (c : Code) (S : Nat → Prop) (pre : List α) (W : World), w.heap.size ≤ D → (∀ k, S k → n0 ≤ k ∧ k < W.heap.size) → S D → pre <+: xs → Jx c S pre W → W.heap[D]? = some (.deferred (some [])) → c.wpIn Fence.wide 0 P Q { a with defers := { target := .collected D, args := #[] } :: a.defers } W) :
    (Code.rangeFunc g ps assign body).wpIn Fence.wide 0 P Q a w := by
  refine wpIn_rf hg eg hit hn0 hS0 hps J Jx hfin hJ hJx h0 (fun x a' W => ∃ b, a' = F x b ∧ W.heap[b]? = some (.cells (cs x) t (0, 0))) ?_ ?_ ?_ hdone hstop
  · rintro x a' l W W' hl hlt ⟨b, rfl, hb⟩ hs ⟨r, hr⟩
    have hne : b ≠ l := by rintro rfl; rw [hr] at hb; cases hb
    exact ⟨b, rfl, (hs.same b (Array.getElem?_eq_some_iff.1 hb).1 hne).trans hb⟩
  · exact fun l S pre x W K h1 h2 h3 h4 hk => hassign l S pre x W K h1 h2 h3 fun b W' k1 k2 k3 => hk _ W' k1 k2 ⟨b, rfl, k3⟩
  · rintro l S pre x a' W h1 h2 h3 h4 h5 ⟨b, rfl, hb⟩ h7
    exact hbody l S pre x b W h1 h2 h3 h4 h5 hb h7
end Go.Proofs.Ytbnggfhofdpdcaa

/-
  The law BoundsChecks: walk.
-/
namespace Go.Proofs.Ytbnggfhofdpdcaa
open Go Go.RowKit Go.WideShapes

theorem refsF_len (all : List StepD) {m : Nat} : ∀ (l : List StepD) (i : Nat), (∀ s ∈ l, s.after.length ≤ m) → (refsF all i l).length ≤ l.length * m
  | [], i, _ => by simp [refsF]
  | s :: l, i, h => by
    rw [refsF, List.length_append, List.length_cons, Nat.add_mul, Nat.one_mul]
    have h1 := refsF_len all l (i + 1) (fun t ht => h t (by simp [ht]))
    have h2 := h s (by simp)
    unfold rowRf
    rw [List.length_map]
    omega
theorem chk_ok {d : DefD} (hs : SmallD d) : ∀ x ∈ chkU d.steps d.steps.length (chkR 0 d.steps []), OkG x := by
  intro x hx
  have hl := hs.steps
  rw [chkU_mem, chkR_mem] at hx
  rcases hx with (h | ⟨i, s, hi, h⟩) | ⟨q, u, t, s, hq, hu, h1, h2, h3, h4, rfl⟩
  · cases h
  · have hil : i < d.steps.length := (List.getElem?_eq_some_iff.1 hi).1
    unfold rangeL at h
    simp only [noteL_mem, List.not_mem_nil, false_or] at h
    rcases h with ((⟨-, rfl⟩ | ⟨-, rfl⟩) | ⟨-, rfl⟩) | ⟨-, rfl⟩
    all_goals exact ⟨by unfold I64w; simp only; omega, by unfold I64w; simp only; omega, by simp only; decide⟩
  · obtain ⟨n, rfl, hn⟩ := depsD_in d.steps q u t h2
    have := (hs.each s (List.mem_of_getElem? h3)).name
    exact ⟨by unfold I64w; simp only; omega, by unfold I64w; simp only; omega, by unfold maxLen; simp only; omega⟩
theorem ref_ok {d : DefD} (hs : SmallD d) : ∀ x ∈ refC d.steps d.steps.length, OkG x := by
  intro x hx
  have := (sortD_mem _ x).2 hx
  rw [checks_alike] at this
  exact chk_ok hs x ((sortD_mem _ x).1 this)

end Go.Proofs.Ytbnggfhofdpdcaa

/-
  rescriptref25.Check: contract.
-/
namespace Go.Proofs.Ytbnggfhofdpdcaa
open Go Go.RowKit Go.WideShapes

theorem rowN_len (all : List StepD) (i : Nat) (s : StepD) (seen : List ByteArray) (a : ByteArray) (l : List DiagD) : (rowN all i s seen a l).length ≤ l.length + 3 := by
  unfold rowN
  refine Nat.le_trans (noteL_len _ _ _) ?_
  refine Nat.succ_le_succ (Nat.le_trans (noteL_len _ _ _) ?_)
  exact Nat.succ_le_succ (noteL_len _ _ _)
theorem rowsN_len (all : List StepD) (i : Nat) (s : StepD) : ∀ (r seen : List ByteArray) (l : List DiagD), (rowsN all i s seen r l).length ≤ l.length + 3 * r.length
  | [], seen, l => by simp [rowsN]
  | a :: r, seen, l => by
    rw [rowsN, List.length_cons]
    have := rowsN_len all i s r (seen ++ [a]) (rowN all i s seen a l)
    have := rowN_len all i s seen a l
    omega
theorem rowsN_snoc (all : List StepD) (i : Nat) (s : StepD) (a : ByteArray) : ∀ (r seen : List ByteArray) (l : List DiagD), rowsN all i s seen (r ++ [a]) l = rowN all i s (seen ++ r) a (rowsN all i s seen r l)
  | [], seen, l => by simp [rowsN]
  | b :: r, seen, l => by
    rw [List.cons_append, rowsN, rowsN_snoc all i s a r, rowsN, List.append_assoc]; rfl
theorem rChkN_snoc (all : List StepD) (s : StepD) : ∀ (r : List StepD) (i : Nat) (l : List DiagD), rChkN all i (r ++ [s]) l = rowsN all (i + r.length) s [] s.after (stepN all (i + r.length) s (rChkN all i r l))
  | [], i, l => rfl
  | t :: r, i, l => by
    rw [List.cons_append, rChkN, rChkN_snoc all s r (i + 1) _, rChkN, List.length_cons, show i + 1 + r.length = i + (r.length + 1) by omega]
theorem rChkN_len (all : List StepD) {m : Nat} : ∀ (r : List StepD) (i : Nat) (l : List DiagD), (∀ s ∈ r, s.after.length ≤ m) → (rChkN all i r l).length ≤ l.length + r.length * (4 + 3 * m)
  | [], i, l, _ => by simp [rChkN]
  | s :: r, i, l, h => by
    rw [rChkN, List.length_cons, Nat.add_mul, Nat.one_mul]
    have h1 := rChkN_len all r (i + 1) (rowsN all i s [] s.after (stepN all i s l)) (fun t ht => h t (by simp [ht]))
    have h2 := rowsN_len all i s s.after [] (stepN all i s l)
    have h3 := stepN_len all i s l
    have h4 := h s (by simp)
    omega
theorem take_succ_getB {l : List ByteArray} {k : Nat} (h : k < l.length) : l.take (k + 1) = l.take k ++ [l[k]] := by
  rw [List.take_add_one, List.getElem?_eq_getElem h]; rfl

set_option maxRecDepth 100000 in
set_option maxHeartbeats 8000000 in
theorem rnCheck_any (d : DefD) (cs : List Value) (sa : Option Addr) (sc : Nat) (w : World) (h : DefR w cs d sa sc) (hsm : SmallD d) (hok : ∀ x ∈ rChkN d.steps 0 d.steps (headN d), OkG x) :
    Calls Try.prog 30 #[.agg cs.toArray] w fun e w' => ∃ va vc, e = .returned (.slice va (sortD (rChkN d.steps 0 d.steps (headN d))).length vc) ∧ DgR w' (.slice va (sortD (rChkN d.steps 0 d.steps (headN d))).length vc) (sortD (rChkN d.steps 0 d.steps (headN d))) ∧ Below w.heap.size w w' := by
  obtain ⟨i0, hi, hz0, hz1, hz2⟩ := info_parts Try.info_diag
  have hlen := hsm.steps
  have hdn := hsm.name
  have HSM := Lib.hid hsm.each
  clear hsm
  obtain ⟨rfl, hna, hta, hva⟩ := h
  obtain ⟨_, _, he1, hl1, hl2⟩ := hva.form
  cases he1
  have e0 := World.alloc_heap_new w (.cells #[.string d.name, .string d.text, .slice sa d.steps.length sc] 24)
  have hb0 : Below w.heap.size w (w.alloc (.cells #[.string d.name, .string d.text, .slice sa d.steps.length sc] 24)) := (Below.refl _ _).alloc (Nat.le_refl _) _
  have hs0 : (w.alloc (.cells #[.string d.name, .string d.text, .slice sa d.steps.length sc] 24)).heap.size = w.heap.size + 1 := by simp
  have HV0 := Lib.hid hva
  have HOKK := Lib.hid hok
  obtain ⟨p0, p1, p2, -, -, -⟩ := cells3h e0
  clear hva hok
  go_enter Try.func30, Try.ntmps30
  go_upto_region 2 with fail
  generalize (w.alloc (.cells #[.string d.name, .string d.text, .slice sa d.steps.length sc] 24)) = w1 at *
  obtain ⟨R, hRR⟩ : ∃ R, R = w.heap.size + 1 := ⟨_, rfl⟩
  have HS0 := Lib.hid hs0
  clear hs0
  have HBw0 := Lib.hid hb0
  have G0 := Lib.hid e0
  have HO0 : Hid (OwnG w1 R none 0 ([] : List DiagD)) := Lib.hid (OwnG.nil _ _)
  have HB0 : Hid (Below R w1 w1) := Lib.hid (Below.refl _ _)
  have HHD : Hid (headN d = noteL (noteL [] ((d.steps.length : Int) == 0) (-1, 17, { data := #[] })) (!rightB d.name) (-1, 18, d.name)) := Lib.hid (by
    unfold headN
    have : ((d.steps.length : Int) == 0) = decide (d.steps.length = 0) := by rw [Bool.eq_iff_iff]; simp
    rw [this]
    rfl)
  clear hb0 e0
  generalize hbe : ((d.steps.length : Int) == 0) = be at *
  have hl00 : ([] : List DiagD).length ≤ 0 := Nat.le_refl _
  go_upto_if 10 with fail
  go_cut [3] (fun s3 wx => ∃ (va : Option Addr) (vc : Nat), s3 = .slice va (noteL ([] : List DiagD) be (-1, 17, { data := #[] })).length vc ∧ OwnG wx R va vc (noteL ([] : List DiagD) be (-1, 17, { data := #[] })) ∧ Below R w1 wx)
  case first =>
    cases be with
    | true =>
      have HN : Hid (noteL ([] : List DiagD) true (-1, 17, { data := #[] }) = ([] : List DiagD) ++ [(-1, 17, { data := #[] })]) := Lib.hid rfl
      go_wp2_with (at_builtin; go_must (refine wpList_push rfl _ _ 51 rfl R 61 i0 (.agg #[.int .i64 0, .int .i64 0, .string { data := #[] }]) 3 32 Try.underlying51 hi hz0 hz1 hz2 rfl (by decide) _ _ _ rfl (HO0.out.alloc _) ⟨w1.heap.size, 0, none⟩ 1 1 (encG (-1, 17, { data := #[] })) rfl rfl cells3_new (encG_one (-1, 17, { data := #[] })) (by unfold maxLen; omega) (by omega) (by have := HB0.out.size; have := HS0.out; simp; omega) ?_; intro v' w2 hown' hgrow hfr; obtain ⟨va', vc', rfl, kb1, kb2, kb3⟩ := ownG_pushed HO0.out (by have := HB0.out.size; have := HS0.out; omega) hown' hgrow; have KB1 := Lib.hid kb1; have KB2 := Lib.hid kb2; have KB3 := Lib.hid kb3; clear hown' hgrow hfr kb1 kb2 kb3))
      go_meet
      exact ⟨va', vc', by rw [HN.out, List.length_append]; rfl, by rw [HN.out]; exact KB1.out, HB0.out.trans KB2.out⟩
    | false =>
      have HN : Hid (noteL ([] : List DiagD) false (-1, 17, { data := #[] }) = ([] : List DiagD)) := Lib.hid rfl
      go_wp2_with fail
      go_meet
      exact ⟨_, _, (by first | (rw [HN.out]; done) | (rw [HN.out]; rfl)), by rw [HN.out]; exact HO0.out, HB0.out⟩
  case rest =>
  obtain ⟨va1, vc1, rfl, ho1, hb1⟩ := hcut
  generalize wc = V1 at *
  have HO1 := Lib.hid ho1
  have HB1 := Lib.hid hb1
  have hl1 : (noteL ([] : List DiagD) be (-1, 17, { data := #[] })).length ≤ 1 := Nat.le_trans (noteL_len _ _ _) (by omega)
  clear ho1 hb1
  generalize hll1 : noteL ([] : List DiagD) be (-1, 17, { data := #[] }) = l1 at *
  generalize hrd : rightB d.name = rb at *
  obtain ⟨p0, p1, p2, -, -, -⟩ := cells3h ((HB1.out.block w.heap.size (by omega)).trans G0.out)
  go_upto_region 4 with fail
  go_wp2_with fail
  refine (rRight_any d.name _ (by omega)).mono ?_
  rintro e w' ⟨rfl, rfl⟩
  rw [hrd]
  go_upto_if 18 with fail
  generalize hbn : (!rb) = bn at *
  go_cut [3] (fun s3 wx => ∃ (va : Option Addr) (vc : Nat), s3 = .slice va (noteL l1 bn (-1, 18, d.name)).length vc ∧ OwnG wx R va vc (noteL l1 bn (-1, 18, d.name)) ∧ Below R w1 wx)
  case first =>
    cases bn with
    | true =>
      have HN : Hid (noteL l1 true (-1, 18, d.name) = l1 ++ [(-1, 18, d.name)]) := Lib.hid rfl
      go_wp2_with (at_builtin; go_must (refine wpList_push rfl _ _ 51 rfl R 61 i0 (.agg #[.int .i64 0, .int .i64 0, .string { data := #[] }]) 3 32 Try.underlying51 hi hz0 hz1 hz2 rfl (by decide) _ _ _ rfl (HO1.out.alloc _) ⟨w'.heap.size, 0, none⟩ 1 1 (encG (-1, 18, d.name)) rfl rfl cells3_new (encG_one (-1, 18, d.name)) (by unfold maxLen; omega) (by omega) (by have := HB1.out.size; have := HS0.out; simp; omega) ?_; intro v' w2 hown' hgrow hfr; obtain ⟨va', vc', rfl, kb1, kb2, kb3⟩ := ownG_pushed HO1.out (by have := HB1.out.size; have := HS0.out; omega) hown' hgrow; have KB1 := Lib.hid kb1; have KB2 := Lib.hid kb2; have KB3 := Lib.hid kb3; clear hown' hgrow hfr kb1 kb2 kb3))
      go_meet
      exact ⟨va', vc', by rw [HN.out, List.length_append]; rfl, by rw [HN.out]; exact KB1.out, HB1.out.trans KB2.out⟩
    | false =>
      have HN : Hid (noteL l1 false (-1, 18, d.name) = l1) := Lib.hid rfl
      go_wp2_with fail
      go_meet
      exact ⟨_, _, (by first | (rw [HN.out]; done) | (rw [HN.out]; rfl)), by rw [HN.out]; exact HO1.out, HB1.out⟩
  case rest =>
  obtain ⟨va2, vc2, rfl, ho2, hb2⟩ := hcut
  generalize wc = V2 at *
  have HO2 := Lib.hid ho2
  have HB2 := Lib.hid hb2
  have hl2 : (noteL l1 bn (-1, 18, d.name)).length ≤ 2 := Nat.le_trans (noteL_len _ _ _) (by omega)
  clear ho2 hb2
  generalize hll2 : noteL l1 bn (-1, 18, d.name) = l2 at *
  clear p0 p1 p2
  have HHE := HHD.out
  subst HHE
  have hlh : (headN d).length ≤ 2 := headN_len d
  clear HHD hrd hbn hbe hl00 HO0 HB0 HO1 HB1
  go_wp2_with fail
  go_loopg [4, 3] (d.steps.length + 1) (fun gk i v wr => ∃ (k : Nat) (va : Option Addr) (vc n : Nat), k + gk = d.steps.length + 1 ∧ k ≤ d.steps.length ∧ i = .int .i64 k ∧ v = .slice va n vc ∧ Hid (n = (rChkN d.steps 0 (d.steps.take k) (headN d)).length) ∧ Hid (OwnG wr R va vc (rChkN d.steps 0 (d.steps.take k) (headN d))) ∧ Hid (Below R w1 wr))
  case atStart => exact ⟨0, _, _, _, by omega, by omega, rfl, rfl, Lib.hid rfl, HO2, HB2⟩
  case round =>
    obtain ⟨k, va0, vc0, n0, hgk, hk, rfl, rfl, HNL, HOR, HBR⟩ := hrel
    rename World => wr
    have hg : gk = d.steps.length + 1 - k := by omega
    subst hg
    have hsr := HBR.out.size
    have hrl : (rChkN d.steps 0 (d.steps.take k) (headN d)).length ≤ 6500 := by
      have h1 := rChkN_len d.steps (m := 70) (d.steps.take k) 0 (headN d) (fun s hs => (HSM.out s (List.mem_of_mem_take hs)).after)
      have h2 : (d.steps.take k).length * (4 + 3 * 70) ≤ 30 * 214 := Nat.mul_le_mul (by rw [List.length_take]; omega) (Nat.le_refl _)
      omega
    have hnl := HNL.out
    have HBW := Lib.hid (HBw0.out.trans (HBR.out.mono (by omega)))
    obtain ⟨p0, p1, p2, -, -, -⟩ := cells3h ((HBR.out.block w.heap.size (by omega)).trans G0.out)
    clear HNL
    by_cases hkl : k < d.steps.length
    · have d1 : decide ((k : Int) < (d.steps.length : Int)) = true := decide_eq_true (by omega)
      have hk1 : (k : Int) < (d.steps.length : Int) := by omega
      obtain ⟨g, off, cap, aa1, ac1, ka1, kc1, ba1, bc1, he, q1, q2, hns0, z0, z1, z2, z3, z4, z5, z6, z7, z8, z9, z10, z11, z12⟩ := (HV0.out.below HBW.out).at hkl
      cases he
      have HCS : Hid (rChkN d.steps 0 (d.steps.take (k + 1)) (headN d) = rowsN d.steps k d.steps[k] [] d.steps[k].after (stepN d.steps k d.steps[k] (rChkN d.steps 0 (d.steps.take k) (headN d)))) := Lib.hid (by rw [take_succ_getS hkl, rChkN_snoc, List.length_take, Nat.min_eq_left hk, Nat.zero_add])
      obtain ⟨g3, off3, cap3, aa3, ac3, ka3, kc3, ba3, bc3, he, -, -, hns3, -, -, -, y3, -⟩ := HV0.out.at hkl
      cases he
      have hce := cellB HBW.out y3
      rw [z3] at hce
      cases hce
      have HA0 := Lib.hid hns3.after
      have hss := HSM.out _ (List.getElem_mem hkl)
      have hs1 := hss.name
      have hs2 := hss.action
      have hs3 := hss.undo
      have hs4 := hss.after
      obtain ⟨_, _, hae, hal1, hal2, -⟩ := hns3.after.2
      cases hae
      unfold maxLen at hal2
      clear hns0 hns3 hss y3
      generalize d.steps[k] = s at *
      generalize hgl0 : rChkN d.steps 0 (d.steps.take k) (headN d) = l0 at *
      subst hnl
      go_upto_region 10 with fail
      have hx := World.alloc_heap_new wr (.cells #[.string s.name, .string s.action, .string s.undo, .slice aa1 s.after.length ac1, .int .i64 s.most, .int .i64 s.first, .int .i64 s.factor, .int .i64 s.limit, .int .u8 (s.note.kind : Int), .string s.note.text, .slice ka1 s.note.keys.length kc1, .slice ba1 s.note.kids.length bc1, .int .i64 s.note.line] 45)
      have hbx : Below wr.heap.size wr (wr.alloc (.cells #[.string s.name, .string s.action, .string s.undo, .slice aa1 s.after.length ac1, .int .i64 s.most, .int .i64 s.first, .int .i64 s.factor, .int .i64 s.limit, .int .u8 (s.note.kind : Int), .string s.note.text, .slice ka1 s.note.keys.length kc1, .slice ba1 s.note.kids.length bc1, .int .i64 s.note.line] 45)) := (Below.refl _ _).alloc (Nat.le_refl _) _
      have HO0 := Lib.hid (HOR.out.below hbx)
      have HB0 := Lib.hid (HBR.out.trans (hbx.mono (by have := HBR.out.size; have := HS0.out; omega)))
      have HN0 : Hid ((Value.slice va0 l0.length vc0).ownBlock ≠ some wr.heap.size) := Lib.hid (fun e => by have := (HOR.out.heap _ e).2; omega)
      generalize (wr.alloc (.cells #[.string s.name, .string s.action, .string s.undo, .slice aa1 s.after.length ac1, .int .i64 s.most, .int .i64 s.first, .int .i64 s.factor, .int .i64 s.limit, .int .u8 (s.note.kind : Int), .string s.note.text, .slice ka1 s.note.keys.length kc1, .slice ba1 s.note.kids.length bc1, .int .i64 s.note.line] 45)) = V0 at *
      generalize wr.heap.size = T at *
      have HT0 := Lib.hid hx
      have HCS2 : Hid (rChkN d.steps 0 (d.steps.take (k + 1)) (headN d) = rowsN d.steps k s [] s.after (noteL (noteL (noteL (noteL l0 (!rightB s.name) ((k : Int), 18, s.name)) (!rightB s.action) ((k : Int), 18, s.action)) (!s.undo.toList.isEmpty && !rightB s.undo) ((k : Int), 18, s.undo)) (decide (idxStep d.steps s.name 0 < (k : Int))) ((k : Int), 6, s.name))) := HCS
      clear z0 z1 z2 z3 z4 z5 z6 z7 z8 z9 z10 z11 z12 p0 p1 p2 hbx HOR HBR HCS HBW
      obtain ⟨z0, z1, z2, z3, -⟩ := cells13q hx
      obtain ⟨p0, p1, p2, -, -, -⟩ := cells3h ((HB0.out.block w.heap.size (by omega)).trans G0.out)
      clear hx
      generalize hr1 : rightB s.name = r1 at *
      generalize hr2 : rightB s.action = r2 at *
      generalize hr3 : rightB s.undo = r3 at *
      generalize hue : s.undo.toList.isEmpty = ue at *
      generalize hii : idxStep d.steps s.name 0 = ix at *
      generalize hb1 : (!r1) = b1 at *
      generalize hb2 : (!r2) = b2 at *
      generalize hb3 : (!ue && !r3) = b3 at *
      generalize hb4 : decide (ix < (k : Int)) = b4 at *
      go_wp2_with fail
      refine (rRight_any s.name _ (by omega)).mono ?_
      rintro e U1 ⟨rfl, rfl⟩
      rw [hr1]
      have hbc := Below.refl U1.heap.size U1
      have ho := HO0.out.below hbc
      have ht := (hbc.block T (Array.getElem?_eq_some_iff.1 HT0.out).1).trans HT0.out
      have hb := HB0.out.trans (hbc.mono (by have := HB0.out.size; have := HS0.out; omega))
      clear z0 z1 z2 z3 p0 p1 p2 HO0 HT0 HB0 hbc
      have HO0 := Lib.hid ho
      have HT0 := Lib.hid ht
      have HB0 := Lib.hid hb
      obtain ⟨z0, z1, z2, z3, -⟩ := cells13q ht
      obtain ⟨p0, p1, p2, -, -, -⟩ := cells3h ((hb.block w.heap.size (by omega)).trans G0.out)

      clear ho ht hb
      go_upto_if 40 with fail
      go_cut [3] (fun s3 wx => ∃ (va : Option Addr) (vc : Nat), s3 = .slice va (noteL l0 b1 ((k : Int), 18, s.name)).length vc ∧ OwnG wx R va vc (noteL l0 b1 ((k : Int), 18, s.name)) ∧ wx.heap[T]? = some (.cells #[.string s.name, .string s.action, .string s.undo, .slice aa1 s.after.length ac1, .int .i64 s.most, .int .i64 s.first, .int .i64 s.factor, .int .i64 s.limit, .int .u8 (s.note.kind : Int), .string s.note.text, .slice ka1 s.note.keys.length kc1, .slice ba1 s.note.kids.length bc1, .int .i64 s.note.line] 45 (0, 0)) ∧ Below R w1 wx ∧ (Value.slice va (noteL l0 b1 ((k : Int), 18, s.name)).length vc).ownBlock ≠ some T)
      case first =>
        cases b1 with
        | true =>
          have HN : Hid (noteL l0 true ((k : Int), 18, s.name) = l0 ++ [((k : Int), 18, s.name)]) := Lib.hid rfl
          go_wp2_with (at_builtin; go_must (refine wpList_push rfl _ _ 51 rfl R 61 i0 (.agg #[.int .i64 0, .int .i64 0, .string { data := #[] }]) 3 32 Try.underlying51 hi hz0 hz1 hz2 rfl (by decide) _ _ _ rfl (HO0.out.alloc _) ⟨U1.heap.size, 0, none⟩ 1 1 (encG ((k : Int), 18, s.name)) rfl rfl cells3_new (encG_one ((k : Int), 18, s.name)) (by unfold maxLen; omega) (by omega) (by have := HB0.out.size; have := HS0.out; simp; omega) ?_; intro v' w2 hown' hgrow hfr; obtain ⟨va', vc', rfl, kb1, kb2, kb3⟩ := ownG_pushed HO0.out (by have := HB0.out.size; have := HS0.out; omega) hown' hgrow; have KB1 := Lib.hid kb1; have KB2 := Lib.hid kb2; have KB3 := Lib.hid kb3; clear hown' hgrow hfr kb1 kb2 kb3))
          go_meet
          have kT := KB3.out _ _ HT0.out (HN0.out)
          exact ⟨va', vc', by rw [HN.out, List.length_append]; rfl, by rw [HN.out]; exact KB1.out, kT, HB0.out.trans KB2.out, by rw [HN.out]; exact KB1.out.ne kT (by decide)⟩
        | false =>
          have HN : Hid (noteL l0 false ((k : Int), 18, s.name) = l0) := Lib.hid rfl
          go_wp2_with fail
          go_meet
          exact ⟨_, _, by rw [HN.out], by rw [HN.out]; exact HO0.out, HT0.out, HB0.out, by rw [HN.out]; exact HN0.out⟩
      case rest =>
      obtain ⟨va1, vc1, rfl, ho1, ht1, hb1, hn1⟩ := hcut
      generalize wc = V1 at *
      have HO1 := Lib.hid ho1
      have HT1 := Lib.hid ht1
      have HB1 := Lib.hid hb1
      have HN1 := Lib.hid hn1
      have hl1 : (noteL l0 b1 ((k : Int), 18, s.name)).length ≤ 6501 := Nat.le_trans (noteL_len _ _ _) (by omega)
      clear z0 z1 z2 z3 p0 p1 p2 HO0 HT0 HB0 HN0
      obtain ⟨z0, z1, z2, z3, -⟩ := cells13q ht1
      obtain ⟨p0, p1, p2, -, -, -⟩ := cells3h ((hb1.block w.heap.size (by omega)).trans G0.out)

      clear ho1 ht1 hb1 hn1
      generalize hll1 : noteL l0 b1 ((k : Int), 18, s.name) = l1 at *
      go_upto_region 12 with fail
      go_wp2_with fail
      refine (rRight_any s.action _ (by omega)).mono ?_
      rintro e U2 ⟨rfl, rfl⟩
      rw [hr2]
      have hbc := Below.refl U2.heap.size U2
      have ho := HO1.out.below hbc
      have ht := (hbc.block T (Array.getElem?_eq_some_iff.1 HT1.out).1).trans HT1.out
      have hb := HB1.out.trans (hbc.mono (by have := HB1.out.size; have := HS0.out; omega))
      clear z0 z1 z2 z3 p0 p1 p2 HO1 HT1 HB1 hbc
      have HO1 := Lib.hid ho
      have HT1 := Lib.hid ht
      have HB1 := Lib.hid hb
      obtain ⟨z0, z1, z2, z3, -⟩ := cells13q ht
      obtain ⟨p0, p1, p2, -, -, -⟩ := cells3h ((hb.block w.heap.size (by omega)).trans G0.out)

      clear ho ht hb
      go_upto_if 51 with fail
      go_cut [3] (fun s3 wx => ∃ (va : Option Addr) (vc : Nat), s3 = .slice va (noteL l1 b2 ((k : Int), 18, s.action)).length vc ∧ OwnG wx R va vc (noteL l1 b2 ((k : Int), 18, s.action)) ∧ wx.heap[T]? = some (.cells #[.string s.name, .string s.action, .string s.undo, .slice aa1 s.after.length ac1, .int .i64 s.most, .int .i64 s.first, .int .i64 s.factor, .int .i64 s.limit, .int .u8 (s.note.kind : Int), .string s.note.text, .slice ka1 s.note.keys.length kc1, .slice ba1 s.note.kids.length bc1, .int .i64 s.note.line] 45 (0, 0)) ∧ Below R w1 wx ∧ (Value.slice va (noteL l1 b2 ((k : Int), 18, s.action)).length vc).ownBlock ≠ some T)
      case first =>
        cases b2 with
        | true =>
          have HN : Hid (noteL l1 true ((k : Int), 18, s.action) = l1 ++ [((k : Int), 18, s.action)]) := Lib.hid rfl
          go_wp2_with (at_builtin; go_must (refine wpList_push rfl _ _ 51 rfl R 61 i0 (.agg #[.int .i64 0, .int .i64 0, .string { data := #[] }]) 3 32 Try.underlying51 hi hz0 hz1 hz2 rfl (by decide) _ _ _ rfl (HO1.out.alloc _) ⟨U2.heap.size, 0, none⟩ 1 1 (encG ((k : Int), 18, s.action)) rfl rfl cells3_new (encG_one ((k : Int), 18, s.action)) (by unfold maxLen; omega) (by omega) (by have := HB1.out.size; have := HS0.out; simp; omega) ?_; intro v' w2 hown' hgrow hfr; obtain ⟨va', vc', rfl, kb1, kb2, kb3⟩ := ownG_pushed HO1.out (by have := HB1.out.size; have := HS0.out; omega) hown' hgrow; have KB1 := Lib.hid kb1; have KB2 := Lib.hid kb2; have KB3 := Lib.hid kb3; clear hown' hgrow hfr kb1 kb2 kb3))
          go_meet
          have kT := KB3.out _ _ HT1.out (HN1.out)
          exact ⟨va', vc', by rw [HN.out, List.length_append]; rfl, by rw [HN.out]; exact KB1.out, kT, HB1.out.trans KB2.out, by rw [HN.out]; exact KB1.out.ne kT (by decide)⟩
        | false =>
          have HN : Hid (noteL l1 false ((k : Int), 18, s.action) = l1) := Lib.hid rfl
          go_wp2_with fail
          go_meet
          exact ⟨_, _, by rw [HN.out], by rw [HN.out]; exact HO1.out, HT1.out, HB1.out, by rw [HN.out]; exact HN1.out⟩
      case rest =>
      obtain ⟨va2, vc2, rfl, ho2, ht2, hb2, hn2⟩ := hcut
      generalize wc = V2 at *
      have HO2 := Lib.hid ho2
      have HT2 := Lib.hid ht2
      have HB2 := Lib.hid hb2
      have HN2 := Lib.hid hn2
      have hl2 : (noteL l1 b2 ((k : Int), 18, s.action)).length ≤ 6502 := Nat.le_trans (noteL_len _ _ _) (by omega)
      clear z0 z1 z2 z3 p0 p1 p2 HO1 HT1 HB1 HN1
      obtain ⟨z0, z1, z2, z3, -⟩ := cells13q ht2
      obtain ⟨p0, p1, p2, -, -, -⟩ := cells3h ((hb2.block w.heap.size (by omega)).trans G0.out)

      clear ho2 ht2 hb2 hn2
      generalize hll2 : noteL l1 b2 ((k : Int), 18, s.action) = l2 at *
      go_upto_region 14 with fail
      go_cut [67] (fun s wx => s = .bool b3 ∧ Below V2.heap.size V2 wx)
      case first =>
        cases ue with
        | true =>
          go_wp2_with fail
          go_meet
          exact ⟨by rw [← hb3]; rfl, Below.refl _ _⟩
        | false =>
          have hb3' : (!r3) = b3 := by rw [← hb3]; rfl
          go_wp2_with fail
          refine (rRight_any s.undo _ (by omega)).mono ?_
          rintro e w' ⟨rfl, rfl⟩
          rw [hr3]
          go_wp2_with fail
          go_meet
          exact ⟨by rw [← hb3'], Below.refl _ _⟩
      case rest =>
      obtain ⟨rfl, hbc⟩ := hcut
      generalize wc = U3 at *
      have ho := HO2.out.below hbc
      have ht := (hbc.block T (Array.getElem?_eq_some_iff.1 HT2.out).1).trans HT2.out
      have hb := HB2.out.trans (hbc.mono (by have := HB2.out.size; have := HS0.out; omega))
      clear z0 z1 z2 z3 p0 p1 p2 HO2 HT2 HB2 hbc
      have HO2 := Lib.hid ho
      have HT2 := Lib.hid ht
      have HB2 := Lib.hid hb
      obtain ⟨z0, z1, z2, z3, -⟩ := cells13q ht
      obtain ⟨p0, p1, p2, -, -, -⟩ := cells3h ((hb.block w.heap.size (by omega)).trans G0.out)

      clear ho ht hb
      go_upto_if 67 with fail
      go_cut [3] (fun s3 wx => ∃ (va : Option Addr) (vc : Nat), s3 = .slice va (noteL l2 b3 ((k : Int), 18, s.undo)).length vc ∧ OwnG wx R va vc (noteL l2 b3 ((k : Int), 18, s.undo)) ∧ wx.heap[T]? = some (.cells #[.string s.name, .string s.action, .string s.undo, .slice aa1 s.after.length ac1, .int .i64 s.most, .int .i64 s.first, .int .i64 s.factor, .int .i64 s.limit, .int .u8 (s.note.kind : Int), .string s.note.text, .slice ka1 s.note.keys.length kc1, .slice ba1 s.note.kids.length bc1, .int .i64 s.note.line] 45 (0, 0)) ∧ Below R w1 wx ∧ (Value.slice va (noteL l2 b3 ((k : Int), 18, s.undo)).length vc).ownBlock ≠ some T)
      case first =>
        cases b3 with
        | true =>
          have HN : Hid (noteL l2 true ((k : Int), 18, s.undo) = l2 ++ [((k : Int), 18, s.undo)]) := Lib.hid rfl
          go_wp2_with (at_builtin; go_must (refine wpList_push rfl _ _ 51 rfl R 61 i0 (.agg #[.int .i64 0, .int .i64 0, .string { data := #[] }]) 3 32 Try.underlying51 hi hz0 hz1 hz2 rfl (by decide) _ _ _ rfl (HO2.out.alloc _) ⟨U3.heap.size, 0, none⟩ 1 1 (encG ((k : Int), 18, s.undo)) rfl rfl cells3_new (encG_one ((k : Int), 18, s.undo)) (by unfold maxLen; omega) (by omega) (by have := HB2.out.size; have := HS0.out; simp; omega) ?_; intro v' w2 hown' hgrow hfr; obtain ⟨va', vc', rfl, kb1, kb2, kb3⟩ := ownG_pushed HO2.out (by have := HB2.out.size; have := HS0.out; omega) hown' hgrow; have KB1 := Lib.hid kb1; have KB2 := Lib.hid kb2; have KB3 := Lib.hid kb3; clear hown' hgrow hfr kb1 kb2 kb3))
          go_meet
          have kT := KB3.out _ _ HT2.out (HN2.out)
          exact ⟨va', vc', by rw [HN.out, List.length_append]; rfl, by rw [HN.out]; exact KB1.out, kT, HB2.out.trans KB2.out, by rw [HN.out]; exact KB1.out.ne kT (by decide)⟩
        | false =>
          have HN : Hid (noteL l2 false ((k : Int), 18, s.undo) = l2) := Lib.hid rfl
          go_wp2_with fail
          go_meet
          exact ⟨_, _, by rw [HN.out], by rw [HN.out]; exact HO2.out, HT2.out, HB2.out, by rw [HN.out]; exact HN2.out⟩
      case rest =>
      obtain ⟨va3, vc3, rfl, ho3, ht3, hb3, hn3⟩ := hcut
      generalize wc = V3 at *
      have HO3 := Lib.hid ho3
      have HT3 := Lib.hid ht3
      have HB3 := Lib.hid hb3
      have HN3 := Lib.hid hn3
      have hl3 : (noteL l2 b3 ((k : Int), 18, s.undo)).length ≤ 6503 := Nat.le_trans (noteL_len _ _ _) (by omega)
      clear z0 z1 z2 z3 p0 p1 p2 HO2 HT2 HB2 HN2
      obtain ⟨z0, z1, z2, z3, -⟩ := cells13q ht3
      obtain ⟨p0, p1, p2, -, -, -⟩ := cells3h ((hb3.block w.heap.size (by omega)).trans G0.out)

      clear ho3 ht3 hb3 hn3
      generalize hll3 : noteL l2 b3 ((k : Int), 18, s.undo) = l3 at *
      go_upto_region 16 with fail
      go_wp2_with fail
      refine (rIdx_any d _ (some ⟨g, off, none⟩) sc s.name _ ⟨rfl, hna, hta, HV0.out.below (HBw0.out.trans (HB3.out.mono (by omega)))⟩).mono ?_
      rintro e U4 ⟨rfl, hbc⟩
      rw [hii]
      have ho := HO3.out.below hbc
      have ht := (hbc.block T (Array.getElem?_eq_some_iff.1 HT3.out).1).trans HT3.out
      have hb := HB3.out.trans (hbc.mono (by have := HB3.out.size; have := HS0.out; omega))
      clear z0 z1 z2 z3 p0 p1 p2 HO3 HT3 HB3 hbc
      have HO3 := Lib.hid ho
      have HT3 := Lib.hid ht
      have HB3 := Lib.hid hb
      obtain ⟨z0, z1, z2, z3, -⟩ := cells13q ht
      obtain ⟨p0, p1, p2, -, -, -⟩ := cells3h ((hb.block w.heap.size (by omega)).trans G0.out)

      clear ho ht hb
      go_upto_if 80 with fail
      go_cut [3] (fun s3 wx => ∃ (va : Option Addr) (vc : Nat), s3 = .slice va (noteL l3 b4 ((k : Int), 6, s.name)).length vc ∧ OwnG wx R va vc (noteL l3 b4 ((k : Int), 6, s.name)) ∧ wx.heap[T]? = some (.cells #[.string s.name, .string s.action, .string s.undo, .slice aa1 s.after.length ac1, .int .i64 s.most, .int .i64 s.first, .int .i64 s.factor, .int .i64 s.limit, .int .u8 (s.note.kind : Int), .string s.note.text, .slice ka1 s.note.keys.length kc1, .slice ba1 s.note.kids.length bc1, .int .i64 s.note.line] 45 (0, 0)) ∧ Below R w1 wx ∧ (Value.slice va (noteL l3 b4 ((k : Int), 6, s.name)).length vc).ownBlock ≠ some T)
      case first =>
        cases b4 with
        | true =>
          have HN : Hid (noteL l3 true ((k : Int), 6, s.name) = l3 ++ [((k : Int), 6, s.name)]) := Lib.hid rfl
          go_wp2_with (at_builtin; go_must (refine wpList_push rfl _ _ 51 rfl R 61 i0 (.agg #[.int .i64 0, .int .i64 0, .string { data := #[] }]) 3 32 Try.underlying51 hi hz0 hz1 hz2 rfl (by decide) _ _ _ rfl (HO3.out.alloc _) ⟨U4.heap.size, 0, none⟩ 1 1 (encG ((k : Int), 6, s.name)) rfl rfl cells3_new (encG_one ((k : Int), 6, s.name)) (by unfold maxLen; omega) (by omega) (by have := HB3.out.size; have := HS0.out; simp; omega) ?_; intro v' w2 hown' hgrow hfr; obtain ⟨va', vc', rfl, kb1, kb2, kb3⟩ := ownG_pushed HO3.out (by have := HB3.out.size; have := HS0.out; omega) hown' hgrow; have KB1 := Lib.hid kb1; have KB2 := Lib.hid kb2; have KB3 := Lib.hid kb3; clear hown' hgrow hfr kb1 kb2 kb3))
          go_meet
          have kT := KB3.out _ _ HT3.out (HN3.out)
          exact ⟨va', vc', by rw [HN.out, List.length_append]; rfl, by rw [HN.out]; exact KB1.out, kT, HB3.out.trans KB2.out, by rw [HN.out]; exact KB1.out.ne kT (by decide)⟩
        | false =>
          have HN : Hid (noteL l3 false ((k : Int), 6, s.name) = l3) := Lib.hid rfl
          go_wp2_with fail
          go_meet
          exact ⟨_, _, by rw [HN.out], by rw [HN.out]; exact HO3.out, HT3.out, HB3.out, by rw [HN.out]; exact HN3.out⟩
      case rest =>
      obtain ⟨va4, vc4, rfl, ho4, ht4, hb4, hn4⟩ := hcut
      generalize wc = V4 at *
      have HO4 := Lib.hid ho4
      have HT4 := Lib.hid ht4
      have HB4 := Lib.hid hb4
      have HN4 := Lib.hid hn4
      have hl4 : (noteL l3 b4 ((k : Int), 6, s.name)).length ≤ 6504 := Nat.le_trans (noteL_len _ _ _) (by omega)
      clear z0 z1 z2 z3 p0 p1 p2 HO3 HT3 HB3 HN3
      obtain ⟨z0, z1, z2, z3, -⟩ := cells13q ht4
      obtain ⟨p0, p1, p2, -, -, -⟩ := cells3h ((hb4.block w.heap.size (by omega)).trans G0.out)

      clear ho4 ht4 hb4 hn4
      generalize hll4 : noteL l3 b4 ((k : Int), 6, s.name) = l4 at *
      clear hb1 hb2 hb3 hb4 hr1 hr2 hr3 hue hii hll1 hll2 hll3 hll4
      go_wp2_with fail
      clear z0 z1 z2 z3 p0 p1 p2
      go_loopg [6, 3] (s.after.length + 1) (fun gk i v wi => ∃ (j : Nat) (va : Option Addr) (vc n : Nat), j + gk = s.after.length + 1 ∧ j ≤ s.after.length ∧ i = .int .i64 j ∧ v = .slice va n vc ∧ Hid (n = (rowsN d.steps k s [] (s.after.take j) l4).length) ∧ Hid (OwnG wi R va vc (rowsN d.steps k s [] (s.after.take j) l4)) ∧ Hid (wi.heap[T]? = some (.cells #[.string s.name, .string s.action, .string s.undo, .slice aa1 s.after.length ac1, .int .i64 s.most, .int .i64 s.first, .int .i64 s.factor, .int .i64 s.limit, .int .u8 (s.note.kind : Int), .string s.note.text, .slice ka1 s.note.keys.length kc1, .slice ba1 s.note.kids.length bc1, .int .i64 s.note.line] 45 (0, 0))) ∧ Hid (Below R w1 wi) ∧ Hid ((Value.slice va n vc).ownBlock ≠ some T))
      case atStart => exact ⟨0, _, _, _, by omega, by omega, rfl, rfl, Lib.hid rfl, HO4, HT4, HB4, HN4⟩
      case round =>
        obtain ⟨j, va10, vc10, n10, hgj, hj, rfl, rfl, HNQ, HO10, HT10, HB10, HN10⟩ := hrel
        rename World => V10
        have hg : gk = s.after.length + 1 - j := by omega
        subst hg
        have hn10 := HNQ.out
        have hl10 := rowsN_len d.steps k s (s.after.take j) [] l4
        rw [List.length_take] at hl10
        have hl10b : (rowsN d.steps k s [] (s.after.take j) l4).length ≤ 6900 := by omega
        obtain ⟨z0, z1, z2, z3, -⟩ := cells13q HT10.out
        obtain ⟨p0, p1, p2, -, -, -⟩ := cells3h ((HB10.out.block w.heap.size (by omega)).trans G0.out)
        by_cases hjl : j < s.after.length
        · have d2 : decide ((j : Int) < (s.after.length : Int)) = true := decide_eq_true (by omega)
          have hj1 : (j : Int) < (s.after.length : Int) := by omega
          obtain ⟨ag, ao, rfl, y1, y2, Y0'⟩ := strs_at HA0.out hjl
          have HTK : Hid (∀ W : World, Below w.heap.size w W → RdS W (.slice (some ⟨ag, ao, none⟩) (s.after.take j).length ac1) 1 (s.after.take j).length (strsV (s.after.take j))) := Lib.hid (fun W hb => by have := rds_takeS (HA0.out.below hb) (Nat.le_of_lt hjl); simpa [Nat.min_eq_left (Nat.le_of_lt hjl)] using this)
          have hlt : (s.after.take j).length = j := by rw [List.length_take]; omega
          rw [hlt] at HTK
          have HRS : Hid (rowsN d.steps k s [] (s.after.take (j + 1)) l4 = rowN d.steps k s (s.after.take j) s.after[j] (rowsN d.steps k s [] (s.after.take j) l4)) := Lib.hid (by rw [take_succ_getB hjl, rowsN_snoc, List.nil_append])
          have Y0 := Lib.hid Y0'
          have y0 := cellB (HBw0.out.trans (HB10.out.mono (by omega))) Y0'
          have hjc : j ≤ ac1 := by omega
          clear Y0'
          unfold rowN at HRS
          generalize s.after[j] = a at *
          have hY : decide (a = s.name) = (a.toList == s.name.toList) := (beqS a s.name).symm
          rw [hY] at HRS
          clear hY
          generalize rowsN d.steps k s [] (s.after.take j) l4 = l10 at *
          generalize hii5 : idxStep d.steps a 0 = i5 at *
          generalize hb5 : decide (i5 < 0) = b5 at *
          generalize hb6 : (a.toList == s.name.toList) = b6 at *
          generalize hb7 : hasS (s.after.take j) a = b7 at *
          subst hn10
          go_upto_region 21 with fail
          refine E_region (S := (fun W => W.cell? ⟨w.heap.size, 0, none⟩ = some (.string d.name) ∧ W.cell? ⟨w.heap.size, 1, none⟩ = some (.string d.text) ∧ W.cell? ⟨w.heap.size, 2, none⟩ = some (.slice (some ⟨g, off, none⟩) d.steps.length sc) ∧ W.cell? ⟨T, 3, none⟩ = some (.slice (some ⟨ag, ao, none⟩) s.after.length ac1) ∧ W.cell? ⟨ag, ao + j, none⟩ = some (.string a))) 6 (by kernel_rfl) ⟨p0, p1, p2, z3, y0⟩ (fun _ _ _ _ _ h => h) (fun Q' hQ hK' hHeld => ?_)
          refine E_take hQ hHeld 0 (v := ?i1v1) rfl rfl (by kernel_rfl) (by kernel_rfl) (by kernel_rfl) (by kernel_rfl) (by kernel_rfl) (by rfl) ?i1y1 ?i1r1
          case i1y1 => (intro w hSw; (try dsimp only at hSw); go_simp; (try with_reducible rfl))
          (try simp only [Act.put, List.setIfInBounds_toArray, List.set_cons_zero, List.set_cons_succ])
          refine E_take0 hQ (fun _ => hHeld) 1 (v := ?i1v2) rfl rfl (by kernel_rfl) (by kernel_rfl) (by kernel_rfl) (by decide) (by rfl) ?i1y2 ?i1r2
          case i1y2 => (intro w; go_simp; (try with_reducible rfl))
          (try simp only [Act.put, List.setIfInBounds_toArray, List.set_cons_zero, List.set_cons_succ])
          refine E_take hQ hHeld 2 (v := ?i1v3) rfl rfl (by kernel_rfl) (by kernel_rfl) (by kernel_rfl) (by kernel_rfl) (by kernel_rfl) (by rfl) ?i1y3 ?i1r3
          case i1y3 => (intro w hSw; (try dsimp only at hSw); go_simp; (try with_reducible rfl))
          (try simp only [Act.put, List.setIfInBounds_toArray, List.set_cons_zero, List.set_cons_succ])
          refine E_take0 hQ (fun _ => hHeld) 3 (v := ?i1v4) rfl rfl (by kernel_rfl) (by kernel_rfl) (by kernel_rfl) (by decide) (by rfl) ?i1y4 ?i1r4
          case i1y4 => (intro w; go_simp; (try with_reducible rfl))
          (try simp only [Act.put, List.setIfInBounds_toArray, List.set_cons_zero, List.set_cons_succ])
          refine E_take0 hQ (fun _ => hHeld) 4 (v := ?i1v5) rfl rfl (by kernel_rfl) (by kernel_rfl) (by kernel_rfl) (by decide) (by rfl) ?i1y5 ?i1r5
          case i1y5 => (intro w; go_simp; (try with_reducible rfl))
          (try simp only [Act.put, List.setIfInBounds_toArray, List.set_cons_zero, List.set_cons_succ])
          refine E_take hQ hHeld 5 (v := ?i1v6) rfl rfl (by kernel_rfl) (by kernel_rfl) (by kernel_rfl) (by kernel_rfl) (by kernel_rfl) (by rfl) ?i1y6 ?i1r6
          case i1y6 => (intro w hSw; (try dsimp only at hSw); go_simp; (try with_reducible rfl))
          (try simp only [Act.put, List.setIfInBounds_toArray, List.set_cons_zero, List.set_cons_succ])
          refine E_one 6 (by kernel_rfl) rfl (by rfl) (fun K hK => ?_)
          go_simp
          refine (rIdx_any d _ (some ⟨g, off, none⟩) sc a _ ⟨rfl, hna, hta, HV0.out.below (HBw0.out.trans (HB10.out.drew.mono (by omega)))⟩).mono ?_
          rintro e W6 ⟨rfl, hbi⟩
          have HBI6 := Lib.hid hbi
          clear hbi
          rw [hii5]
          (skip)
          refine hK.out _ _ (fun _ h => absurd rfl h) (fun _ => ?_)
          clear hK hHeld
          (try simp only [Act.put, List.setIfInBounds_toArray, List.set_cons_zero, List.set_cons_succ])
          refine E_take0 hQ (fun h => absurd h (by decide)) 7 (v := ?i1v7) rfl rfl (by kernel_rfl) (by kernel_rfl) (by kernel_rfl) (by decide) (by rfl) ?i1y7 ?i1r7
          case i1y7 => (intro w; go_simp; (try with_reducible rfl))
          (try simp only [Act.put, List.setIfInBounds_toArray, List.set_cons_zero, List.set_cons_succ])
          refine E_done (by kernel_rfl) ?_ _
          refine hK'.out _ _ ?_
          have hbc : Below V10.heap.size V10 W6 := ((Below.refl _ _).drew).trans (HBI6.out.mono (Nat.le_refl _))
          clear hK' hQ HBI6
          generalize W6 = U11 at *
          have ho := HO10.out.below hbc
          have ht := (hbc.block T (Array.getElem?_eq_some_iff.1 HT10.out).1).trans HT10.out
          have hb := HB10.out.trans (hbc.mono (by have := HB10.out.size; have := HS0.out; omega))
          clear z0 z1 z2 z3 p0 p1 p2 y0 HO10 HT10 HB10 hbc
          have HO10 := Lib.hid ho
          have HT10 := Lib.hid ht
          have HB10 := Lib.hid hb
          obtain ⟨z0, z1, z2, z3, -⟩ := cells13q ht
          obtain ⟨p0, p1, p2, -, -, -⟩ := cells3h ((hb.block w.heap.size (by omega)).trans G0.out)
          have y0 := cellB (HBw0.out.trans (hb.mono (by omega))) Y0.out
          clear ho ht hb
          go_upto_if 102 with fail
          go_cut [3] (fun s3 wx => ∃ (va : Option Addr) (vc : Nat), s3 = .slice va (noteL l10 b5 ((k : Int), 5, a)).length vc ∧ OwnG wx R va vc (noteL l10 b5 ((k : Int), 5, a)) ∧ wx.heap[T]? = some (.cells #[.string s.name, .string s.action, .string s.undo, .slice (some ⟨ag, ao, none⟩) s.after.length ac1, .int .i64 s.most, .int .i64 s.first, .int .i64 s.factor, .int .i64 s.limit, .int .u8 (s.note.kind : Int), .string s.note.text, .slice ka1 s.note.keys.length kc1, .slice ba1 s.note.kids.length bc1, .int .i64 s.note.line] 45 (0, 0)) ∧ Below R w1 wx ∧ (Value.slice va (noteL l10 b5 ((k : Int), 5, a)).length vc).ownBlock ≠ some T)
          case first =>
            cases b5 with
            | true =>
              have HN : Hid (noteL l10 true ((k : Int), 5, a) = l10 ++ [((k : Int), 5, a)]) := Lib.hid rfl
              go_wp2_with (at_builtin; go_must (refine wpList_push rfl _ _ 51 rfl R 61 i0 (.agg #[.int .i64 0, .int .i64 0, .string { data := #[] }]) 3 32 Try.underlying51 hi hz0 hz1 hz2 rfl (by decide) _ _ _ rfl (HO10.out.alloc _) ⟨U11.heap.size, 0, none⟩ 1 1 (encG ((k : Int), 5, a)) rfl rfl cells3_new (encG_one ((k : Int), 5, a)) (by unfold maxLen; omega) (by omega) (by have := HB10.out.size; have := HS0.out; simp; omega) ?_; intro v' w2 hown' hgrow hfr; obtain ⟨va', vc', rfl, kb1, kb2, kb3⟩ := ownG_pushed HO10.out (by have := HB10.out.size; have := HS0.out; omega) hown' hgrow; have KB1 := Lib.hid kb1; have KB2 := Lib.hid kb2; have KB3 := Lib.hid kb3; clear hown' hgrow hfr kb1 kb2 kb3))
              go_meet
              have kT := KB3.out _ _ HT10.out (HN10.out)
              exact ⟨va', vc', by rw [HN.out, List.length_append]; rfl, by rw [HN.out]; exact KB1.out, kT, HB10.out.trans KB2.out, by rw [HN.out]; exact KB1.out.ne kT (by decide)⟩
            | false =>
              have HN : Hid (noteL l10 false ((k : Int), 5, a) = l10) := Lib.hid rfl
              go_wp2_with fail
              go_meet
              exact ⟨_, _, by rw [HN.out], by rw [HN.out]; exact HO10.out, HT10.out, HB10.out, by rw [HN.out]; exact HN10.out⟩
          case rest =>
          obtain ⟨va11, vc11, rfl, ho11, ht11, hb11, hn11⟩ := hcut
          generalize wc = V11 at *
          have HO11 := Lib.hid ho11
          have HT11 := Lib.hid ht11
          have HB11 := Lib.hid hb11
          have HN11 := Lib.hid hn11
          have hl11 : (noteL l10 b5 ((k : Int), 5, a)).length ≤ 6901 := Nat.le_trans (noteL_len _ _ _) (by omega)
          clear z0 z1 z2 z3 p0 p1 p2 y0 HO10 HT10 HB10 HN10
          obtain ⟨z0, z1, z2, z3, -⟩ := cells13q ht11
          obtain ⟨p0, p1, p2, -, -, -⟩ := cells3h ((hb11.block w.heap.size (by omega)).trans G0.out)
          have y0 := cellB (HBw0.out.trans (hb11.mono (by omega))) Y0.out
          clear ho11 ht11 hb11 hn11
          generalize hll11 : noteL l10 b5 ((k : Int), 5, a) = l11 at *
          go_upto_region 23 with fail
          refine E_region (S := (fun W => W.cell? ⟨T, 3, none⟩ = some (.slice (some ⟨ag, ao, none⟩) s.after.length ac1) ∧ W.cell? ⟨T, 0, none⟩ = some (.string s.name) ∧ W.cell? ⟨ag, ao + j, none⟩ = some (.string a))) 7 (by kernel_rfl) ⟨z3, z0, y0⟩ (fun _ _ _ _ _ h => h) (fun Q' hQ hK' hHeld => ?_)
          refine E_take0 hQ (fun _ => hHeld) 0 (v := ?i2v1) rfl rfl (by kernel_rfl) (by kernel_rfl) (by kernel_rfl) (by decide) (by rfl) ?i2y1 ?i2r1
          case i2y1 => (intro w; go_simp; (try with_reducible rfl))
          (try simp only [Act.put, List.setIfInBounds_toArray, List.set_cons_zero, List.set_cons_succ])
          refine E_take hQ hHeld 1 (v := ?i2v2) rfl rfl (by kernel_rfl) (by kernel_rfl) (by kernel_rfl) (by kernel_rfl) (by kernel_rfl) (by rfl) ?i2y2 ?i2r2
          case i2y2 => (intro w hSw; (try dsimp only at hSw); go_simp; (try with_reducible rfl))
          (try simp only [Act.put, List.setIfInBounds_toArray, List.set_cons_zero, List.set_cons_succ])
          refine E_take0 hQ (fun _ => hHeld) 2 (v := ?i2v3) rfl rfl (by kernel_rfl) (by kernel_rfl) (by kernel_rfl) (by decide) (by rfl) ?i2y3 ?i2r3
          case i2y3 => (intro w; go_simp; (try with_reducible rfl))
          (try simp only [Act.put, List.setIfInBounds_toArray, List.set_cons_zero, List.set_cons_succ])
          refine E_take0 hQ (fun _ => hHeld) 3 (v := ?i2v4) rfl rfl (by kernel_rfl) (by kernel_rfl) (by kernel_rfl) (by decide) (by rfl) ?i2y4 ?i2r4
          case i2y4 => (intro w; go_simp; (try with_reducible rfl))
          (try simp only [Act.put, List.setIfInBounds_toArray, List.set_cons_zero, List.set_cons_succ])
          refine E_take hQ hHeld 4 (v := ?i2v5) rfl rfl (by kernel_rfl) (by kernel_rfl) (by kernel_rfl) (by kernel_rfl) (by kernel_rfl) (by rfl) ?i2y5 ?i2r5
          case i2y5 => (intro w hSw; (try dsimp only at hSw); go_simp; (try with_reducible rfl))
          (try simp only [Act.put, List.setIfInBounds_toArray, List.set_cons_zero, List.set_cons_succ])
          refine E_take0 hQ (fun _ => hHeld) 5 (v := ?i2v6) rfl rfl (by kernel_rfl) (by kernel_rfl) (by kernel_rfl) (by decide) (by rfl) ?i2y6 ?i2r6
          case i2y6 => (intro w; go_simp; (try with_reducible rfl))
          (try simp only [Act.put, List.setIfInBounds_toArray, List.set_cons_zero, List.set_cons_succ])
          refine E_take hQ hHeld 6 (v := ?i2v7) rfl rfl (by kernel_rfl) (by kernel_rfl) (by kernel_rfl) (by kernel_rfl) (by kernel_rfl) (by rfl) ?i2y7 ?i2r7
          case i2y7 => (intro w hSw; (try dsimp only at hSw); go_simp; (try with_reducible rfl))
          (try simp only [Act.put, List.setIfInBounds_toArray, List.set_cons_zero, List.set_cons_succ])
          refine E_one 7 (by kernel_rfl) rfl (by rfl) (fun K hK => ?_)
          go_simp
          (try simp only [Act.put, List.setIfInBounds_toArray, List.set_cons_zero, List.set_cons_succ])
          refine hK.out _ _ (fun _ h => absurd rfl h) (fun _ => ?_)
          clear hK hHeld
          (try simp only [Act.put, List.setIfInBounds_toArray, List.set_cons_zero, List.set_cons_succ])
          refine E_done (by kernel_rfl) ?_ _
          refine hK'.out _ _ ?_
          have hbc : Below V11.heap.size V11 V11.drew := (Below.refl _ _).drew
          clear hK' hQ
          generalize V11.drew = U12 at *
          have ho := HO11.out.below hbc
          have ht := (hbc.block T (Array.getElem?_eq_some_iff.1 HT11.out).1).trans HT11.out
          have hb := HB11.out.trans (hbc.mono (by have := HB11.out.size; have := HS0.out; omega))
          clear z0 z1 z2 z3 p0 p1 p2 y0 HO11 HT11 HB11 hbc
          have HO11 := Lib.hid ho
          have HT11 := Lib.hid ht
          have HB11 := Lib.hid hb
          obtain ⟨z0, z1, z2, z3, -⟩ := cells13q ht
          obtain ⟨p0, p1, p2, -, -, -⟩ := cells3h ((hb.block w.heap.size (by omega)).trans G0.out)
          have y0 := cellB (HBw0.out.trans (hb.mono (by omega))) Y0.out
          clear ho ht hb
          go_upto_if 120 with fail
          go_cut [3] (fun s3 wx => ∃ (va : Option Addr) (vc : Nat), s3 = .slice va (noteL l11 b6 ((k : Int), 8, s.name)).length vc ∧ OwnG wx R va vc (noteL l11 b6 ((k : Int), 8, s.name)) ∧ wx.heap[T]? = some (.cells #[.string s.name, .string s.action, .string s.undo, .slice (some ⟨ag, ao, none⟩) s.after.length ac1, .int .i64 s.most, .int .i64 s.first, .int .i64 s.factor, .int .i64 s.limit, .int .u8 (s.note.kind : Int), .string s.note.text, .slice ka1 s.note.keys.length kc1, .slice ba1 s.note.kids.length bc1, .int .i64 s.note.line] 45 (0, 0)) ∧ Below R w1 wx ∧ (Value.slice va (noteL l11 b6 ((k : Int), 8, s.name)).length vc).ownBlock ≠ some T)
          case first =>
            cases b6 with
            | true =>
              have HN : Hid (noteL l11 true ((k : Int), 8, s.name) = l11 ++ [((k : Int), 8, s.name)]) := Lib.hid rfl
              go_wp2_with (at_builtin; go_must (refine wpList_push rfl _ _ 51 rfl R 61 i0 (.agg #[.int .i64 0, .int .i64 0, .string { data := #[] }]) 3 32 Try.underlying51 hi hz0 hz1 hz2 rfl (by decide) _ _ _ rfl (HO11.out.alloc _) ⟨U12.heap.size, 0, none⟩ 1 1 (encG ((k : Int), 8, s.name)) rfl rfl cells3_new (encG_one ((k : Int), 8, s.name)) (by unfold maxLen; omega) (by omega) (by have := HB11.out.size; have := HS0.out; simp; omega) ?_; intro v' w2 hown' hgrow hfr; obtain ⟨va', vc', rfl, kb1, kb2, kb3⟩ := ownG_pushed HO11.out (by have := HB11.out.size; have := HS0.out; omega) hown' hgrow; have KB1 := Lib.hid kb1; have KB2 := Lib.hid kb2; have KB3 := Lib.hid kb3; clear hown' hgrow hfr kb1 kb2 kb3))
              go_meet
              have kT := KB3.out _ _ HT11.out (HN11.out)
              exact ⟨va', vc', by rw [HN.out, List.length_append]; rfl, by rw [HN.out]; exact KB1.out, kT, HB11.out.trans KB2.out, by rw [HN.out]; exact KB1.out.ne kT (by decide)⟩
            | false =>
              have HN : Hid (noteL l11 false ((k : Int), 8, s.name) = l11) := Lib.hid rfl
              go_wp2_with fail
              go_meet
              exact ⟨_, _, by rw [HN.out], by rw [HN.out]; exact HO11.out, HT11.out, HB11.out, by rw [HN.out]; exact HN11.out⟩
          case rest =>
          obtain ⟨va12, vc12, rfl, ho12, ht12, hb12, hn12⟩ := hcut
          generalize wc = V12 at *
          have HO12 := Lib.hid ho12
          have HT12 := Lib.hid ht12
          have HB12 := Lib.hid hb12
          have HN12 := Lib.hid hn12
          have hl12 : (noteL l11 b6 ((k : Int), 8, s.name)).length ≤ 6902 := Nat.le_trans (noteL_len _ _ _) (by omega)
          clear z0 z1 z2 z3 p0 p1 p2 y0 HO11 HT11 HB11 HN11
          obtain ⟨z0, z1, z2, z3, -⟩ := cells13q ht12
          obtain ⟨p0, p1, p2, -, -, -⟩ := cells3h ((hb12.block w.heap.size (by omega)).trans G0.out)
          have y0 := cellB (HBw0.out.trans (hb12.mono (by omega))) Y0.out
          clear ho12 ht12 hb12 hn12
          generalize hll12 : noteL l11 b6 ((k : Int), 8, s.name) = l12 at *
          go_upto_region 25 with fail
          refine E_region (S := (fun W => W.cell? ⟨T, 3, none⟩ = some (.slice (some ⟨ag, ao, none⟩) s.after.length ac1) ∧ W.cell? ⟨ag, ao + j, none⟩ = some (.string a))) 9 (by kernel_rfl) ⟨z3, y0⟩ (fun _ _ _ _ _ h => h) (fun Q' hQ hK' hHeld => ?_)
          refine E_take0 hQ (fun _ => hHeld) 0 (v := ?i3v1) rfl rfl (by kernel_rfl) (by kernel_rfl) (by kernel_rfl) (by decide) (by rfl) ?i3y1 ?i3r1
          case i3y1 => (intro w; go_simp; (try with_reducible rfl))
          (try simp only [Act.put, List.setIfInBounds_toArray, List.set_cons_zero, List.set_cons_succ])
          refine E_take hQ hHeld 1 (v := ?i3v2) rfl rfl (by kernel_rfl) (by kernel_rfl) (by kernel_rfl) (by kernel_rfl) (by kernel_rfl) (by rfl) ?i3y2 ?i3r2
          case i3y2 => (intro w hSw; (try dsimp only at hSw); go_simp; (try with_reducible rfl))
          (try simp only [Act.put, List.setIfInBounds_toArray, List.set_cons_zero, List.set_cons_succ])
          refine E_take0 hQ (fun _ => hHeld) 2 (v := ?i3v3) rfl rfl (by kernel_rfl) (by kernel_rfl) (by kernel_rfl) (by decide) (by rfl) ?i3y3 ?i3r3
          case i3y3 => (intro w; go_simp; (try with_reducible rfl))
          (try simp only [Act.put, List.setIfInBounds_toArray, List.set_cons_zero, List.set_cons_succ])
          refine E_take0 hQ (fun _ => hHeld) 3 (v := ?i3v4) rfl rfl (by kernel_rfl) (by kernel_rfl) (by kernel_rfl) (by decide) (by rfl) ?i3y4 ?i3r4
          case i3y4 => (intro w; go_simp; (try with_reducible rfl))
          (try simp only [Act.put, List.setIfInBounds_toArray, List.set_cons_zero, List.set_cons_succ])
          refine E_take0 hQ (fun _ => hHeld) 4 (v := ?i3v5) rfl rfl (by kernel_rfl) (by kernel_rfl) (by kernel_rfl) (by decide) (by rfl) ?i3y5 ?i3r5
          case i3y5 => (intro w; go_simp; (try with_reducible rfl))
          (try simp only [Act.put, List.setIfInBounds_toArray, List.set_cons_zero, List.set_cons_succ])
          refine E_take hQ hHeld 5 (v := ?i3v6) rfl rfl (by kernel_rfl) (by kernel_rfl) (by kernel_rfl) (by kernel_rfl) (by kernel_rfl) (by rfl) ?i3y6 ?i3r6
          case i3y6 => (intro w hSw; (try dsimp only at hSw); go_simp; (try with_reducible rfl))
          (try simp only [Act.put, List.setIfInBounds_toArray, List.set_cons_zero, List.set_cons_succ])
          refine E_take0 hQ (fun _ => hHeld) 6 (v := ?i3v7) rfl rfl (by kernel_rfl) (by kernel_rfl) (by kernel_rfl) (by decide) (by rfl) ?i3y7 ?i3r7
          case i3y7 => (intro w; go_simp; (try with_reducible rfl))
          (try simp only [Act.put, List.setIfInBounds_toArray, List.set_cons_zero, List.set_cons_succ])
          refine E_take0 hQ (fun _ => hHeld) 7 (v := ?i3v8) rfl rfl (by kernel_rfl) (by kernel_rfl) (by kernel_rfl) (by decide) (by rfl) ?i3y8 ?i3r8
          case i3y8 => (intro w; go_simp; (try with_reducible rfl))
          (try simp only [Act.put, List.setIfInBounds_toArray, List.set_cons_zero, List.set_cons_succ])
          refine E_take hQ hHeld 8 (v := ?i3v9) rfl rfl (by kernel_rfl) (by kernel_rfl) (by kernel_rfl) (by kernel_rfl) (by kernel_rfl) (by rfl) ?i3y9 ?i3r9
          case i3y9 => (intro w hSw; (try dsimp only at hSw); go_simp; (try with_reducible rfl))
          (try simp only [Act.put, List.setIfInBounds_toArray, List.set_cons_zero, List.set_cons_succ])
          refine E_one 9 (by kernel_rfl) rfl (by rfl) (fun K hK => ?_)
          go_simp
          refine (ramong_any (s.after.take j) a _ _ (by rw [hlt]; exact HTK.out _ (HBw0.out.trans (HB12.out.drew.mono (by omega))))).mono ?_
          rintro e W9 ⟨rfl, rfl⟩
          rw [hb7]
          (skip)
          refine hK.out _ _ (fun _ h => absurd rfl h) (fun _ => ?_)
          clear hK hHeld
          (try simp only [Act.put, List.setIfInBounds_toArray, List.set_cons_zero, List.set_cons_succ])
          refine E_done (by kernel_rfl) ?_ _
          refine hK'.out _ _ ?_
          have hbc : Below V12.heap.size V12 V12.drew := (Below.refl _ _).drew
          clear hK' hQ
          generalize V12.drew = U13 at *
          have ho := HO12.out.below hbc
          have ht := (hbc.block T (Array.getElem?_eq_some_iff.1 HT12.out).1).trans HT12.out
          have hb := HB12.out.trans (hbc.mono (by have := HB12.out.size; have := HS0.out; omega))
          clear z0 z1 z2 z3 p0 p1 p2 y0 HO12 HT12 HB12 hbc
          have HO12 := Lib.hid ho
          have HT12 := Lib.hid ht
          have HB12 := Lib.hid hb
          obtain ⟨z0, z1, z2, z3, -⟩ := cells13q ht
          obtain ⟨p0, p1, p2, -, -, -⟩ := cells3h ((hb.block w.heap.size (by omega)).trans G0.out)
          have y0 := cellB (HBw0.out.trans (hb.mono (by omega))) Y0.out
          clear ho ht hb
          go_upto_if 137 with fail
          cases b7 with
          | true =>
            have HN : Hid (noteL l12 true ((k : Int), 6, a) = l12 ++ [((k : Int), 6, a)]) := Lib.hid rfl
            go_wp2_with (at_builtin; go_must (refine wpList_push rfl _ _ 51 rfl R 61 i0 (.agg #[.int .i64 0, .int .i64 0, .string { data := #[] }]) 3 32 Try.underlying51 hi hz0 hz1 hz2 rfl (by decide) _ _ _ rfl (HO12.out.alloc _) ⟨U13.heap.size, 0, none⟩ 1 1 (encG ((k : Int), 6, a)) rfl rfl cells3_new (encG_one ((k : Int), 6, a)) (by unfold maxLen; omega) (by omega) (by have := HB12.out.size; have := HS0.out; simp; omega) ?_; intro v' w2 hown' hgrow hfr; obtain ⟨va', vc', rfl, kb1, kb2, kb3⟩ := ownG_pushed HO12.out (by have := HB12.out.size; have := HS0.out; omega) hown' hgrow; have KB1 := Lib.hid kb1; have KB2 := Lib.hid kb2; have KB3 := Lib.hid kb3; clear hown' hgrow hfr kb1 kb2 kb3))
            have kT := KB3.out _ _ HT12.out HN12.out
            have hlN : (noteL l12 true ((k : Int), 6, a)).length = l12.length + 1 := by rw [HN.out, List.length_append]; rfl
            go_roundg (s.after.length + 1 - (j + 1))
            case measure => omega
            case rel => exact ⟨j + 1, va', vc', _, by omega, by omega, by go_num, rfl, Lib.hid (by rw [HRS.out, hlN]), Lib.hid (by rw [HRS.out, HN.out]; exact KB1.out), Lib.hid kT, Lib.hid (HB12.out.trans KB2.out), Lib.hid (by have := KB1.out.ne kT (by decide); simpa using this)⟩
          | false =>
            have HN : Hid (noteL l12 false ((k : Int), 6, a) = l12) := Lib.hid rfl
            clear z0 z1 z2 z3 p0 p1 p2 y0
            go_wp2_with fail
            go_roundg (s.after.length + 1 - (j + 1))
            case measure => omega
            case rel => exact ⟨j + 1, va12, vc12, _, by omega, by omega, by go_num, rfl, Lib.hid (by rw [HRS.out, HN.out]), Lib.hid (by rw [HRS.out, HN.out]; exact HO12.out), HT12, HB12, HN12⟩
        · have d2 : decide ((j : Int) < (s.after.length : Int)) = false := decide_eq_false (by omega)
          have hj1 : ¬ (j : Int) < (s.after.length : Int) := by omega
          have HF : Hid (rChkN d.steps 0 (d.steps.take (k + 1)) (headN d) = rowsN d.steps k s [] (s.after.take j) l4) := Lib.hid (by rw [HCS2.out, List.take_of_length_le (by omega)])
          go_wp2_with fail
          go_roundg (d.steps.length + 1 - (k + 1))
          case measure => omega
          case rel => exact ⟨k + 1, va10, vc10, n10, by omega, by omega, by go_num, (by first | rfl | rw [hn10]), Lib.hid (by rw [HF.out]; exact hn10), Lib.hid (by rw [HF.out]; exact HO10.out), HB10⟩
    · have d1 : decide ((k : Int) < (d.steps.length : Int)) = false := decide_eq_false (by omega)
      have hk1 : ¬ (k : Int) < (d.steps.length : Int) := by omega
      rw [List.take_of_length_le (by omega)] at hrl hnl HOR
      subst hnl
      have HDG := Lib.hid (HOR.out.read HOKK.out)
      have HOKS := Lib.hid (fun x (hx : x ∈ sortD (rChkN d.steps 0 d.steps (headN d))) => HOKK.out x ((sortD_mem _ x).1 hx))
      go_wp2_with fail
      refine (rSort_any _ _ _ HDG.out (by omega)).mono ?_
      rintro e w6 ⟨ua, uc, rfl, ho6, hb6⟩
      have HDF := Lib.hid (ho6.read HOKS.out)
      have HBF := Lib.hid (HBW.out.trans (hb6.mono (by have := HBW.out.size; omega)))
      clear ho6 hb6
      go_wp2_with fail
      go_ret
      exact ⟨_, _, rfl, HDF.out, HBF.out⟩
end Go.Proofs.Ytbnggfhofdpdcaa
