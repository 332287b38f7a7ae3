/-
  names.Check: what its second loop keeps.
-/
import Derived.Test.YtgfiogjfgbegpaaGreatBz4
import Derived.Test.YtgfiogjfgbegpaaGreatBz35
import Derived.Test.YtgfiogjfgbegpaaGreatBz49
import Derived.Test.YtgfiogjfgbegpaaGreatBz50
namespace Go.Proofs.YtgfiogjfgbegpaaGreat
open Go.RowKit Go.WideShapes Go.Maps

theorem stepN_len (all : List StepD) (i : Nat) (s : StepD) (l : List DiagD) : (stepN all i s l).length ≤ l.length + 4 := by
  unfold stepN
  refine Nat.le_trans (noteL_len _ _ _) ?_
  refine Nat.succ_le_succ (Nat.le_trans (noteL_len _ _ _) ?_)
  refine Nat.succ_le_succ (Nat.le_trans (noteL_len _ _ _) ?_)
  exact Nat.succ_le_succ (noteL_len _ _ _)
theorem stepsN_len (all : List StepD) : ∀ (r : List StepD) (i : Nat) (l : List DiagD), (stepsN all i r l).length ≤ l.length + 4 * r.length
  | [], i, l => by simp [stepsN]
  | s :: r, i, l => by
    rw [stepsN, List.length_cons]
    have := stepsN_len all r (i + 1) (stepN all i s l)
    have := stepN_len all i s l
    omega
theorem stepsN_snoc (all : List StepD) (s : StepD) : ∀ (r : List StepD) (i : Nat) (l : List DiagD), stepsN all i (r ++ [s]) l = stepN all (i + r.length) s (stepsN all i r l)
  | [], i, l => rfl
  | t :: r, i, l => by
    rw [List.cons_append, stepsN, stepsN_snoc all s r (i + 1) _, stepsN, List.length_cons, show i + 1 + r.length = i + (r.length + 1) by omega]
theorem refN_len (all : List StepD) (pre : List RefD) (r : RefD) (l : List DiagD) : (refN all pre r l).length ≤ l.length + 3 := by
  unfold refN
  refine Nat.le_trans (noteL_len _ _ _) ?_
  refine Nat.succ_le_succ (Nat.le_trans (noteL_len _ _ _) ?_)
  exact Nat.succ_le_succ (noteL_len _ _ _)
theorem refsN_len (all : List StepD) : ∀ (r pre : List RefD) (l : List DiagD), (refsN all pre r l).length ≤ l.length + 3 * r.length
  | [], pre, l => by simp [refsN]
  | s :: r, pre, l => by
    rw [refsN, List.length_cons]
    have := refsN_len all r (pre ++ [s]) (refN all pre s l)
    have := refN_len all pre s l
    omega
theorem headN_len (d : DefD) : (headN d).length ≤ 2 := by
  unfold headN
  exact Nat.le_trans (noteL_len _ _ _) (Nat.succ_le_succ (noteL_len _ _ _))
theorem idxStep_get (n : ByteArray) : ∀ (l : List StepD) (i k : Nat) (hk : k < l.length), l[k].name = n → 0 ≤ idxStep l n i
  | a :: l, i, 0, _, h => by
    have h' : a.name = n := h
    rw [idxStep, if_pos h']; omega
  | a :: l, i, k + 1, hk, h => by
    rw [idxStep]
    split
    · omega
    · exact idxStep_get n l (i + 1) k (by simpa using hk) (by simpa using h)
theorem plN_get {l : List StepD} {k : Nat} (hk : k < l.length) : (plN l l[k].name).getD 0 = idxStep l l[k].name 0 := by
  unfold plN
  rw [if_pos (idxStep_get _ l 0 k hk rfl)]
  rfl
structure StW (w0 W : World) (b : Nat) (dc : Array Value) (nf : Value) (va : Option Addr) (vc : Nat) (l : List DiagD) : Prop where
  out : OutG W (b + 1) va vc l
  note : W.heap[b + 1 + 1]? = some (.cells #[nf] 155 (0, 0))
  dfb : W.heap[b]? = some (.cells dc 24 (0, 0))
  low : Below b w0 W
theorem StW.drew {w0 W : World} {b vc : Nat} {dc : Array Value} {nf : Value} {va : Option Addr} {l : List DiagD} (h : StW w0 W b dc nf va vc l) : StW w0 W.drew b dc nf va vc l := ⟨h.out.below ((Below.refl _ _).drew), h.note, h.dfb, h.low.drew⟩
theorem StW.below {w0 W W' : World} {b vc : Nat} {dc : Array Value} {nf : Value} {va : Option Addr} {l : List DiagD} (h : StW w0 W b dc nf va vc l) (hb : Below W.heap.size W W') : StW w0 W' b dc nf va vc l :=
  ⟨h.out.below hb, (hb.block _ (Array.getElem?_eq_some_iff.1 h.note).1).trans h.note, (hb.block _ (Array.getElem?_eq_some_iff.1 h.dfb).1).trans h.dfb, h.low.trans (hb.mono (Nat.le_of_lt (Array.getElem?_eq_some_iff.1 h.dfb).1))⟩
theorem StW.nlt {w0 W : World} {b vc : Nat} {dc : Array Value} {nf : Value} {va : Option Addr} {l : List DiagD} (h : StW w0 W b dc nf va vc l) : b + 1 + 1 < W.heap.size := (Array.getElem?_eq_some_iff.1 h.note).1
theorem StW.ncell {w0 W : World} {b vc : Nat} {dc : Array Value} {nf : Value} {va : Option Addr} {l : List DiagD} (h : StW w0 W b dc nf va vc l) : W.cell? ⟨b + 1 + 1, 0, none⟩ = some nf := Boxed.cell (t := 155) h.note
theorem StW.noted {w0 W w' : World} {b vc : Nat} {dc : Array Value} {nf : Value} {va : Option Addr} {l l' : List DiagD} (h : StW w0 W b dc nf va vc l) (hn : Noted W w' (b + 1) va vc l' l) :
    ∃ va' vc', StW w0 w' b dc nf va' vc' l' ∧ Below (b + 1) W w' ∧ (∀ q, q < W.heap.size → (Value.slice va l.length vc).ownBlock ≠ some q → (Value.slice va' l'.length vc').ownBlock ≠ some q) ∧ (∀ q, q < W.heap.size → q ≠ b + 1 → (Value.slice va l.length vc).ownBlock ≠ some q → w'.heap[q]? = W.heap[q]?) ∧
      (∀ (q : Nat) (c : Array Value) (t : TypeId) (fr : Nat × Nat), W.heap[q]? = some (.cells c t fr) → t ≠ 154 → q ≠ b + 1 → w'.heap[q]? = some (.cells c t fr)) := by
  obtain ⟨va', vc', h1, h2, h3, h4⟩ := hn
  have key : ∀ (q : Nat) (c : Array Value) (t : TypeId) (fr : Nat × Nat), W.heap[q]? = some (.cells c t fr) → t ≠ 154 → q ≠ b + 1 → w'.heap[q]? = some (.cells c t fr) :=
    fun q c t fr hq ht hqb => h3 q _ hq hqb (h.out.own.ne hq ht)
  refine ⟨va', vc', ⟨h1, key _ _ _ _ h.note (by decide) (by omega), key _ _ _ _ h.dfb (by decide) (by omega), h.low.trans (h2.mono (by omega))⟩, h2, h4, fun q hq hqb hqo => ?_, key⟩
  have e := Array.getElem?_eq_getElem hq
  rw [h3 q _ e hqb hqo, e]
theorem StW.map {w0 W w' : World} {b vc : Nat} {dc : Array Value} {nf : Value} {va : Option Addr} {l : List DiagD} (h : StW w0 W b dc nf va vc l) (hs : ∀ q, q < W.heap.size → q ≠ b + 1 → (Value.slice va l.length vc).ownBlock ≠ some q → w'.heap[q]? = W.heap[q]?) {κ : Type} {enc : κ → Value} {P : Program} {k e n M : Nat} {g : κ → Option Int} (hm : MapO P k e enc W M n g) : MapO P k e enc w' M n g :=
  hm.block (hs M hm.lt (fun e => hm.ne (h.out.box) e.symm) (h.out.own.nemap hm))

theorem MapO.step {n0 : Nat} {S S' : Nat → Prop} {W W' : World} {P : Program} {k e : TypeId} {κ : Type} {enc : κ → Value} {b n : Nat} {g : κ → Option Int} (h : Step n0 S S' W W') (hm : MapO P k e enc W b n g) (hS : ¬ S b) : MapO P k e enc W' b n g ∧ ¬ S' b :=
  ⟨hm.block (h.same b hm.lt hS), fun hs' => by rcases h.new b hs' with h1 | ⟨h1, _⟩; exact hS h1; have := hm.lt; omega⟩
structure NkJ (w0 : World) (b R : Nat) (dc : Array Value) (nf : Value) (all : List StepD) (l0 : List DiagD) (S : Nat → Prop) (pre : List RefD) (W : World) (va : Option Addr) (vc nM : Nat) : Prop where
  st : StW w0 W b dc nf va vc (refsN all [] pre l0)
  map : MapO Tryz.prog 158 3 aggO W R nM (cntI (pre.map keyR))
  few : nM ≤ pre.length
  mbox : Boxed W (R + 1) 156 (.map (some R))
  o1 : ¬ S (b + 1)
  o2 : ¬ S (b + 1 + 1)
  o3 : ¬ S R
  o4 : ¬ S (R + 1)
  o5 : ∀ g, (Value.slice va (refsN all [] pre l0).length vc).ownBlock = some g → ¬ S g
def nkJ (w0 : World) (b R : Nat) (dc : Array Value) (nf : Value) (all : List StepD) (l0 : List DiagD) : (Nat → Prop) → List RefD → World → Prop := fun S pre W => ∃ va vc nM, NkJ w0 b R dc nf all l0 S pre W va vc nM
theorem nkJ_step (w0 : World) (b R : Nat) (dc : Array Value) (nf : Value) (all : List StepD) (l0 : List DiagD) : Stable (b + 1) (nkJ w0 b R dc nf all l0) := by
  rintro S S' s W W' hS ⟨va, vc, nM, h⟩ hs
  obtain ⟨k1, k2⟩ := hs.boxed h.st.out.box h.o1
  obtain ⟨k3, k4⟩ := hs.owns h.st.out.own h.o5
  obtain ⟨k5, k6⟩ := hs.boxed (B := b + 1 + 1) h.st.note h.o2
  obtain ⟨k7, k8⟩ := MapO.step hs h.map h.o3
  obtain ⟨k9, k10⟩ := hs.boxed h.mbox h.o4
  exact ⟨va, vc, nM, ⟨⟨k1, k3⟩, k5, (hs.below.block b (Nat.lt_succ_self b)).trans h.st.dfb, h.st.low.trans (hs.below.mono (Nat.le_succ b))⟩, k7, h.few, k9, k2, k6, k8, k10, k4⟩
theorem NkN {w0 W w' : World} {b R T nM vc : Nat} {dc : Array Value} {nf : Value} {va : Option Addr} {l l' : List DiagD} {S : Nat → Prop} {g : Nat × ByteArray → Option Int} {tc : Array Value} {tt : TypeId} {n0 : Nat}
    (h : StW w0 W b dc nf va vc l) (hm : MapO Tryz.prog 158 3 aggO W R nM g) (hx : Boxed W (R + 1) 156 (.map (some R))) (hT : W.heap[T]? = some (.cells tc tt (0, 0))) (htt : tt ≠ 154) (hTb : T ≠ b + 1) (hRb : R + 1 ≠ b + 1)
    (hS : ∀ k, S k → n0 ≤ k ∧ k < W.heap.size) (h1 : ¬ S (b + 1)) (h5 : ∀ g, (Value.slice va l.length vc).ownBlock = some g → ¬ S g) (hn0 : n0 ≤ b + 1) (hn : Noted W w' (b + 1) va vc l' l) :
    ∃ va' vc', StW w0 w' b dc nf va' vc' l' ∧ MapO Tryz.prog 158 3 aggO w' R nM g ∧ Boxed w' (R + 1) 156 (.map (some R)) ∧ w'.heap[T]? = some (.cells tc tt (0, 0)) ∧ (∀ g, (Value.slice va' l'.length vc').ownBlock = some g → ¬ S g) ∧ Keep n0 S W w' ∧ Below (b + 1) W w' := by
  obtain ⟨va', vc', k1, k2, k3, k4, k5⟩ := h.noted hn
  refine ⟨va', vc', k1, h.map k4 hm, k5 _ _ _ _ hx (by decide) hRb, k5 _ _ _ _ hT htt hTb, fun g hg hs => ?_, ⟨k2.mono hn0, fun q hq => ?_⟩, k2⟩
  · have hlt := (hS g hs).2
    by_cases e : (Value.slice va l.length vc).ownBlock = some g
    · exact h5 g e hs
    · exact k3 g hlt e hg
  · exact k4 q (hS q hq).2 (fun e => h1 (e ▸ hq)) (fun e => h5 q e hq)
theorem wpIn_rfB {P : Program} {α : Type} {g : Operand} {ps : Array Tmp} {assign body : Code} {Q : Exit → Act → World → Prop} {a : Act} {w : World}
    {gf : Nat} {lb : Array Value} (hg : a.eval g = .func (.func gf) #[] lb) (eg : ∀ args w, (callFunc gf args).run P w = .ok (.enter gf args) w)
    {encs : α → Array Value} {xs : List α} {n0 : Nat} {S0 : Nat → Prop} {fin : Prop} (hit : IterAt P n0 gf lb encs xs fin S0 w)
    (hn0 : n0 ≤ w.heap.size) (hS0 : ∀ k, S0 k → n0 ≤ k ∧ k < w.heap.size) (hps : ∀ x, (encs x).size = ps.size)
    (J : (Nat → Prop) → List α → World → Prop) (Jx : Code → (Nat → Prop) → List α → World → Prop) (hfin : ¬ fin → ∀ S W, ¬ J S xs W) (hJ : Stable n0 J) (hJx : ∀ c, Stable n0 (Jx c)) (h0 : J S0 [] w)
    (F : α → Nat → Act) (cs : α → Array Value) (t : TypeId)
    (hassign : ∀ (l : Nat) (S : Nat → Prop) (pre : List α) (x : α) (W : World) (K : Act → World → Prop), (∀ k, S k → n0 ≤ k ∧ k < W.heap.size) → w.heap.size ≤ W.heap.size → J S pre W → (∀ b W', Keep n0 S W W' → J S pre W' → W'.heap[b]? = some (.cells (cs x) t (0, 0)) → K (F x b) W') →
      assign.wpIn (Fence.wide.inRound l) 0 P (Exit.then K (fun _ _ _ => False)) { tmps := (ps.zip (encs x)).foldl (fun t (p, v) => t.setIfInBounds p v) a.tmps, defers := [] } W)
    (hbody : ∀ (l : Nat) (S : Nat → Prop) (pre : List α) (x : α) (b : Nat) (W : World), (∀ k, S k → n0 ≤ k ∧ k < W.heap.size) → w.heap.size ≤ W.heap.size → S l → (∃ r, W.heap[l]? = some (.loop r)) → J S pre W → W.heap[b]? = some (.cells (cs x) t (0, 0)) → pre ++ [x] <+: xs →
      body.wpIn (Fence.wide.inRound l) 0 P (rfPost n0 S J Jx (pre ++ [x]) W) (F x b) W)
    (hdone : ∀ (D : Nat) (S : Nat → Prop) (W : World), w.heap.size ≤ D → (∀ k, S k → n0 ≤ k ∧ k < W.heap.size) → S D → J S xs W → W.heap[D]? = some (.deferred (some [])) → Q .normal { a with defers := { target := .collected D, args := #[] } :: a.defers } W)
    (hstop : ∀ (D : Nat) (c : Code) (S : Nat → Prop) (pre : List α) (W : World), w.heap.size ≤ D → (∀ k, S k → n0 ≤ k ∧ k < W.heap.size) → S D → pre <+: xs → Jx c S pre W → W.heap[D]? = some (.deferred (some [])) → c.wpIn Fence.wide 0 P Q { a with defers := { target := .collected D, args := #[] } :: a.defers } W) :
    (Code.rangeFunc g ps assign body).wpIn Fence.wide 0 P Q a w := by
  refine wpIn_rf hg eg hit hn0 hS0 hps J Jx hfin hJ hJx h0 (fun x a' W => ∃ b, a' = F x b ∧ W.heap[b]? = some (.cells (cs x) t (0, 0))) ?_ ?_ ?_ hdone hstop
  · rintro x a' l W W' hl hlt ⟨b, rfl, hb⟩ hs ⟨r, hr⟩
    have hne : b ≠ l := by rintro rfl; rw [hr] at hb; cases hb
    exact ⟨b, rfl, (hs.same b (Array.getElem?_eq_some_iff.1 hb).1 hne).trans hb⟩
  · exact fun l S pre x W K h1 h2 h3 h4 hk => hassign l S pre x W K h1 h2 h3 fun b W' k1 k2 k3 => hk _ W' k1 k2 ⟨b, rfl, k3⟩
  · rintro l S pre x a' W h1 h2 h3 h4 h5 ⟨b, rfl, hb⟩ h7
    exact hbody l S pre x b W h1 h2 h3 h4 h5 hb h7
end Go.Proofs.YtgfiogjfgbegpaaGreat

/-
  The law BoundsChecks: walk.
-/
namespace Go.Proofs.YtgfiogjfgbegpaaGreat
open Go Go.RowKit Go.WideShapes

theorem refsF_len (all : List StepD) {m : Nat} : ∀ (l : List StepD) (i : Nat), (∀ s ∈ l, s.after.length ≤ m) → (refsF all i l).length ≤ l.length * m
  | [], i, _ => by simp [refsF]
  | s :: l, i, h => by
    rw [refsF, List.length_append, List.length_cons, Nat.add_mul, Nat.one_mul]
    have h1 := refsF_len all l (i + 1) (fun t ht => h t (by simp [ht]))
    have h2 := h s (by simp)
    unfold rowRf
    rw [List.length_map]
    omega
theorem chk_ok {d : DefD} (hs : SmallD d) : ∀ x ∈ chkU d.steps d.steps.length (chkR 0 d.steps []), OkG x := by
  intro x hx
  have hl := hs.steps
  rw [chkU_mem, chkR_mem] at hx
  rcases hx with (h | ⟨i, s, hi, h⟩) | ⟨q, u, t, s, hq, hu, h1, h2, h3, h4, rfl⟩
  · cases h
  · have hil : i < d.steps.length := (List.getElem?_eq_some_iff.1 hi).1
    unfold rangeL at h
    simp only [noteL_mem, List.not_mem_nil, false_or] at h
    rcases h with ((⟨-, rfl⟩ | ⟨-, rfl⟩) | ⟨-, rfl⟩) | ⟨-, rfl⟩
    all_goals exact ⟨by unfold I64w; simp only; omega, by unfold I64w; simp only; omega, by simp only; decide⟩
  · obtain ⟨n, rfl, hn⟩ := depsD_in d.steps q u t h2
    have := (hs.each s (List.mem_of_getElem? h3)).name
    exact ⟨by unfold I64w; simp only; omega, by unfold I64w; simp only; omega, by unfold maxLen; simp only; omega⟩
end Go.Proofs.YtgfiogjfgbegpaaGreat

/-
  Sagas: back: contract.
-/
namespace Go.Proofs.YtgfiogjfgbegpaaGreat
open Go Go.RowKit Go.Maps Go.WideShapes
attribute [local go_sem] Oper.semAt_some wide_fn wide_depth wide_fn' wide_depth'

end Go.Proofs.YtgfiogjfgbegpaaGreat

/-
  names.Check: contract.
-/
namespace Go.Proofs.YtgfiogjfgbegpaaGreat
open Go.RowKit Go.WideShapes Go.Maps
attribute [local go_sem] Oper.semAt_some wide_fn wide_depth wide_fn' wide_depth'

set_option maxRecDepth 100000 in
set_option maxHeartbeats 8000000 in
theorem nCheck_any (d : DefD) (cs : List Value) (sa : Option Addr) (sc : Nat) (w : World) (h : DefR w cs d sa sc) (hsm : SmallD d) (hrl : (refsF d.steps 0 d.steps).length ≤ 10000) (hok : ∀ x ∈ chkN d, OkG x) :
    Calls Tryz.prog 69 #[.agg cs.toArray] w fun e w' => ∃ va vc, e = .returned (.slice va (sortD (chkN d)).length vc) ∧ DgR w' (.slice va (sortD (chkN d)).length vc) (sortD (chkN d)) ∧ Below w.heap.size w w' := by
  have hlen := hsm.steps
  have hdn := hsm.name
  have HSM := Lib.hid hsm.each
  clear hsm
  obtain ⟨rfl, hna, hta, hva⟩ := h
  obtain ⟨_, _, he1, hl1, hl2⟩ := hva.form
  cases he1
  obtain ⟨gbl, g0, g1, g2, hsz⟩ := alloc3o w (.cells #[.string d.name, .string d.text, .slice sa d.steps.length sc] 24) (.cells #[.slice none 0 0] 76) (.cells #[(.func (.func 97) #[] #[.pointer (some ⟨w.heap.size + 1, 0, none⟩)])] 155)
  have h2 : StW w (((w.alloc (.cells #[.string d.name, .string d.text, .slice sa d.steps.length sc] 24)).alloc (.cells #[.slice none 0 0] 76)).alloc (.cells #[(.func (.func 97) #[] #[.pointer (some ⟨w.heap.size + 1, 0, none⟩)])] 155)) w.heap.size #[.string d.name, .string d.text, .slice sa d.steps.length sc] (.func (.func 97) #[] #[.pointer (some ⟨w.heap.size + 1, 0, none⟩)]) none 0 ([]) := ⟨⟨g1, OwnG.nil _ _⟩, g2, g0, gbl⟩
  obtain ⟨p0, p1, p2, -, -, -⟩ := cells3h (World.alloc_heap_new w (.cells #[.string d.name, .string d.text, .slice sa d.steps.length sc] 24))
  have HVA := Lib.hid hva
  have HATX : Hid (∀ t ∈ d.steps, ∀ x ∈ t.after, x.size ≤ maxLen) := Lib.hid (fun t ht x hx => Nat.le_trans ((HSM.out t ht).aft x hx) (by unfold maxLen; omega))
  have HOKK := Lib.hid hok
  have H2 := Lib.hid h2
  clear hva hok gbl g0 g1 g2 h2
  refine (callsIn_wide (n := 0)).1 ?_
  refine callsIn_of_wp_marks Tryz.func69 rfl trivial ?_ rfl
  simp only [Tryz.ntmps69, List.size_toArray, List.length_cons, List.length_nil, Nat.reduceAdd, Nat.reduceSub, Array.replicate_succ, Array.replicate_zero, List.push_toArray, List.append_toArray, List.nil_append, List.cons_append]
  gi_upto_region 3 with fail
  generalize (((w.alloc (.cells #[.string d.name, .string d.text, .slice sa d.steps.length sc] 24)).alloc (.cells #[.slice none 0 0] 76)).alloc (.cells #[(.func (.func 97) #[] #[.pointer (some ⟨w.heap.size + 1, 0, none⟩)])] 155)) = w2 at *
  clear p0 p1 p2
  obtain ⟨p0, p1, p2, -, -, -⟩ := cells3h H2.out.dfb
  have qn := H2.out.ncell
  have HE : Hid (headN d = noteL (noteL [] ((d.steps.length : Int) == 0) (-1, 17, { data := #[] })) (!rightB d.name) (-1, 18, d.name)) := Lib.hid (by
    unfold headN
    have : ((d.steps.length : Int) == 0) = decide (d.steps.length = 0) := by rw [Bool.eq_iff_iff]; simp
    rw [this]
    rfl)
  have HCK : Hid (chkN d = refsN d.steps [] (refsF d.steps 0 d.steps) (stepsN d.steps 0 d.steps (headN d))) := Lib.hid rfl
  gi_wp2_with fail
  generalize ((d.steps.length : Int) == 0) = eb at *
  refine (callsIn_wide.2 (nnote_any eb (-1) 17 { data := #[] } [] (w.heap.size + 1) 0 none w2 H2.out.out (by simp))).mono ?_
  rintro e w3 ⟨rfl, hnt⟩
  obtain ⟨va3, vc3, h3, -⟩ := H2.out.noted hnt
  have hl3 : (noteL [] eb (-1, 17, { data := #[] })).length ≤ 1 := noteL_len _ _ _
  have H3 := Lib.hid h3
  clear hnt h3 p0 p1 p2 qn H2 hsz
  generalize noteL [] eb (-1, 17, { data := #[] }) = l3 at *
  obtain ⟨p0, p1, p2, -, -, -⟩ := cells3h H3.out.dfb
  have qn := H3.out.ncell
  generalize hrb : rightB d.name = rb at *
  gi_upto_region 4 with fail
  refine E_regionW (S := (fun W => W.cell? ⟨w.heap.size + 1 + 1, 0, none⟩ = some (.func (.func 97) #[] #[.pointer (some ⟨w.heap.size + 1, 0, none⟩)]) ∧ W.cell? ⟨w.heap.size, 0, none⟩ = some (.string d.name))) 7 (by kernel_rfl) (by kernel_rfl) ⟨qn, p0⟩ (fun Q' hQ hK' hHeld => ?_)
  refine E_take hQ hHeld 0 (v := ?ev1) rfl rfl (by kernel_rfl) (by kernel_rfl) (by kernel_rfl) (by kernel_rfl) (by kernel_rfl) (by rfl) ?ey1 ?er1
  case ey1 => (intro w hSw; (try dsimp only at hSw); go_simp; (try with_reducible rfl))
  (try simp only [layE])
  refine E_take0 hQ (fun _ => hHeld) 1 (v := ?ev2) rfl rfl (by kernel_rfl) (by kernel_rfl) (by kernel_rfl) (by decide) (by rfl) ?ey2 ?er2
  case ey2 => (intro w; go_simp; (try with_reducible rfl))
  (try simp only [layE])
  refine E_take hQ hHeld 2 (v := ?ev3) rfl rfl (by kernel_rfl) (by kernel_rfl) (by kernel_rfl) (by kernel_rfl) (by kernel_rfl) (by rfl) ?ey3 ?er3
  case ey3 => (intro w hSw; (try dsimp only at hSw); go_simp; (try with_reducible rfl))
  (try simp only [layE])
  refine E_take0 hQ (fun _ => hHeld) 5 (v := ?ev4) rfl rfl (by kernel_rfl) (by kernel_rfl) (by kernel_rfl) (by decide) (by rfl) ?ey4 ?er4
  case ey4 => (intro w; go_simp; (try with_reducible rfl))
  (try simp only [layE])
  refine E_take hQ hHeld 6 (v := ?ev5) rfl rfl (by kernel_rfl) (by kernel_rfl) (by kernel_rfl) (by kernel_rfl) (by kernel_rfl) (by rfl) ?ey5 ?er5
  case ey5 => (intro w hSw; (try dsimp only at hSw); go_simp; (try with_reducible rfl))
  (try simp only [layE])
  refine E_one 3 (by kernel_rfl) rfl (by rfl) (fun K hK => ?_)
  go_simp
  refine (nRight_any d.name _ (by omega)).mono ?_
  rw [hrb]
  rintro e W3 ⟨rfl, rfl⟩
  (skip)
  refine hK.out _ _ (fun _ _ => hHeld) (fun hHeld' => ?_)
  replace hHeld := hHeld' (by rfl) (by decide)
  clear hK hHeld'
  (try simp only [layE])
  refine E_take0 hQ (fun _ => hHeld) 4 (v := ?ev6) rfl rfl (by kernel_rfl) (by kernel_rfl) (by kernel_rfl) (by decide) (by rfl) ?ey6 ?er6
  case ey6 => (intro w; go_simp; (try with_reducible rfl))
  (try simp only [layE])
  refine E_one 7 (by kernel_rfl) rfl (by rfl) (fun K hK => ?_)
  go_simp
  refine (nnote_any (!rb) (-1) 18 d.name _ (w.heap.size + 1) _ _ _ (H3.out.drew.out) (by omega)).mono ?_
  rintro e W7 ⟨rfl, hnt⟩
  have HNT := Lib.hid hnt
  clear hnt
  (skip)
  refine hK.out _ _ (fun _ h => absurd rfl h) (fun _ => ?_)
  clear hK hHeld
  (try simp only [layE])
  refine E_done (by kernel_rfl) ?_ _
  refine hK'.out _ _ ?_
  obtain ⟨va4, vc4, h4, -⟩ := H3.out.drew.noted HNT.out
  have hl4 : (headN d).length ≤ 2 := headN_len d
  have h4b : StW w W7 w.heap.size #[.string d.name, .string d.text, .slice sa d.steps.length sc] (.func (.func 97) #[] #[.pointer (some ⟨w.heap.size + 1, 0, none⟩)]) va4 vc4 (headN d) := by rw [HE.out]; exact h4
  have H4 := Lib.hid h4b
  clear HE HNT h4 h4b H3 hl3 p0 p1 p2 qn hK' hQ
  generalize headN d = l4 at *
  gi_upto_region 5 with fail
  obtain ⟨p0, p1, p2, -, -, -⟩ := cells3h H4.out.dfb
  have hdw : DefR W7 [.string d.name, .string d.text, .slice sa d.steps.length sc] d sa sc := ⟨rfl, hna, hta, HVA.out.below H4.out.low⟩
  gi_wp2_with fail
  refine (callsIn_wide.2 (places_any d _ sa sc W7 hdw (by omega))).mono ?_
  rintro e w5 ⟨M, nM, rfl, hM, hm5, hb5⟩
  have H5 := Lib.hid (H4.out.below hb5)
  have HM5 := Lib.hid hm5
  have hMn : w.heap.size + 1 + 1 < M := Nat.lt_of_lt_of_le H4.out.nlt hM
  clear hdw hm5 hb5 hM H4 p0 p1 p2
  obtain ⟨p0, p1, p2, -, -, -⟩ := cells3h H5.out.dfb
  gi_wp2_with fail
  clear p0 p1 p2
  gi_loopg [30] (d.steps.length + 1) (fun gk i wr => ∃ (k : Nat) (va : Option Addr) (vc : Nat), k + gk = d.steps.length + 1 ∧ k ≤ d.steps.length ∧ i = .int .i64 k ∧ Hid (StW w wr w.heap.size #[.string d.name, .string d.text, .slice sa d.steps.length sc] (.func (.func 97) #[] #[.pointer (some ⟨w.heap.size + 1, 0, none⟩)]) va vc (stepsN d.steps 0 (d.steps.take k) l4)) ∧ Hid (MapO Tryz.prog 9 3 Value.string wr M nM (plN d.steps)))
  case atStart => exact ⟨0, _, _, by omega, by omega, rfl, H5, HM5⟩
  case round =>
    obtain ⟨k, va0, vc0, hgk, hk, rfl, HST, HMP⟩ := hrel
    have hg : gk = d.steps.length + 1 - k := by omega
    subst hg
    rename World => wr
    obtain ⟨p0, p1, p2, -, -, -⟩ := cells3h HST.out.dfb
    have hcl0 := stepsN_len d.steps (d.steps.take k) 0 l4
    simp only [List.length_take] at hcl0
    by_cases hkl : k < d.steps.length
    · have d1 : decide ((k : Int) < (d.steps.length : Int)) = true := decide_eq_true (by omega)
      have hk1 : (k : Int) < (d.steps.length : Int) := by omega
      obtain ⟨g, off, cap, aa1, ac1, ka1, kc1, ba1, bc1, he, q1, q2, hns0, z0, z1, z2, z3, z4, z5, z6, z7, z8, z9, z10, z11, z12⟩ := (HVA.out.below HST.out.low).at hkl
      cases he
      have HCS : Hid (stepsN d.steps 0 (d.steps.take (k + 1)) l4 = stepN d.steps k d.steps[k] (stepsN d.steps 0 (d.steps.take k) l4)) := Lib.hid (by rw [take_succ_getS hkl, stepsN_snoc, List.length_take, Nat.min_eq_left hk, Nat.zero_add])
      have hnm := hns0.ok.name
      have hss := HSM.out _ (List.getElem_mem hkl)
      have hs1 := hss.name
      have hs2 := hss.action
      have hs3 := hss.undo
      have hix := plN_get hkl
      clear hns0 hss
      generalize d.steps[k] = s at *
      have hl0 : (stepsN d.steps 0 (d.steps.take k) l4).length ≤ 1000 := by omega
      clear hcl0
      generalize hll0 : stepsN d.steps 0 (d.steps.take k) l4 = l0 at *
      gi_upto_region 9 with fail
      have hT := World.alloc_heap_new wr (.cells #[.string s.name, .string s.action, .string s.undo, .slice aa1 s.after.length ac1, .int .i64 s.most, .int .i64 s.first, .int .i64 s.factor, .int .i64 s.limit, .int .u8 (s.note.kind : Int), .string s.note.text, .slice ka1 s.note.keys.length kc1, .slice ba1 s.note.kids.length bc1, .int .i64 s.note.line] 47)
      have hTg : w.heap.size + 1 + 1 < wr.heap.size := HST.out.nlt
      have hbT : Below wr.heap.size wr (wr.alloc (.cells #[.string s.name, .string s.action, .string s.undo, .slice aa1 s.after.length ac1, .int .i64 s.most, .int .i64 s.first, .int .i64 s.factor, .int .i64 s.limit, .int .u8 (s.note.kind : Int), .string s.note.text, .slice ka1 s.note.keys.length kc1, .slice ba1 s.note.kids.length bc1, .int .i64 s.note.line] 47)) := (Below.refl _ _).alloc (Nat.le_refl _) _
      have H8 := Lib.hid (HST.out.below hbT)
      have HM8 := Lib.hid (HMP.out.alloc (.cells #[.string s.name, .string s.action, .string s.undo, .slice aa1 s.after.length ac1, .int .i64 s.most, .int .i64 s.first, .int .i64 s.factor, .int .i64 s.limit, .int .u8 (s.note.kind : Int), .string s.note.text, .slice ka1 s.note.keys.length kc1, .slice ba1 s.note.kids.length bc1, .int .i64 s.note.line] 47))
      have HCS2 : Hid (stepsN d.steps 0 (d.steps.take (k + 1)) l4 = noteL (noteL (noteL (noteL l0 (!rightB s.name) ((k : Int), 18, s.name)) (!rightB s.action) ((k : Int), 18, s.action)) (!s.undo.toList.isEmpty && !rightB s.undo) ((k : Int), 18, s.undo)) (decide (idxStep d.steps s.name 0 < (k : Int))) ((k : Int), 6, s.name)) := HCS
      generalize (wr.alloc (.cells #[.string s.name, .string s.action, .string s.undo, .slice aa1 s.after.length ac1, .int .i64 s.most, .int .i64 s.first, .int .i64 s.factor, .int .i64 s.limit, .int .u8 (s.note.kind : Int), .string s.note.text, .slice ka1 s.note.keys.length kc1, .slice ba1 s.note.kids.length bc1, .int .i64 s.note.line] 47)) = w8 at *
      generalize wr.heap.size = T at *
      clear z0 z1 z2 z3 z4 z5 z6 z7 z8 z9 z10 z11 z12 p0 p1 p2 hbT HST HMP HCS
      have HT8 := Lib.hid hT
      obtain ⟨z0, z1, z2, -⟩ := cells13q hT
      clear hT
      generalize hr1 : rightB s.name = r1 at *
      generalize hr2 : rightB s.action = r2 at *
      generalize hr3 : rightB s.undo = r3 at *
      generalize hue : s.undo.toList.isEmpty = ue at *
      generalize hii : idxStep d.steps s.name 0 = ix at *
      have qn := H8.out.ncell
      refine E_regionW (S := (fun W => W.cell? ⟨w.heap.size + 1 + 1, 0, none⟩ = some (.func (.func 97) #[] #[.pointer (some ⟨w.heap.size + 1, 0, none⟩)]) ∧ W.cell? ⟨T, 0, none⟩ = some (.string s.name))) 8 (by kernel_rfl) (by kernel_rfl) ⟨qn, z0⟩ (fun Q' hQ hK' hHeld => ?_)
      refine E_take hQ hHeld 0 (v := ?f9v1) rfl rfl (by kernel_rfl) (by kernel_rfl) (by kernel_rfl) (by kernel_rfl) (by kernel_rfl) (by rfl) ?f9y1 ?f9r1
      case f9y1 => (intro w hSw; (try dsimp only at hSw); go_simp; (try with_reducible rfl))
      (try simp only [layE])
      refine E_take0 hQ (fun _ => hHeld) 1 (v := ?f9v2) rfl rfl (by kernel_rfl) (by kernel_rfl) (by kernel_rfl) (by decide) (by rfl) ?f9y2 ?f9r2
      case f9y2 => (intro w; go_simp; (try with_reducible rfl))
      (try simp only [layE])
      refine E_take hQ hHeld 2 (v := ?f9v3) rfl rfl (by kernel_rfl) (by kernel_rfl) (by kernel_rfl) (by kernel_rfl) (by kernel_rfl) (by rfl) ?f9y3 ?f9r3
      case f9y3 => (intro w hSw; (try dsimp only at hSw); go_simp; (try with_reducible rfl))
      (try simp only [layE])
      refine E_take0 hQ (fun _ => hHeld) 5 (v := ?f9v4) rfl rfl (by kernel_rfl) (by kernel_rfl) (by kernel_rfl) (by decide) (by rfl) ?f9y4 ?f9r4
      case f9y4 => (intro w; go_simp; (try with_reducible rfl))
      (try simp only [layE])
      refine E_take0 hQ (fun _ => hHeld) 6 (v := ?f9v5) rfl rfl (by kernel_rfl) (by kernel_rfl) (by kernel_rfl) (by decide) (by rfl) ?f9y5 ?f9r5
      case f9y5 => (intro w; go_simp; (try with_reducible rfl))
      (try simp only [layE])
      refine E_take hQ hHeld 7 (v := ?f9v6) rfl rfl (by kernel_rfl) (by kernel_rfl) (by kernel_rfl) (by kernel_rfl) (by kernel_rfl) (by rfl) ?f9y6 ?f9r6
      case f9y6 => (intro w hSw; (try dsimp only at hSw); go_simp; (try with_reducible rfl))
      (try simp only [layE])
      refine E_one 3 (by kernel_rfl) rfl (by rfl) (fun K hK => ?_)
      go_simp
      refine (nRight_any s.name _ (by omega)).mono ?_
      rw [hr1]
      rintro e W93 ⟨rfl, rfl⟩
      (skip)
      refine hK.out _ _ (fun _ _ => hHeld) (fun hHeld' => ?_)
      replace hHeld := hHeld' (by rfl) (by decide)
      clear hK hHeld'
      (try simp only [layE])
      refine E_take0 hQ (fun _ => hHeld) 4 (v := ?f9v7) rfl rfl (by kernel_rfl) (by kernel_rfl) (by kernel_rfl) (by decide) (by rfl) ?f9y7 ?f9r7
      case f9y7 => (intro w; go_simp; (try with_reducible rfl))
      (try simp only [layE])
      refine E_one 8 (by kernel_rfl) rfl (by rfl) (fun K hK => ?_)
      go_simp
      refine (nnote_any (!r1) (k : Int) 18 s.name _ (w.heap.size + 1) _ _ _ (H8.out.drew.out) (by omega)).mono ?_
      rintro e W98 ⟨rfl, hnt⟩
      have HNT := Lib.hid hnt
      clear hnt
      (skip)
      refine hK.out _ _ (fun _ h => absurd rfl h) (fun _ => ?_)
      clear hK hHeld
      (try simp only [layE])
      refine E_done (by kernel_rfl) ?_ _
      refine hK'.out _ _ ?_
      obtain ⟨va9, vc9, h9, -, -, hs9, hk9⟩ := H8.out.drew.noted HNT.out
      have HT9 := Lib.hid (hk9 T _ _ _ HT8.out (by decide) (by omega))
      have HM9 := Lib.hid (H8.out.drew.map hs9 HM8.out.drew)
      have H9 := Lib.hid h9
      clear h9 hs9 hk9 HNT hK' hQ
      have hl9 : (noteL l0 (!r1) ((k : Int), 18, s.name)).length ≤ 1001 := Nat.le_trans (noteL_len _ _ _) (by omega)
      generalize noteL l0 (!r1) ((k : Int), 18, s.name) = l9 at *
      clear H8 HM8 HT8 z0 z1 z2 qn
      obtain ⟨z0, z1, z2, -⟩ := cells13q HT9.out
      have qn := H9.out.ncell
      gi_upto_region 10 with fail
      refine E_regionW (S := (fun W => W.cell? ⟨w.heap.size + 1 + 1, 0, none⟩ = some (.func (.func 97) #[] #[.pointer (some ⟨w.heap.size + 1, 0, none⟩)]) ∧ W.cell? ⟨T, 1, none⟩ = some (.string s.action))) 8 (by kernel_rfl) (by kernel_rfl) ⟨qn, z1⟩ (fun Q' hQ hK' hHeld => ?_)
      refine E_take hQ hHeld 0 (v := ?f10v1) rfl rfl (by kernel_rfl) (by kernel_rfl) (by kernel_rfl) (by kernel_rfl) (by kernel_rfl) (by rfl) ?f10y1 ?f10r1
      case f10y1 => (intro w hSw; (try dsimp only at hSw); go_simp; (try with_reducible rfl))
      (try simp only [layE])
      refine E_take0 hQ (fun _ => hHeld) 1 (v := ?f10v2) rfl rfl (by kernel_rfl) (by kernel_rfl) (by kernel_rfl) (by decide) (by rfl) ?f10y2 ?f10r2
      case f10y2 => (intro w; go_simp; (try with_reducible rfl))
      (try simp only [layE])
      refine E_take hQ hHeld 2 (v := ?f10v3) rfl rfl (by kernel_rfl) (by kernel_rfl) (by kernel_rfl) (by kernel_rfl) (by kernel_rfl) (by rfl) ?f10y3 ?f10r3
      case f10y3 => (intro w hSw; (try dsimp only at hSw); go_simp; (try with_reducible rfl))
      (try simp only [layE])
      refine E_take0 hQ (fun _ => hHeld) 5 (v := ?f10v4) rfl rfl (by kernel_rfl) (by kernel_rfl) (by kernel_rfl) (by decide) (by rfl) ?f10y4 ?f10r4
      case f10y4 => (intro w; go_simp; (try with_reducible rfl))
      (try simp only [layE])
      refine E_take0 hQ (fun _ => hHeld) 6 (v := ?f10v5) rfl rfl (by kernel_rfl) (by kernel_rfl) (by kernel_rfl) (by decide) (by rfl) ?f10y5 ?f10r5
      case f10y5 => (intro w; go_simp; (try with_reducible rfl))
      (try simp only [layE])
      refine E_take hQ hHeld 7 (v := ?f10v6) rfl rfl (by kernel_rfl) (by kernel_rfl) (by kernel_rfl) (by kernel_rfl) (by kernel_rfl) (by rfl) ?f10y6 ?f10r6
      case f10y6 => (intro w hSw; (try dsimp only at hSw); go_simp; (try with_reducible rfl))
      (try simp only [layE])
      refine E_one 3 (by kernel_rfl) rfl (by rfl) (fun K hK => ?_)
      go_simp
      refine (nRight_any s.action _ (by omega)).mono ?_
      rw [hr2]
      rintro e W103 ⟨rfl, rfl⟩
      (skip)
      refine hK.out _ _ (fun _ _ => hHeld) (fun hHeld' => ?_)
      replace hHeld := hHeld' (by rfl) (by decide)
      clear hK hHeld'
      (try simp only [layE])
      refine E_take0 hQ (fun _ => hHeld) 4 (v := ?f10v7) rfl rfl (by kernel_rfl) (by kernel_rfl) (by kernel_rfl) (by decide) (by rfl) ?f10y7 ?f10r7
      case f10y7 => (intro w; go_simp; (try with_reducible rfl))
      (try simp only [layE])
      refine E_one 8 (by kernel_rfl) rfl (by rfl) (fun K hK => ?_)
      go_simp
      refine (nnote_any (!r2) (k : Int) 18 s.action _ (w.heap.size + 1) _ _ _ (H9.out.drew.out) (by omega)).mono ?_
      rintro e W108 ⟨rfl, hnt⟩
      have HNT := Lib.hid hnt
      clear hnt
      (skip)
      refine hK.out _ _ (fun _ h => absurd rfl h) (fun _ => ?_)
      clear hK hHeld
      (try simp only [layE])
      refine E_done (by kernel_rfl) ?_ _
      refine hK'.out _ _ ?_
      obtain ⟨va10, vc10, h10, -, -, hs10, hk10⟩ := H9.out.drew.noted HNT.out
      have HT10 := Lib.hid (hk10 T _ _ _ HT9.out (by decide) (by omega))
      have HM10 := Lib.hid (H9.out.drew.map hs10 HM9.out.drew)
      have H10 := Lib.hid h10
      clear h10 hs10 hk10 HNT hK' hQ
      have hl10 : (noteL l9 (!r2) ((k : Int), 18, s.action)).length ≤ 1002 := Nat.le_trans (noteL_len _ _ _) (by omega)
      generalize noteL l9 (!r2) ((k : Int), 18, s.action) = l10 at *
      clear H9 HM9 HT9 z0 z1 z2 qn
      obtain ⟨z0, z1, z2, -⟩ := cells13q HT10.out
      have qn := H10.out.ncell
      gi_upto_region 11 with fail
      cases ue with
      | true =>
        refine E_regionW (S := (fun W => W.cell? ⟨w.heap.size + 1 + 1, 0, none⟩ = some (.func (.func 97) #[] #[.pointer (some ⟨w.heap.size + 1, 0, none⟩)]) ∧ W.cell? ⟨T, 2, none⟩ = some (.string s.undo))) 13 (by kernel_rfl) (by kernel_rfl) ⟨qn, z2⟩ (fun Q' hQ hK' hHeld => ?_)
        refine E_take hQ hHeld 0 (v := ?f11v1) rfl rfl (by kernel_rfl) (by kernel_rfl) (by kernel_rfl) (by kernel_rfl) (by kernel_rfl) (by rfl) ?f11y1 ?f11r1
        case f11y1 => (intro w hSw; (try dsimp only at hSw); go_simp; (try with_reducible rfl))
        (try simp only [layE])
        refine E_take0 hQ (fun _ => hHeld) 1 (v := ?f11v2) rfl rfl (by kernel_rfl) (by kernel_rfl) (by kernel_rfl) (by decide) (by rfl) ?f11y2 ?f11r2
        case f11y2 => (intro w; go_simp; (try with_reducible rfl))
        (try simp only [layE])
        refine E_take hQ hHeld 2 (v := ?f11v3) rfl rfl (by kernel_rfl) (by kernel_rfl) (by kernel_rfl) (by kernel_rfl) (by kernel_rfl) (by rfl) ?f11y3 ?f11r3
        case f11y3 => (intro w hSw; (try dsimp only at hSw); go_simp; (try with_reducible rfl))
        (try simp only [layE])
        refine E_take0 hQ (fun _ => hHeld) 3 (v := ?f11v4) rfl rfl (by kernel_rfl) (by kernel_rfl) (by kernel_rfl) (by decide) (by rfl) ?f11y4 ?f11r4
        case f11y4 => (intro w; go_simp; (try with_reducible rfl))
        (try simp only [layE])
        refine E_take0 hQ (fun _ => hHeld) 4 (v := ?f11v5) rfl rfl (by kernel_rfl) (by kernel_rfl) (by kernel_rfl) (by decide) (by rfl) ?f11y5 ?f11r5
        case f11y5 => (intro w; go_simp; (try with_reducible rfl))
        (try simp only [layE])
        refine E_off hQ (fun _ => hHeld) 5 rfl rfl (by kernel_rfl) (by kernel_rfl) (by kernel_rfl) (by decide) (by rfl) ?_
        (try simp only [layE])
        refine E_off hQ (fun _ => hHeld) 6 rfl rfl (by kernel_rfl) (by kernel_rfl) (by kernel_rfl) (by decide) (by rfl) ?_
        (try simp only [layE])
        refine E_off hQ (fun _ => hHeld) 7 rfl rfl (by kernel_rfl) (by kernel_rfl) (by kernel_rfl) (by decide) (by rfl) ?_
        (try simp only [layE])
        refine E_off hQ (fun _ => hHeld) 8 rfl rfl (by kernel_rfl) (by kernel_rfl) (by kernel_rfl) (by decide) (by rfl) ?_
        (try simp only [layE])
        refine E_take0 hQ (fun _ => hHeld) 9 (v := ?f11v10) rfl rfl (by kernel_rfl) (by kernel_rfl) (by kernel_rfl) (by decide) (by rfl) ?f11y10 ?f11r10
        case f11y10 => (intro w; go_simp; (try with_reducible rfl))
        (try simp only [layE])
        refine E_take0 hQ (fun _ => hHeld) 10 (v := ?f11v11) rfl rfl (by kernel_rfl) (by kernel_rfl) (by kernel_rfl) (by decide) (by rfl) ?f11y11 ?f11r11
        case f11y11 => (intro w; go_simp; (try with_reducible rfl))
        (try simp only [layE])
        refine E_take0 hQ (fun _ => hHeld) 11 (v := ?f11v12) rfl rfl (by kernel_rfl) (by kernel_rfl) (by kernel_rfl) (by decide) (by rfl) ?f11y12 ?f11r12
        case f11y12 => (intro w; go_simp; (try with_reducible rfl))
        (try simp only [layE])
        refine E_take hQ hHeld 12 (v := ?f11v13) rfl rfl (by kernel_rfl) (by kernel_rfl) (by kernel_rfl) (by kernel_rfl) (by kernel_rfl) (by rfl) ?f11y13 ?f11r13
        case f11y13 => (intro w hSw; (try dsimp only at hSw); go_simp; (try with_reducible rfl))
        (try simp only [layE])
        refine E_one 13 (by kernel_rfl) rfl (by rfl) (fun K hK => ?_)
        go_simp
        refine (nnote_any false (k : Int) 18 s.undo _ (w.heap.size + 1) _ _ _ (H10.out.drew.out) (by omega)).mono ?_
        rintro e W118 ⟨rfl, hnt⟩
        have HNT := Lib.hid hnt
        clear hnt
        (skip)
        refine hK.out _ _ (fun _ h => absurd rfl h) (fun _ => ?_)
        clear hK hHeld
        (try simp only [layE])
        refine E_done (by kernel_rfl) ?_ _
        refine hK'.out _ _ ?_
        obtain ⟨va11, vc11, h11, -, -, hs11, hk11⟩ := H10.out.drew.noted HNT.out
        have HT11 := Lib.hid (hk11 T _ _ _ HT10.out (by decide) (by omega))
        have HM11 := Lib.hid (H10.out.drew.map hs11 HM10.out.drew)
        have H11 := Lib.hid h11
        clear h11 hs11 hk11 HNT hK' hQ
        have hl11 : (noteL l10 (!true && !r3) ((k : Int), 18, s.undo)).length ≤ 1003 := Nat.le_trans (noteL_len _ _ _) (by omega)
        have H11' : Hid (StW w W118 w.heap.size #[.string d.name, .string d.text, (.slice (some ⟨g, off, none⟩) d.steps.length sc)] (.func (.func 97) #[] #[.pointer (some ⟨w.heap.size + 1, 0, none⟩)]) va11 vc11 (noteL l10 (!true && !r3) ((k : Int), 18, s.undo))) := H11
        clear H10 HM10 HT10 z0 z1 z2 qn H11
        generalize noteL l10 (!true && !r3) ((k : Int), 18, s.undo) = l11 at *
        have qn := H11'.out.ncell
        obtain ⟨z0, z1, z2, -⟩ := cells13q HT11.out
        have hlk := HM11.out.look Tryz.keyText hnm
        rw [hix] at hlk
        gi_wp2_with fail
        refine (callsIn_wide.2 (nnote_any (decide (ix < (k : Int))) (k : Int) 6 s.name l11 (w.heap.size + 1) _ _ _ H11'.out.out (by omega))).mono ?_
        rintro e w12 ⟨rfl, hnt⟩
        obtain ⟨va12, vc12, h12, -, -, hs12, -⟩ := H11'.out.noted hnt
        have HM12 := Lib.hid (H11'.out.map hs12 HM11.out)
        rw [← HCS2.out] at h12
        have H12 := Lib.hid h12
        clear h12 hnt hs12 hlk z0 z1 z2 qn H11' HM11 HT11 HCS2
        gi_wp2_with fail
        gi_roundg (d.steps.length + 1 - (k + 1))
        case measure => omega
        case rel => exact ⟨k + 1, va12, vc12, by omega, by omega, by go_num, H12, HM12⟩
      | false =>
        refine E_regionW (S := (fun W => W.cell? ⟨w.heap.size + 1 + 1, 0, none⟩ = some (.func (.func 97) #[] #[.pointer (some ⟨w.heap.size + 1, 0, none⟩)]) ∧ W.cell? ⟨T, 2, none⟩ = some (.string s.undo))) 13 (by kernel_rfl) (by kernel_rfl) ⟨qn, z2⟩ (fun Q' hQ hK' hHeld => ?_)
        refine E_take hQ hHeld 0 (v := ?f12v1) rfl rfl (by kernel_rfl) (by kernel_rfl) (by kernel_rfl) (by kernel_rfl) (by kernel_rfl) (by rfl) ?f12y1 ?f12r1
        case f12y1 => (intro w hSw; (try dsimp only at hSw); go_simp; (try with_reducible rfl))
        (try simp only [layE])
        refine E_take0 hQ (fun _ => hHeld) 1 (v := ?f12v2) rfl rfl (by kernel_rfl) (by kernel_rfl) (by kernel_rfl) (by decide) (by rfl) ?f12y2 ?f12r2
        case f12y2 => (intro w; go_simp; (try with_reducible rfl))
        (try simp only [layE])
        refine E_take hQ hHeld 2 (v := ?f12v3) rfl rfl (by kernel_rfl) (by kernel_rfl) (by kernel_rfl) (by kernel_rfl) (by kernel_rfl) (by rfl) ?f12y3 ?f12r3
        case f12y3 => (intro w hSw; (try dsimp only at hSw); go_simp; (try with_reducible rfl))
        (try simp only [layE])
        refine E_take0 hQ (fun _ => hHeld) 3 (v := ?f12v4) rfl rfl (by kernel_rfl) (by kernel_rfl) (by kernel_rfl) (by decide) (by rfl) ?f12y4 ?f12r4
        case f12y4 => (intro w; go_simp; (try with_reducible rfl))
        (try simp only [layE])
        refine E_take0 hQ (fun _ => hHeld) 4 (v := ?f12v5) rfl rfl (by kernel_rfl) (by kernel_rfl) (by kernel_rfl) (by decide) (by rfl) ?f12y5 ?f12r5
        case f12y5 => (intro w; go_simp; (try with_reducible rfl))
        (try simp only [layE])
        refine E_take0 hQ (fun _ => hHeld) 5 (v := ?f12v6) rfl rfl (by kernel_rfl) (by kernel_rfl) (by kernel_rfl) (by decide) (by rfl) ?f12y6 ?f12r6
        case f12y6 => (intro w; go_simp; (try with_reducible rfl))
        (try simp only [layE])
        refine E_take hQ hHeld 6 (v := ?f12v7) rfl rfl (by kernel_rfl) (by kernel_rfl) (by kernel_rfl) (by kernel_rfl) (by kernel_rfl) (by rfl) ?f12y7 ?f12r7
        case f12y7 => (intro w hSw; (try dsimp only at hSw); go_simp; (try with_reducible rfl))
        (try simp only [layE])
        refine E_take0 hQ (fun _ => hHeld) 10 (v := ?f12v8) rfl rfl (by kernel_rfl) (by kernel_rfl) (by kernel_rfl) (by decide) (by rfl) ?f12y8 ?f12r8
        case f12y8 => (intro w; go_simp; (try with_reducible rfl))
        (try simp only [layE])
        refine E_take0 hQ (fun _ => hHeld) 11 (v := ?f12v9) rfl rfl (by kernel_rfl) (by kernel_rfl) (by kernel_rfl) (by decide) (by rfl) ?f12y9 ?f12r9
        case f12y9 => (intro w; go_simp; (try with_reducible rfl))
        (try simp only [layE])
        refine E_take hQ hHeld 12 (v := ?f12v10) rfl rfl (by kernel_rfl) (by kernel_rfl) (by kernel_rfl) (by kernel_rfl) (by kernel_rfl) (by rfl) ?f12y10 ?f12r10
        case f12y10 => (intro w hSw; (try dsimp only at hSw); go_simp; (try with_reducible rfl))
        (try simp only [layE])
        refine E_one 7 (by kernel_rfl) rfl (by rfl) (fun K hK => ?_)
        go_simp
        refine (nRight_any s.undo _ (by omega)).mono ?_
        rw [hr3]
        rintro e W113 ⟨rfl, rfl⟩
        (skip)
        refine hK.out _ _ (fun _ _ => hHeld) (fun hHeld' => ?_)
        replace hHeld := hHeld' (by rfl) (by decide)
        clear hK hHeld'
        (try simp only [layE])
        refine E_take0 hQ (fun _ => hHeld) 8 (v := ?f12v11) rfl rfl (by kernel_rfl) (by kernel_rfl) (by kernel_rfl) (by decide) (by rfl) ?f12y11 ?f12r11
        case f12y11 => (intro w; go_simp; (try with_reducible rfl))
        (try simp only [layE])
        refine E_take0 hQ (fun _ => hHeld) 9 (v := ?f12v12) rfl rfl (by kernel_rfl) (by kernel_rfl) (by kernel_rfl) (by decide) (by rfl) ?f12y12 ?f12r12
        case f12y12 => (intro w; go_simp; (try with_reducible rfl))
        (try simp only [layE])
        refine E_one 13 (by kernel_rfl) rfl (by rfl) (fun K hK => ?_)
        go_simp
        refine (nnote_any (!r3) (k : Int) 18 s.undo _ (w.heap.size + 1) _ _ _ (H10.out.drew.out) (by omega)).mono ?_
        rintro e W118 ⟨rfl, hnt⟩
        have HNT := Lib.hid hnt
        clear hnt
        (skip)
        refine hK.out _ _ (fun _ h => absurd rfl h) (fun _ => ?_)
        clear hK hHeld
        (try simp only [layE])
        refine E_done (by kernel_rfl) ?_ _
        refine hK'.out _ _ ?_
        obtain ⟨va11, vc11, h11, -, -, hs11, hk11⟩ := H10.out.drew.noted HNT.out
        have HT11 := Lib.hid (hk11 T _ _ _ HT10.out (by decide) (by omega))
        have HM11 := Lib.hid (H10.out.drew.map hs11 HM10.out.drew)
        have H11 := Lib.hid h11
        clear h11 hs11 hk11 HNT hK' hQ
        have hl11 : (noteL l10 (!false && !r3) ((k : Int), 18, s.undo)).length ≤ 1003 := Nat.le_trans (noteL_len _ _ _) (by omega)
        have H11' : Hid (StW w W118 w.heap.size #[.string d.name, .string d.text, (.slice (some ⟨g, off, none⟩) d.steps.length sc)] (.func (.func 97) #[] #[.pointer (some ⟨w.heap.size + 1, 0, none⟩)]) va11 vc11 (noteL l10 (!false && !r3) ((k : Int), 18, s.undo))) := H11
        clear H10 HM10 HT10 z0 z1 z2 qn H11
        generalize noteL l10 (!false && !r3) ((k : Int), 18, s.undo) = l11 at *
        have qn := H11'.out.ncell
        obtain ⟨z0, z1, z2, -⟩ := cells13q HT11.out
        have hlk := HM11.out.look Tryz.keyText hnm
        rw [hix] at hlk
        gi_wp2_with fail
        refine (callsIn_wide.2 (nnote_any (decide (ix < (k : Int))) (k : Int) 6 s.name l11 (w.heap.size + 1) _ _ _ H11'.out.out (by omega))).mono ?_
        rintro e w12 ⟨rfl, hnt⟩
        obtain ⟨va12, vc12, h12, -, -, hs12, -⟩ := H11'.out.noted hnt
        have HM12 := Lib.hid (H11'.out.map hs12 HM11.out)
        rw [← HCS2.out] at h12
        have H12 := Lib.hid h12
        clear h12 hnt hs12 hlk z0 z1 z2 qn H11' HM11 HT11 HCS2
        gi_wp2_with fail
        gi_roundg (d.steps.length + 1 - (k + 1))
        case measure => omega
        case rel => exact ⟨k + 1, va12, vc12, by omega, by omega, by go_num, H12, HM12⟩
    · have d1 : decide ((k : Int) < (d.steps.length : Int)) = false := decide_eq_false (by omega)
      have hk1 : ¬ (k : Int) < (d.steps.length : Int) := by omega
      have HST' : Hid (StW w wr w.heap.size #[.string d.name, .string d.text, .slice sa d.steps.length sc] (.func (.func 97) #[] #[.pointer (some ⟨w.heap.size + 1, 0, none⟩)]) va0 vc0 (stepsN d.steps 0 d.steps l4)) := Lib.hid (by have := HST.out; rwa [List.take_of_length_le (by omega)] at this)
      have hll : (stepsN d.steps 0 d.steps l4).length ≤ 1000 := by have := stepsN_len d.steps d.steps 0 l4; omega
      clear HST HMP hcl0
      have hmm := @run_makeMap Tryz.prog
      have ea := World.alloc_heap_new wr (.map #[] 0)
      have eb1 := World.alloc_heap_new (wr.alloc (.map #[] 0)) (.cells #[.map (some wr.heap.size)] 156)
      rw [World.size_alloc] at eb1
      have ec : ((wr.alloc (.map #[] 0)).alloc (.cells #[.map (some wr.heap.size)] 156)).heap[wr.heap.size]? = some (.map #[] 0) := (Below.heap_alloc _ _ _ (by simp)).trans ea
      have hbl : Below wr.heap.size wr ((wr.alloc (.map #[] 0)).alloc (.cells #[.map (some wr.heap.size)] 156)) := ((Below.refl _ _).alloc (Nat.le_refl _) _).alloc (by simp) _
      have h14 := HST'.out.below hbl
      have hmo : MapO Tryz.prog 158 3 aggO ((wr.alloc (.map #[] 0)).alloc (.cells #[.map (some wr.heap.size)] 156)) wr.heap.size 0 fun _ => none := (MapO.made Tryz.prog 158 3 aggO wr).block (ec.trans ea.symm)
      have hTg : w.heap.size + 1 + 1 < wr.heap.size := HST'.out.nlt
      have hs14 : ((wr.alloc (.map #[] 0)).alloc (.cells #[.map (some wr.heap.size)] 156)).heap.size = wr.heap.size + 2 := by simp
      gi_upto_region 15 with fail
      generalize ((wr.alloc (.map #[] 0)).alloc (.cells #[.map (some wr.heap.size)] 156)) = w14 at *
      generalize wr.heap.size = R at *
      clear p0 p1 p2 ea ec hbl hmm HST'
      obtain ⟨p0, p1, p2, -, -, -⟩ := cells3h h14.dfb
      have H14 := Lib.hid h14
      have HO14 := Lib.hid hmo
      have HX14 : Hid (Boxed w14 (R + 1) 156 (.map (some R))) := Lib.hid eb1
      clear h14 hmo eb1
      gi_wp2_with fail
      refine (callsIn_wide.2 (refs_any [.string d.name, .string d.text, .slice sa d.steps.length sc] rfl w14)).mono ?_
      rintro e w15 ⟨rfl, rfl⟩
      have hX := World.alloc_heap_new w14 (.cells #[.string d.name, .string d.text, .slice sa d.steps.length sc] 24)
      have hbX : Below w14.heap.size w14 (w14.alloc (.cells #[.string d.name, .string d.text, .slice sa d.steps.length sc] 24)) := (Below.refl _ _).alloc (Nat.le_refl _) _
      have h15 := H14.out.below hbX
      have hm15 := HO14.out.alloc (.cells #[.string d.name, .string d.text, .slice sa d.steps.length sc] 24)
      have hx15 : Boxed (w14.alloc (.cells #[.string d.name, .string d.text, .slice sa d.steps.length sc] 24)) (R + 1) 156 (.map (some R)) := (hbX.block _ HX14.out.lt).trans HX14.out
      have hsX : (w14.alloc (.cells #[.string d.name, .string d.text, .slice sa d.steps.length sc] 24)).heap.size = R + 3 := by rw [World.size_alloc, hs14]
      rw [hs14] at hX
      clear hbX H14 HO14 HX14 p0 p1 p2
      gi_wp2_with fail
      (try simp only [hs14])
      generalize (w14.alloc (.cells #[.string d.name, .string d.text, .slice sa d.steps.length sc] 24)) = w15 at *
      clear hs14
      generalize hl15 : stepsN d.steps 0 d.steps l4 = l15 at *
      have HRM := Lib.hid (fun r => refsF_mem d.steps d.steps 0 r)
      refine' wpIn_rfB rfl (enters_of Tryz.func75 (by kernel_rfl) rfl) (refs_iter d sa sc (w.heap.size + 1) (R + 2) w w15 (by omega) (by omega) hX hna hta HVA.out (by omega) (h15.low.mono (by omega)) (by omega)) (by omega) (by rintro j rfl; omega) (fun _ => rfl)
        (nkJ w w.heap.size R #[.string d.name, .string d.text, .slice sa d.steps.length sc] (.func (.func 97) #[] #[.pointer (some ⟨w.heap.size + 1, 0, none⟩)]) d.steps l15) (fun _ => fun _ _ _ => False) ?hfin ?hJ ?hJx ?h0 _ (fun y => #[.int .i64 (y.1 : Int), .string y.2.1, .int .i64 y.2.2]) 84 ?assign ?body ?done ?stop
      case assign =>
        intro l S pre x W K hS hw hj hK
        dsimp only [encRf]
        have HS := Lib.hid hS
        have HK := Lib.hid hK
        have HJ := Lib.hid hj
        have hsW : w.heap.size + 1 ≤ W.heap.size := by omega
        clear hS hK hj
        gi_wp2_with fail
        have hal : Below W.heap.size W (W.alloc (.cells #[.int .i64 (x.1 : Int), .string x.2.1, .int .i64 x.2.2] 84)) := (Below.refl _ _).alloc (Nat.le_refl _) _
        have k1 : Keep (w.heap.size + 1) S W (W.alloc (.cells #[.int .i64 (x.1 : Int), .string x.2.1, .int .i64 x.2.2] 84)) := ⟨hal.mono hsW, fun j hj => hal.block j (HS.out j hj).2⟩
        have k2 := nkJ_step w w.heap.size R #[.string d.name, .string d.text, .slice sa d.steps.length sc] (.func (.func 97) #[] #[.pointer (some ⟨w.heap.size + 1, 0, none⟩)]) d.steps l15 S S _ _ _ HS.out HJ.out (Step.of_below hsW hal)
        have k3 := World.alloc_heap_new W (.cells #[.int .i64 (x.1 : Int), .string x.2.1, .int .i64 x.2.2] 84)
        generalize (W.alloc (.cells #[.int .i64 (x.1 : Int), .string x.2.1, .int .i64 x.2.2] 84)) = W' at *
        generalize W.heap.size = b at *
        exact HK.out b W' k1 k2 k3
      case hfin => exact fun h => absurd trivial h
      case hJ => exact nkJ_step w w.heap.size R #[.string d.name, .string d.text, .slice sa d.steps.length sc] (.func (.func 97) #[] #[.pointer (some ⟨w.heap.size + 1, 0, none⟩)]) d.steps l15
      case hJx => exact fun _ _ _ _ _ _ _ h _ => h
      case h0 =>
        refine ⟨_, _, 0, ⟨h15, ?_, Nat.le_refl _, hx15, by omega, by omega, by omega, by omega, ?_⟩⟩
        · have e : cntI (([] : List RefD).map keyR) = fun _ => none := by funext z; simp [cntI]
          rw [e]; exact hm15
        · rintro q e rfl
          exact h15.out.own.ne hX (by decide) e
      case stop => exact fun _ _ _ _ _ _ _ _ _ h => h.elim
      case done =>
        rintro D S W hD hS hSD ⟨va, vc, nM, h⟩ hKD
        have hc := h.st.out.box.cell
        have hck : refsN d.steps [] (refsF d.steps 0 d.steps) l15 = chkN d := HCK.out.symm
        have hst := h.st
        rw [hck] at hst hc
        have hlen : (chkN d).length ≤ 1000000 := by
          rw [← hck]
          have := refsN_len d.steps (refsF d.steps 0 d.steps) [] l15
          omega
        have HOKS := Lib.hid (fun x (hx : x ∈ sortD (chkN d)) => HOKK.out x ((sortD_mem _ x).1 hx))
        have HDG := Lib.hid (hst.out.own.read HOKK.out)
        have HLW := Lib.hid hst.low
        have hDl := (hS D hSD)
        have HKD := Lib.hid hKD
        clear hS h hX h15 hm15 hx15 hst hck hKD
        generalize hgl : (chkN d).length = nl at *
        gi_wp2_with fail
        subst hgl
        refine (callsIn_wide.2 (dSort_any _ _ _ HDG.out hlen)).mono ?_
        rintro e w6 ⟨ua, uc, rfl, ho6, hb6⟩
        have HO6 := Lib.hid ho6
        have HBF := Lib.hid (bthen HLW.out (by have := HLW.out.size; omega) hb6)
        have hKD6 := (hb6.block D hDl.2).trans HKD.out
        have hD6 : w.heap.size ≤ D := by omega
        clear ho6 hb6 hc
        gi_wp2
        refine ⟨by simp, .inl ⟨_, _, rfl, run_takeDeferred hKD6, ?_⟩⟩
        have hb : Below D w6 (w6.putObj D (.deferred none)) := below_putObj _ _ (Nat.le_refl D)
        exact ⟨_, results_tmp rfl _ _ _, _, _, rfl, (HO6.out.block fun q e => World.putObj_heap_other (by have := (HO6.out.heap q e).1; omega)).read HOKS.out, HBF.out.trans (hb.mono hD6)⟩
      case body =>
        rintro l S pre ⟨i, a, tt⟩ b W hS hw hSl - ⟨va, vc, nM, h⟩ hb hpre
        obtain ⟨-, hi0, -, s0, hs0, ha0⟩ := HRM.out _ (hpre.subset (by simp : ((i, a, tt) : RefD) ∈ pre ++ [(i, a, tt)]))
        simp only [Nat.zero_add, Nat.sub_zero] at hi0 hs0
        have hpl := hpre.length_le
        rw [List.length_append, List.length_singleton] at hpl
        have HSN : Hid (refsN d.steps [] (pre ++ [(i, a, tt)]) l15 = refN d.steps pre (i, a, tt) (refsN d.steps [] pre l15)) := Lib.hid (by rw [refsN_snoc, List.nil_append])
        have hrl0 := refsN_len d.steps pre [] l15
        have hgi : d.steps[i] = s0 := by rw [List.getElem?_eq_getElem hi0] at hs0; exact Option.some.inj hs0
        have hi1 : (i : Int) < (d.steps.length : Int) := by omega
        have hn63 : d.steps.length ≤ 9223372036854775807 := by omega
        have HOK : Hid (OkO (i, a)) := Lib.hid ⟨⟨by show -9223372036854775808 ≤ (i : Int); omega, by show (i : Int) ≤ 9223372036854775807; omega⟩, HATX.out s0 (List.mem_of_getElem? hs0) a ha0⟩
        have HC1 := Lib.hid (cntI_zero (pre.map keyR) (i, a))
        have HC2 : Hid (cntI ((pre ++ [((i, a, tt) : RefD)]).map keyR) = fun y => if y = (i, a) then some (((cntN (pre.map keyR) (i, a) : Nat) : Int) + 1) else cntI (pre.map keyR) y) := Lib.hid (by rw [List.map_append, List.map_singleton]; exact (cntI_push _ _).symm)
        have hcle : cntN (pre.map keyR) (i, a) ≤ pre.length := Nat.le_trans (cntN_le _ _) (by rw [List.length_map]; exact Nat.le_refl _)
        have hZ : decide (0 < cntN (pre.map keyR) (keyR (i, a, tt))) = decide ((0 : Int) < ((cntN (pre.map keyR) (i, a) : Nat) : Int)) := by
          rw [Bool.eq_iff_iff, decide_eq_true_eq, decide_eq_true_eq]
          show 0 < cntN (pre.map keyR) (i, a) ↔ _
          omega
        have hY : decide (d.steps[i]?.map StepD.name = some a) = (a.toList == s0.name.toList) := by
          rw [hs0, beqS, Bool.eq_iff_iff, decide_eq_true_eq, decide_eq_true_eq]
          constructor
          · intro h; exact (Option.some.inj h).symm
          · intro h; rw [h]; rfl
        unfold refN at HSN
        dsimp only at HSN
        rw [hZ, hY] at HSN
        clear hZ hY
        have hnM := h.few
        have HST0 := Lib.hid h.st
        have HMP0 := Lib.hid h.map
        have HMX0 := Lib.hid h.mbox
        have HT0 := Lib.hid hb
        have HO0 := Lib.hid h.o5
        have HS := Lib.hid hS
        have o1 := h.o1
        have o2 := h.o2
        have o3 := h.o3
        have o4 := h.o4
        have hTb : b ≠ w.heap.size + 1 := by rintro rfl; rw [show W.heap[w.heap.size + 1]? = _ from h.st.out.box] at hb; cases hb
        have hsW : R + 3 ≤ W.heap.size := by omega
        clear hS h hb hpre hs0 ha0
        (try clear hX)
        (try clear h15)
        (try clear hm15)
        (try clear hx15)
        generalize hrr : refsN d.steps [] pre l15 = l0 at *
        generalize hcc : cntN (pre.map keyR) (i, a) = c at *
        have hdt : decide (tt < (0 : Int)) = decide (tt < 0) := rfl
        generalize htn : decide (tt < 0) = b1 at *
        generalize heq2 : (a.toList == s0.name.toList) = b2 at *
        generalize hgt3 : decide ((0 : Int) < (c : Int)) = b3 at *
        have hgt4 : decide (0 < c) = b3 := by rw [← hgt3, Bool.eq_iff_iff, decide_eq_true_eq, decide_eq_true_eq]; omega
        obtain ⟨t0, t1, t2, -, -, -⟩ := cells3h HT0.out
        have qn := HST0.out.ncell
        dsimp only
        gi_wp2_with fail
        refine (CallsIn.inRound l (callsIn_wide.2 (nnote_any b1 (i : Int) 5 a l0 (w.heap.size + 1) _ _ W HST0.out.out (by omega)))).mono ?_
        rintro e W1 ⟨rfl, hnt⟩
        obtain ⟨va1, vc1, st1, mp1, mx1, hT1, ho1, hk1, hb1⟩ := NkN (n0 := w.heap.size + 1) HST0.out HMP0.out HMX0.out HT0.out (by decide) hTb (by omega) HS.out o1 HO0.out (Nat.le_refl _) hnt
        have hl1 : (noteL l0 b1 ((i : Int), 5, a)).length ≤ l0.length + 1 := noteL_len _ _ _
        have HS1 : Hid (∀ k, S k → w.heap.size + 1 ≤ k ∧ k < W1.heap.size) := Lib.hid fun k hk => ⟨(HS.out k hk).1, Nat.lt_of_lt_of_le (HS.out k hk).2 hk1.below.size⟩
        have HST1 := Lib.hid st1
        have HMP1 := Lib.hid mp1
        have HMX1 := Lib.hid mx1
        have HT1 := Lib.hid hT1
        have HO1 := Lib.hid ho1
        have HK1 := Lib.hid hk1
        clear st1 mp1 mx1 hT1 ho1 hk1 hb1 hnt t0 t1 t2 qn HST0 HMP0 HMX0 HT0 HO0
        generalize noteL l0 b1 ((i : Int), 5, a) = l1 at *
        obtain ⟨t0, t1, t2, -, -, -⟩ := cells3h HT1.out
        obtain ⟨p0, p1, p2, -, -, -⟩ := cells3h HST1.out.dfb
        have qn := HST1.out.ncell
        obtain ⟨g, off, cap, aa1, ac1, ka1, kc1, ba1, bc1, he, q1, q2, -, z0, -⟩ := (HVA.out.below HST1.out.low).at hi0
        cases he
        rw [hgi] at z0
        gi_wp2_with fail
        gi_upto_region 18 with fail
        refine E_regionR (S := (fun W => W.cell? ⟨w.heap.size + 1 + 1, 0, none⟩ = some (.func (.func 97) #[] #[.pointer (some ⟨w.heap.size + 1, 0, none⟩)]) ∧ W.cell? ⟨b, 0, none⟩ = some (.int .i64 (i : Int)) ∧ W.cell? ⟨b, 1, none⟩ = some (.string a) ∧ W.cell? ⟨w.heap.size, 2, none⟩ = some (.slice (some ⟨g, off, none⟩) d.steps.length sc) ∧ W.cell? ⟨g, off + i * 13, none⟩ = some (.string s0.name))) 15 (by kernel_rfl) (by kernel_rfl) ⟨qn, t0, t1, p2, z0⟩ (fun Q' hQ hK' hHeld => ?_)
        refine E_take hQ hHeld 0 (v := ?g8v1) rfl rfl (by kernel_rfl) (by kernel_rfl) (by kernel_rfl) (by kernel_rfl) (by kernel_rfl) (by rfl) ?g8y1 ?g8r1
        case g8y1 => (intro w hSw; (try dsimp only at hSw); go_simp; (try with_reducible rfl))
        (try simp only [layE])
        refine E_take0 hQ (fun _ => hHeld) 1 (v := ?g8v2) rfl rfl (by kernel_rfl) (by kernel_rfl) (by kernel_rfl) (by decide) (by rfl) ?g8y2 ?g8r2
        case g8y2 => (intro w; go_simp; (try with_reducible rfl))
        (try simp only [layE])
        refine E_take hQ hHeld 2 (v := ?g8v3) rfl rfl (by kernel_rfl) (by kernel_rfl) (by kernel_rfl) (by kernel_rfl) (by kernel_rfl) (by rfl) ?g8y3 ?g8r3
        case g8y3 => (intro w hSw; (try dsimp only at hSw); go_simp; (try with_reducible rfl))
        (try simp only [layE])
        refine E_take0 hQ (fun _ => hHeld) 3 (v := ?g8v4) rfl rfl (by kernel_rfl) (by kernel_rfl) (by kernel_rfl) (by decide) (by rfl) ?g8y4 ?g8r4
        case g8y4 => (intro w; go_simp; (try with_reducible rfl))
        (try simp only [layE])
        refine E_take hQ hHeld 4 (v := ?g8v5) rfl rfl (by kernel_rfl) (by kernel_rfl) (by kernel_rfl) (by kernel_rfl) (by kernel_rfl) (by rfl) ?g8y5 ?g8r5
        case g8y5 => (intro w hSw; (try dsimp only at hSw); go_simp; (try with_reducible rfl))
        (try simp only [layE])
        refine E_take0 hQ (fun _ => hHeld) 5 (v := ?g8v6) rfl rfl (by kernel_rfl) (by kernel_rfl) (by kernel_rfl) (by decide) (by rfl) ?g8y6 ?g8r6
        case g8y6 => (intro w; go_simp; (try with_reducible rfl))
        (try simp only [layE])
        refine E_take hQ hHeld 6 (v := ?g8v7) rfl rfl (by kernel_rfl) (by kernel_rfl) (by kernel_rfl) (by kernel_rfl) (by kernel_rfl) (by rfl) ?g8y7 ?g8r7
        case g8y7 => (intro w hSw; (try dsimp only at hSw); go_simp; (try with_reducible rfl))
        (try simp only [layE])
        refine E_take0 hQ (fun _ => hHeld) 7 (v := ?g8v8) rfl rfl (by kernel_rfl) (by kernel_rfl) (by kernel_rfl) (by decide) (by rfl) ?g8y8 ?g8r8
        case g8y8 => (intro w; go_simp; (try with_reducible rfl))
        (try simp only [layE])
        refine E_take0 hQ (fun _ => hHeld) 8 (v := ?g8v9) rfl rfl (by kernel_rfl) (by kernel_rfl) (by kernel_rfl) (by decide) (by rfl) ?g8y9 ?g8r9
        case g8y9 => (intro w; go_simp; (try with_reducible rfl))
        (try simp only [layE])
        refine E_take hQ hHeld 9 (v := ?g8v10) rfl rfl (by kernel_rfl) (by kernel_rfl) (by kernel_rfl) (by kernel_rfl) (by kernel_rfl) (by rfl) ?g8y10 ?g8r10
        case g8y10 => (intro w hSw; (try dsimp only at hSw); go_simp; (try with_reducible rfl))
        (try simp only [layE])
        refine E_take0 hQ (fun _ => hHeld) 10 (v := ?g8v11) rfl rfl (by kernel_rfl) (by kernel_rfl) (by kernel_rfl) (by decide) (by rfl) ?g8y11 ?g8r11
        case g8y11 => (intro w; go_simp; (try with_reducible rfl))
        (try simp only [layE])
        refine E_take0 hQ (fun _ => hHeld) 11 (v := ?g8v12) rfl rfl (by kernel_rfl) (by kernel_rfl) (by kernel_rfl) (by decide) (by rfl) ?g8y12 ?g8r12
        case g8y12 => (intro w; go_simp; (try with_reducible rfl))
        (try simp only [layE])
        refine E_take hQ hHeld 12 (v := ?g8v13) rfl rfl (by kernel_rfl) (by kernel_rfl) (by kernel_rfl) (by kernel_rfl) (by kernel_rfl) (by rfl) ?g8y13 ?g8r13
        case g8y13 => (intro w hSw; (try dsimp only at hSw); go_simp; (try with_reducible rfl))
        (try simp only [layE])
        refine E_take0 hQ (fun _ => hHeld) 13 (v := ?g8v14) rfl rfl (by kernel_rfl) (by kernel_rfl) (by kernel_rfl) (by decide) (by rfl) ?g8y14 ?g8r14
        case g8y14 => (intro w; go_simp; (try with_reducible rfl))
        (try simp only [layE])
        refine E_take hQ hHeld 14 (v := ?g8v15) rfl rfl (by kernel_rfl) (by kernel_rfl) (by kernel_rfl) (by kernel_rfl) (by kernel_rfl) (by rfl) ?g8y15 ?g8r15
        case g8y15 => (intro w hSw; (try dsimp only at hSw); go_simp; (try with_reducible rfl))
        (try simp only [layE])
        refine E_one 15 (by kernel_rfl) rfl (by rfl) (fun K hK => ?_)
        go_simp
        refine (nnote_any b2 (i : Int) 8 a l1 (w.heap.size + 1) _ _ W1.drew (HST1.out.drew.out) (by omega)).mono ?_
        rintro e W2 ⟨rfl, hnt⟩
        have HNT := Lib.hid hnt
        clear hnt
        (skip)
        refine hK.out _ _ (fun _ h => absurd rfl h) (fun _ => ?_)
        clear hK hHeld
        (try simp only [layE])
        refine E_done (by kernel_rfl) ?_ _
        refine hK'.out _ _ ?_
        obtain ⟨va2, vc2, st2, mp2, mx2, hT2, ho2, hk2, hb2⟩ := NkN (n0 := w.heap.size + 1) HST1.out.drew (HMP1.out.drew) (W := W1.drew) HMX1.out HT1.out (by decide) hTb (by omega) HS1.out o1 HO1.out (Nat.le_refl _) HNT.out
        have hl2 : (noteL l1 b2 ((i : Int), 8, a)).length ≤ l1.length + 1 := noteL_len _ _ _
        have HS2 : Hid (∀ k, S k → w.heap.size + 1 ≤ k ∧ k < W2.heap.size) := Lib.hid fun k hk => ⟨(HS1.out k hk).1, Nat.lt_of_lt_of_le (HS1.out k hk).2 hk2.below.size⟩
        have HST2 := Lib.hid st2
        have HMP2 := Lib.hid mp2
        have HMX2 := Lib.hid mx2
        have HT2 := Lib.hid hT2
        have HO2 := Lib.hid ho2
        have HK2 := Lib.hid hk2
        clear st2 mp2 mx2 hT2 ho2 hk2 hb2 HNT t0 t1 t2 qn p0 p1 p2 z0 HST1 HMP1 HMX1 HT1 HO1 HS1 hK' hQ
        generalize noteL l1 b2 ((i : Int), 8, a) = l2 at *
        obtain ⟨t0, t1, t2, -, -, -⟩ := cells3h HT2.out
        have qn := HST2.out.ncell
        have qx := HMX2.out.cell
        have hlk := (HMP2.out.drew).look Tryz.keyOwn HOK.out
        rw [HC1.out] at hlk
        dsimp only [aggO] at hlk
        gi_upto_region 19 with fail
        refine E_regionR (S := (fun W => W.cell? ⟨w.heap.size + 1 + 1, 0, none⟩ = some (.func (.func 97) #[] #[.pointer (some ⟨w.heap.size + 1, 0, none⟩)]) ∧ W.cell? ⟨R + 1, 0, none⟩ = some (.map (some R)) ∧ W.cell? ⟨b, 0, none⟩ = some (.int .i64 (i : Int)) ∧ W.cell? ⟨b, 1, none⟩ = some (.string a) ∧ (Instr.lookup 156 (.map (some R)) (.agg #[.int .i64 (i : Int), .string a]) false).run Tryz.prog W = .ok (.int .i64 (c : Int)) W)) 13 (by kernel_rfl) (by kernel_rfl) ⟨qn, qx, t0, t1, hlk⟩ (fun Q' hQ hK' hHeld => ?_)
        refine E_take hQ hHeld 0 (v := ?g9v1) rfl rfl (by kernel_rfl) (by kernel_rfl) (by kernel_rfl) (by kernel_rfl) (by kernel_rfl) (by rfl) ?g9y1 ?g9r1
        case g9y1 => (intro w hSw; (try dsimp only at hSw); go_simp; (try with_reducible rfl))
        (try simp only [layE])
        refine E_take hQ hHeld 1 (v := ?g9v2) rfl rfl (by kernel_rfl) (by kernel_rfl) (by kernel_rfl) (by kernel_rfl) (by kernel_rfl) (by rfl) ?g9y2 ?g9r2
        case g9y2 => (intro w hSw; (try dsimp only at hSw); go_simp; (try with_reducible rfl))
        (try simp only [layE])
        refine E_take0 hQ (fun _ => hHeld) 2 (v := ?g9v3) rfl rfl (by kernel_rfl) (by kernel_rfl) (by kernel_rfl) (by decide) (by rfl) ?g9y3 ?g9r3
        case g9y3 => (intro w; go_simp; (try with_reducible rfl))
        (try simp only [layE])
        refine E_take hQ hHeld 3 (v := ?g9v4) rfl rfl (by kernel_rfl) (by kernel_rfl) (by kernel_rfl) (by kernel_rfl) (by kernel_rfl) (by rfl) ?g9y4 ?g9r4
        case g9y4 => (intro w hSw; (try dsimp only at hSw); go_simp; (try with_reducible rfl))
        (try simp only [layE])
        refine E_take0 hQ (fun _ => hHeld) 4 (v := ?g9v5) rfl rfl (by kernel_rfl) (by kernel_rfl) (by kernel_rfl) (by decide) (by rfl) ?g9y5 ?g9r5
        case g9y5 => (intro w; go_simp; (try with_reducible rfl))
        (try simp only [layE])
        refine E_take hQ hHeld 5 (v := ?g9v6) rfl rfl (by kernel_rfl) (by kernel_rfl) (by kernel_rfl) (by kernel_rfl) (by kernel_rfl) (by rfl) ?g9y6 ?g9r6
        case g9y6 => (intro w hSw; (try dsimp only at hSw); go_simp; (try with_reducible rfl))
        (try simp only [layE])
        refine E_take0 hQ (fun _ => hHeld) 6 (v := ?g9v7) rfl rfl (by kernel_rfl) (by kernel_rfl) (by kernel_rfl) (by decide) (by rfl) ?g9y7 ?g9r7
        case g9y7 => (intro w; go_simp; (try with_reducible rfl))
        (try simp only [layE])
        refine E_take hQ hHeld 7 (v := ?g9v8) rfl rfl (by kernel_rfl) (by kernel_rfl) (by kernel_rfl) (by kernel_rfl) (by kernel_rfl) (by rfl) ?g9y8 ?g9r8
        case g9y8 => (intro w hSw; (try dsimp only at hSw); go_simp; (try with_reducible rfl))
        (try simp only [layE])
        refine E_take0 hQ (fun _ => hHeld) 8 (v := ?g9v9) rfl rfl (by kernel_rfl) (by kernel_rfl) (by kernel_rfl) (by decide) (by rfl) ?g9y9 ?g9r9
        case g9y9 => (intro w; go_simp; (try with_reducible rfl))
        (try simp only [layE])
        refine E_take0 hQ (fun _ => hHeld) 9 (v := ?g9v10) rfl rfl (by kernel_rfl) (by kernel_rfl) (by kernel_rfl) (by decide) (by rfl) ?g9y10 ?g9r10
        case g9y10 => (intro w; go_simp; (try with_reducible rfl))
        (try simp only [layE])
        refine E_take hQ hHeld 10 (v := ?g9v11) rfl rfl (by kernel_rfl) (by kernel_rfl) (by kernel_rfl) (by kernel_rfl) (by kernel_rfl) (by rfl) ?g9y11 ?g9r11
        case g9y11 => (intro w hSw; (try dsimp only at hSw); go_simp; (try with_reducible rfl))
        (try simp only [layE])
        refine E_take0 hQ (fun _ => hHeld) 11 (v := ?g9v12) rfl rfl (by kernel_rfl) (by kernel_rfl) (by kernel_rfl) (by decide) (by rfl) ?g9y12 ?g9r12
        case g9y12 => (intro w; go_simp; (try with_reducible rfl))
        (try simp only [layE])
        refine E_take hQ hHeld 12 (v := ?g9v13) rfl rfl (by kernel_rfl) (by kernel_rfl) (by kernel_rfl) (by kernel_rfl) (by kernel_rfl) (by rfl) ?g9y13 ?g9r13
        case g9y13 => (intro w hSw; (try dsimp only at hSw); go_simp; (try with_reducible rfl))
        (try simp only [layE])
        refine E_one 13 (by kernel_rfl) rfl (by rfl) (fun K hK => ?_)
        go_simp
        refine (nnote_any b3 (i : Int) 6 a l2 (w.heap.size + 1) _ _ W2.drew (HST2.out.drew.out) (by omega)).mono ?_
        rintro e W3 ⟨rfl, hnt⟩
        have HNT := Lib.hid hnt
        clear hnt
        (skip)
        refine hK.out _ _ (fun _ h => absurd rfl h) (fun _ => ?_)
        clear hK hHeld
        (try simp only [layE])
        refine E_done (by kernel_rfl) ?_ _
        refine hK'.out _ _ ?_
        obtain ⟨va3, vc3, st3, mp3, mx3, hT3, ho3, hk3, hb3⟩ := NkN (n0 := w.heap.size + 1) HST2.out.drew (HMP2.out.drew) (W := W2.drew) HMX2.out HT2.out (by decide) hTb (by omega) HS2.out o1 HO2.out (Nat.le_refl _) HNT.out
        have hl3 : (noteL l2 b3 ((i : Int), 6, a)).length ≤ l2.length + 1 := noteL_len _ _ _
        have HST3 := Lib.hid st3
        have HMP3 := Lib.hid mp3
        have HMX3 := Lib.hid mx3
        have HT3 := Lib.hid hT3
        have HO3 := Lib.hid ho3
        have HK3 := Lib.hid hk3
        clear st3 mp3 mx3 hT3 ho3 hk3 hb3 HNT t0 t1 t2 qn qx hlk HST2 HMP2 HMX2 HT2 HO2 HS2 hK' hQ
        generalize noteL l2 b3 ((i : Int), 6, a) = l3 at *
        obtain ⟨t0, t1, t2, -, -, -⟩ := cells3h HT3.out
        have qx := HMX3.out.cell
        have hlk := (HMP3.out.drew).look Tryz.keyOwn HOK.out
        rw [HC1.out] at hlk
        have hwf : ∀ d, cntI (pre.map keyR) (i, a) = some d → (Lit.int .i64 d).wf = true := fun d hd => by
          have := HC1.out
          rw [hd] at this
          simp at this
          rw [this]
          exact i64_wf ⟨by omega, by omega⟩
        obtain ⟨st, w5, hme, hm5, -, -, ho5, hst⟩ := (HMP3.out.drew).entry Tryz.lawOwn Tryz.keyOwn (by unfold maxLen; omega) HOK.out hwf
        obtain ⟨w6, hes, hm6, hb6, hs6, ho6⟩ := hst ((c : Int) + 1) (i64_wf ⟨by omega, by omega⟩)
        have HM6 := Lib.hid hm6
        have HB6 := Lib.hid hb6
        have HO6 := Lib.hid ho6
        have hlk5 := hm5.look Tryz.keyOwn HOK.out
        have hRR : R + 1 ≠ R := by omega
        have qx5 := Boxed.cell (t := 156) ((ho5 (R + 1) hRR).trans HMX3.out)
        obtain ⟨t05, t15, -⟩ := cells3h ((ho5 b (HMP3.out.ne HT3.out)).trans HT3.out)
        simp only [HC1.out, aggO, goInt, if_true, Option.getD_some] at hlk hme hes hlk5
        have hwr : IntKind.i64.wrap ((c : Int) + 1) = (c : Int) + 1 := IntWalk.i64_in _ (by omega)
        clear hst hwf hm6 hb6 ho6 hm5 ho5
        gi_upto_region 20 with fail
        refine E_regionR (S := (fun W => W.cell? ⟨R + 1, 0, none⟩ = some (.map (some R)) ∧ W.cell? ⟨b, 0, none⟩ = some (.int .i64 (i : Int)) ∧ W.cell? ⟨b, 1, none⟩ = some (.string a) ∧ (Instr.lookup 156 (.map (some R)) (.agg #[.int .i64 (i : Int), .string a]) false).run Tryz.prog W = .ok (.int .i64 (c : Int)) W)) 10 (by kernel_rfl) (by kernel_rfl) ⟨qx, t0, t1, hlk⟩ (fun Q' hQ hK' hHeld => ?_)
        refine E_take hQ hHeld 0 (v := ?g0v1) rfl rfl (by kernel_rfl) (by kernel_rfl) (by kernel_rfl) (by kernel_rfl) (by kernel_rfl) (by rfl) ?g0y1 ?g0r1
        case g0y1 => (intro w hSw; (try dsimp only at hSw); go_simp; (try with_reducible rfl))
        (try simp only [layE])
        refine E_take0 hQ (fun _ => hHeld) 1 (v := ?g0v2) rfl rfl (by kernel_rfl) (by kernel_rfl) (by kernel_rfl) (by decide) (by rfl) ?g0y2 ?g0r2
        case g0y2 => (intro w; go_simp; (try with_reducible rfl))
        (try simp only [layE])
        refine E_take hQ hHeld 2 (v := ?g0v3) rfl rfl (by kernel_rfl) (by kernel_rfl) (by kernel_rfl) (by kernel_rfl) (by kernel_rfl) (by rfl) ?g0y3 ?g0r3
        case g0y3 => (intro w hSw; (try dsimp only at hSw); go_simp; (try with_reducible rfl))
        (try simp only [layE])
        refine E_take0 hQ (fun _ => hHeld) 3 (v := ?g0v4) rfl rfl (by kernel_rfl) (by kernel_rfl) (by kernel_rfl) (by decide) (by rfl) ?g0y4 ?g0r4
        case g0y4 => (intro w; go_simp; (try with_reducible rfl))
        (try simp only [layE])
        refine E_take hQ hHeld 4 (v := ?g0v5) rfl rfl (by kernel_rfl) (by kernel_rfl) (by kernel_rfl) (by kernel_rfl) (by kernel_rfl) (by rfl) ?g0y5 ?g0r5
        case g0y5 => (intro w hSw; (try dsimp only at hSw); go_simp; (try with_reducible rfl))
        (try simp only [layE])
        refine E_take0 hQ (fun _ => hHeld) 5 (v := ?g0v6) rfl rfl (by kernel_rfl) (by kernel_rfl) (by kernel_rfl) (by decide) (by rfl) ?g0y6 ?g0r6
        case g0y6 => (intro w; go_simp; (try with_reducible rfl))
        (try simp only [layE])
        refine E_take hQ hHeld 6 (v := ?g0v7) rfl rfl (by kernel_rfl) (by kernel_rfl) (by kernel_rfl) (by kernel_rfl) (by kernel_rfl) (by rfl) ?g0y7 ?g0r7
        case g0y7 => (intro w hSw; (try dsimp only at hSw); go_simp; (try with_reducible rfl))
        (try simp only [layE])
        refine E_take0 hQ (fun _ => hHeld) 7 (v := ?g0v8) rfl rfl (by kernel_rfl) (by kernel_rfl) (by kernel_rfl) (by decide) (by rfl) ?g0y8 ?g0r8
        case g0y8 => (intro w; go_simp; (try with_reducible rfl))
        (try simp only [layE])
        refine E_one 8 (by kernel_rfl) rfl (by rfl) (fun K hK => ?_)
        go_simp
        (try simp only [layE])
        refine hK.out _ _ (fun _ _ => ⟨qx5, t05, t15, hlk5⟩) (fun hHeld' => ?_)
        replace hHeld := hHeld' (by rfl) (by decide)
        clear hK hHeld'
        (try simp only [layE])
        refine E_take0 hQ (fun _ => hHeld) 9 (v := ?g0v9) rfl rfl (by kernel_rfl) (by kernel_rfl) (by kernel_rfl) (by decide) (by rfl) ?g0y9 ?g0r9
        case g0y9 => (intro w; go_simp; (try with_reducible rfl))
        (try simp only [layE])
        refine E_one 10 (by kernel_rfl) rfl (by rfl) (fun K hK => ?_)
        go_simp
        (try simp only [layE])
        refine hK.out _ _ (fun _ h => absurd rfl h) (fun _ => ?_)
        clear hK hHeld
        (try simp only [layE])
        refine E_done (by kernel_rfl) ?_ _
        refine hK'.out _ _ ?_
        have hk6 : Keep (w.heap.size + 1) S W3.drew w6 := ⟨HB6.out.mono (by omega), fun q hq => HO6.out q (fun e => o3 (e ▸ hq))⟩
        have hblk : ∀ (q : Nat) (cc : Array Value) (ty : TypeId) (fr : Nat × Nat), W3.drew.heap[q]? = some (.cells cc ty fr) → w6.heap[q]? = some (.cells cc ty fr) := fun q cc ty fr hq => (HO6.out q (HMP3.out.drew.ne hq)).trans hq
        have st6 : StW w w6 w.heap.size #[.string d.name, .string d.text, .slice (some ⟨g, off, none⟩) d.steps.length sc] (.func (.func 97) #[] #[.pointer (some ⟨w.heap.size + 1, 0, none⟩)]) va3 vc3 (l3) := ⟨⟨hblk _ _ _ _ HST3.out.out.box, HST3.out.out.own.block fun q e => HO6.out q (fun e2 => HST3.out.out.own.nemap HMP3.out (e2 ▸ e))⟩, hblk _ _ _ _ HST3.out.note, hblk _ _ _ _ HST3.out.dfb, HST3.out.low.drew.trans (HB6.out.mono (by omega))⟩
        gi_wp2_with fail
        have hd1 : Keep (w.heap.size + 1) S W1 W1.drew := ⟨(Below.refl _ _).drew, fun _ _ => rfl⟩
        have hd2 : Keep (w.heap.size + 1) S W2 W2.drew := ⟨(Below.refl _ _).drew, fun _ _ => rfl⟩
        have hd3 : Keep (w.heap.size + 1) S W3 W3.drew := ⟨(Below.refl _ _).drew, fun _ _ => rfl⟩
        refine ⟨⟨va3, vc3, nM + 1, ⟨by rw [HSN.out]; exact st6, by rw [HC2.out]; exact HM6.out, by simp; omega, hblk _ _ _ _ HMX3.out, o1, o2, o3, o4, by rw [HSN.out]; exact HO3.out⟩⟩, HK1.out.trans (hd1.trans (HK2.out.trans (hd2.trans (HK3.out.trans (hd3.trans hk6)))))⟩
end Go.Proofs.YtgfiogjfgbegpaaGreat

/-
  Sagas: on, asker: contracts.
-/
namespace Go.Proofs.YtgfiogjfgbegpaaGreat
open Go Go.RowKit Go.Maps Go.WideShapes

structure GoodS (n : Nat) (S : SagD) : Prop where
  dn : ∀ i ∈ S.done, 0 ≤ i ∧ i < (n : Int)
  dl : S.done.length ≤ n
  ul : S.undone.length ≤ n
def CallTo (w : World) (U : Nat → Prop) (w' : World) (k : SagK) (S : SagD) (os : List OrdD) (v : Value) : Prop :=
  ∃ (V : Nat → Prop) (va : Option Addr) (vc : Nat), v = .slice va os.length vc ∧ w'.ownsRow w.heap.size 55 4 (.slice va os.length vc) os.length (flatO os) ∧ (∀ g, (Value.slice va os.length vc).ownBlock = some g → ¬ V g) ∧ SagE w' V k S ∧ Grow U V w w' ∧ ∀ j, V j → j < w'.heap.size
theorem AskE.read {w : World} {U : Nat → Prop} {k : SagK} {bs bo ob : Nat} {X : AskX} (h : AskE w U k bs bo ob X) : ∃ va vc, w.heap[ob]? = some (.cells #[.slice va X.2.length vc] 52 (0, 0)) ∧ w.ownsRow ob 55 4 (.slice va X.2.length vc) X.2.length (flatO X.2) := by
  obtain ⟨da, dc, ua, uc, va, vc, h⟩ := h
  exact ⟨va, vc, h.hob, h.row⟩
end Go.Proofs.YtgfiogjfgbegpaaGreat
