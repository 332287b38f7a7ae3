/-
  bounds and names: note, within; the reference's Real.
-/
import Derived.Test.YtlakmfhpinljjaaBp14
import Derived.Test.YtlakmfhpinljjaaBp36
import Derived.Test.YtlakmfhpinljjaaBp37
import Derived.Test.YtlakmfhpinljjaaBp45
import Derived.Test.YtlakmfhpinljjaaBp48
namespace Go.Proofs.Ytlakmfhpinljjaa
open Go Go.RowKit Go.WideShapes

/-- Diags that a box holds. -/
structure OutG (W : World) (B : Nat) (va : Option Addr) (vc : Nat) (l : List DiagD) : Prop where
  box : Boxed W B 53 (.slice va l.length vc)
  own : OwnG W B va vc l
theorem OutG.below {W W' : World} {B vc : Nat} {va : Option Addr} {l : List DiagD} (h : OutG W B va vc l) (hb : Below W.heap.size W W') : OutG W' B va vc l := ⟨(hb.block _ h.box.lt).trans h.box, h.own.below hb⟩
def noteL (l : List DiagD) (b : Bool) (x : DiagD) : List DiagD := if b then l ++ [x] else l
/-- What a note leaves: the list behind the box, and all else. -/
def Noted (W w' : World) (B : Nat) (va : Option Addr) (vc : Nat) (l' l : List DiagD) : Prop :=
  ∃ va' vc', OutG w' B va' vc' l' ∧ Below B W w' ∧ (∀ (q : Nat) (ob : Obj), W.heap[q]? = some ob → q ≠ B → (Value.slice va l.length vc).ownBlock ≠ some q → w'.heap[q]? = some ob) ∧ ∀ q, q < W.heap.size → (Value.slice va l.length vc).ownBlock ≠ some q → (Value.slice va' l'.length vc').ownBlock ≠ some q
theorem outG_pushed {W w1 : World} {B vc : Nat} {va : Option Addr} {l : List DiagD} {x : DiagD} {v' : Value} {tmp : Obj} (h : OutG W B va vc l) (hown' : w1.ownsRow B 105 3 v' (l.length + 1) (flatG l ++ encG x)) (hgrow : (W.alloc tmp).grownBy w1 (Value.slice va l.length vc).ownBlock) (hfr : Fresh (W.alloc tmp) (.slice va l.length vc) v') :
    ∃ va' vc', v' = .slice va' (l.length + 1) vc' ∧ Boxed w1 B 53 (.slice va l.length vc) ∧ OutG (w1.setCell ⟨B, 0, none⟩ v') B va' vc' (noteL l true x) ∧ (Below B W (w1.setCell ⟨B, 0, none⟩ v') ∧ (∀ (q : Nat) (o : Obj), W.heap[q]? = some o → q ≠ B → (Value.slice va l.length vc).ownBlock ≠ some q → (w1.setCell ⟨B, 0, none⟩ v').heap[q]? = some o) ∧
      (∀ q, q < W.heap.size → (Value.slice va l.length vc).ownBlock ≠ some q → (Value.slice va' (noteL l true x).length vc').ownBlock ≠ some q)) := by
  obtain ⟨va', vc', rfl⟩ := (RdS.of_owns hown').form
  obtain ⟨h1, h2, h3, h4, h5⟩ := boxed_pushed (n0 := B) (S := fun _ => False) h.box (by decide) h.own (Nat.le_of_lt h.box.lt) (Nat.le_refl _) (Nat.le_refl _) (fun _ h => h.elim) id (fun _ _ h => h) hown' hgrow hfr
  have hlen : (noteL l true x).length = l.length + 1 := by simp [noteL]
  refine ⟨va', vc', rfl, h1, ⟨by rw [hlen]; exact h2, ?_⟩, h4.below, fun q o ho hq hne => pushed_other hgrow ho hq hne, fun q hq hne e => ?_⟩
  · unfold OwnG
    rw [hlen]
    have : flatG (noteL l true x) = flatG l ++ encG x := by rw [flatG_snoc]; rfl
    rw [this]
    exact h3
  · rw [hlen] at e
    rcases hfr q e with hf | hf
    · exact hne hf
    · simp at hf; omega

set_option maxRecDepth 100000 in
set_option maxHeartbeats 2000000 in
theorem bnote_any (b : Bool) (st er : Int) (tx : ByteArray) (l : List DiagD) (B vc : Nat) (va : Option Addr) (W : World) (ho : OutG W B va vc l) (hl : l.length ≤ 1000000) :
    Calls Try.prog 86 #[.bool b, .int .i64 st, .int .i64 er, .string tx, .pointer (some ⟨B, 0, none⟩)] W fun e w' => e = .returned (.tuple #[]) ∧ Noted W w' B va vc (noteL l b (st, er, tx)) l := by
  obtain ⟨i0, hi, hz0, hz1, hz2⟩ := info_parts Try.info_diag
  have HO := Lib.hid ho
  have hc0 := ho.box.cell
  have hBl := ho.box.lt
  clear ho
  cases b with
  | false =>
    go_enter Try.func86, Try.ntmps86
    go_wp2_with fail
    go_end0
    exact ⟨rfl, va, vc, HO.out, Below.refl _ _, fun _ _ h _ _ => h, fun _ _ h => h⟩
  | true =>
    go_enter Try.func86, Try.ntmps86
    go_wp2_with (at_builtin; go_must (refine wpList_push rfl _ _ 53 rfl B 105 i0 (.agg #[.int .i64 0, .int .i64 0, .string { data := #[] }]) 3 32 Try.underlying53 hi hz0 hz1 hz2 rfl (by decide) _ _ _ rfl (World.ownsRow.alloc HO.out.own _) ⟨W.heap.size, 0, none⟩ 1 1 (encG (st, er, tx)) rfl rfl cells3_new (encG_one (st, er, tx)) (by unfold maxLen; omega) (by omega) (by simp; omega) ?_; intro v' w2 hown' hgrow hfr; obtain ⟨va', vc', rfl, kb1, kb2, kb3⟩ := outG_pushed HO.out hown' hgrow hfr; have hc1 := kb1.cell; have hf1 := kb1.frozen; have KB2 := Lib.hid kb2; have KB3 := Lib.hid kb3; clear hown' hgrow hfr kb1 kb2 kb3))
    go_end0
    exact ⟨rfl, va', vc', KB2.out, KB3.out.1, KB3.out.2.1, KB3.out.2.2⟩

set_option maxRecDepth 100000 in
set_option maxHeartbeats 2000000 in
theorem nnote_any (b : Bool) (st er : Int) (tx : ByteArray) (l : List DiagD) (B vc : Nat) (va : Option Addr) (W : World) (ho : OutG W B va vc l) (hl : l.length ≤ 1000000) :
    Calls Try.prog 95 #[.bool b, .int .i64 st, .int .i64 er, .string tx, .pointer (some ⟨B, 0, none⟩)] W fun e w' => e = .returned (.tuple #[]) ∧ Noted W w' B va vc (noteL l b (st, er, tx)) l := by
  obtain ⟨i0, hi, hz0, hz1, hz2⟩ := info_parts Try.info_diag
  have HO := Lib.hid ho
  have hc0 := ho.box.cell
  have hBl := ho.box.lt
  clear ho
  cases b with
  | false =>
    go_enter Try.func95, Try.ntmps95
    go_wp2_with fail
    go_end0
    exact ⟨rfl, va, vc, HO.out, Below.refl _ _, fun _ _ h _ _ => h, fun _ _ h => h⟩
  | true =>
    go_enter Try.func95, Try.ntmps95
    go_wp2_with (at_builtin; go_must (refine wpList_push rfl _ _ 53 rfl B 105 i0 (.agg #[.int .i64 0, .int .i64 0, .string { data := #[] }]) 3 32 Try.underlying53 hi hz0 hz1 hz2 rfl (by decide) _ _ _ rfl (World.ownsRow.alloc HO.out.own _) ⟨W.heap.size, 0, none⟩ 1 1 (encG (st, er, tx)) rfl rfl cells3_new (encG_one (st, er, tx)) (by unfold maxLen; omega) (by omega) (by simp; omega) ?_; intro v' w2 hown' hgrow hfr; obtain ⟨va', vc', rfl, kb1, kb2, kb3⟩ := outG_pushed HO.out hown' hgrow hfr; have hc1 := kb1.cell; have hf1 := kb1.frozen; have KB2 := Lib.hid kb2; have KB3 := Lib.hid kb3; clear hown' hgrow hfr kb1 kb2 kb3))
    go_end0
    exact ⟨rfl, va', vc', KB2.out, KB3.out.1, KB3.out.2.1, KB3.out.2.2⟩

theorem within_any (x lo hi : Int) (W : World) :
    Calls Try.prog 87 #[.int .i64 x, .int .i64 lo, .int .i64 hi] W fun e w' => e = .returned (.bool (decide (lo ≤ x) && decide (x ≤ hi))) ∧ w' = W := by
  by_cases h1 : lo ≤ x
  · have d1 : decide (lo ≤ x) = true := decide_eq_true h1
    go_enter Try.func87, Try.ntmps87
    go_wp2_with fail
    go_ret
    rw [d1]
    exact ⟨rfl, rfl⟩
  · have d1 : decide (lo ≤ x) = false := decide_eq_false h1
    go_enter Try.func87, Try.ntmps87
    go_wp2_with fail
    go_ret
    exact ⟨rfl, rfl⟩
theorem setc13 {W : World} {B i : Nat} {t : TypeId} {l : List Value} (x : Value) (h : W.heap[B]? = some (.cells l.toArray t (0, 0))) : (W.setCell ⟨B, i, none⟩ x).heap[B]? = some (.cells (l.set i x).toArray t (0, 0)) := by
  have := setCell_heap i x h
  rw [this]
  simp
set_option maxRecDepth 100000 in
set_option maxHeartbeats 4000000 in
theorem rReal_any (s0 s1 s2 : ByteArray) (af : Option Addr) (an ac : Nat) (m f k l : Int) (nk : Int) (nt : ByteArray) (ka : Option Addr) (kn kc : Nat) (da : Option Addr) (dn dc : Nat) (nl : Int) (w : World) :
    Calls Try.prog 39 #[stepV s0 s1 s2 af an ac m f k l nk nt ka kn kc da dn dc nl] w fun e w' => e = .returned (stepV s0 s1 s2 af an ac (or0 m 1) f (or0 k 1) (or0 l 100) nk nt ka kn kc da dn dc nl) ∧ Below w.heap.size w w' := by
  unfold stepV or0
  by_cases h1 : m = 0 <;> by_cases h2 : k = 0 <;> by_cases h3 : l = 0
  all_goals (
    have e1 : (m == 0) = decide (m = 0) := by rw [Bool.eq_iff_iff]; simp
    have e2 : (k == 0) = decide (k = 0) := by rw [Bool.eq_iff_iff]; simp
    have e3 : (l == 0) = decide (l = 0) := by rw [Bool.eq_iff_iff]; simp
    simp only [h1, h2, h3, if_true, if_false, decide_true, decide_false] at e1 e2 e3 ⊢
    go_enter Try.func39, Try.ntmps39
    go_wp2_with fail)
  all_goals refine bodyPost_ret ?_ rfl ⟨rfl, ((Below.refl _ w).alloc (Nat.le_refl _) _).alloc (by simp) _⟩
  all_goals simp [results, Try.results39, go_sem]
end Go.Proofs.Ytlakmfhpinljjaa

/-
  bounds.Check: contract.
-/
namespace Go.Proofs.Ytlakmfhpinljjaa
open Go Go.RowKit Go.WideShapes

theorem noteL_len (l : List DiagD) (b : Bool) (x : DiagD) : (noteL l b x).length ≤ l.length + 1 := by unfold noteL; split <;> simp
/-- What is wrong with a step's numbers. -/
def rangeL (i : Nat) (s : StepD) (l : List DiagD) : List DiagD :=
  noteL (noteL (noteL (noteL l (!(decide (1 ≤ or0 s.most 1) && decide (or0 s.most 1 ≤ 10))) ((i : Int), 1, { data := #[109, 111, 115, 116] })) (!(decide (0 ≤ s.first) && decide (s.first ≤ 1000))) ((i : Int), 1, { data := #[102, 105, 114, 115, 116] })) (!(decide (1 ≤ or0 s.factor 1) && decide (or0 s.factor 1 ≤ 10))) ((i : Int), 1, { data := #[102, 97, 99, 116, 111, 114] })) (!(decide (1 ≤ or0 s.limit 100) && decide (or0 s.limit 100 ≤ 10000))) ((i : Int), 1, { data := #[108, 105, 109, 105, 116] })
def chkR : Nat → List StepD → List DiagD → List DiagD
  | _, [], l => l
  | i, s :: r, l => chkR (i + 1) r (rangeL i s l)
theorem chkR_snoc (s : StepD) : ∀ (r : List StepD) (i : Nat) (l : List DiagD), chkR i (r ++ [s]) l = rangeL (i + r.length) s (chkR i r l)
  | [], i, l => rfl
  | t :: r, i, l => by
    rw [List.cons_append, chkR, chkR_snoc s r (i + 1) _, chkR, List.length_cons, show i + 1 + r.length = i + (r.length + 1) by omega]
theorem rangeL_len (i : Nat) (s : StepD) (l : List DiagD) : (rangeL i s l).length ≤ l.length + 4 := by
  unfold rangeL
  refine Nat.le_trans (noteL_len _ _ _) ?_
  refine Nat.succ_le_succ (Nat.le_trans (noteL_len _ _ _) ?_)
  refine Nat.succ_le_succ (Nat.le_trans (noteL_len _ _ _) ?_)
  exact Nat.succ_le_succ (noteL_len _ _ _)
theorem chkR_len : ∀ (r : List StepD) (i : Nat) (l : List DiagD), (chkR i r l).length ≤ l.length + 4 * r.length
  | [], i, l => by simp [chkR]
  | s :: r, i, l => by
    rw [chkR, List.length_cons]
    have := chkR_len r (i + 1) (rangeL i s l)
    have := rangeL_len i s l
    omega
def emp (s : StepD) : Bool := s.undo.toList.isEmpty
/-- Those behind which a step comes that nothing undoes. -/
def undoL (all : List StepD) (l : List DiagD) (t : Int) : List DiagD := match all[t.toNat]? with
  | some s => noteL l (emp s) (t, 19, s.name)
  | none => l
theorem undoL_len (all : List StepD) (l : List DiagD) (t : Int) : (undoL all l t).length ≤ l.length + 1 := by
  unfold undoL; split
  · exact noteL_len _ _ _
  · exact Nat.le_succ _
def undoR (all : List StepD) (row : List Int) (l : List DiagD) : List DiagD := row.foldl (undoL all) l
theorem undoR_len (all : List StepD) : ∀ (row : List Int) (l : List DiagD), (undoR all row l).length ≤ l.length + row.length
  | [], l => Nat.le_refl _
  | t :: row, l => by
    unfold undoR
    rw [List.foldl_cons, List.length_cons]
    have := undoR_len all row (undoL all l t)
    have := undoL_len all l t
    unfold undoR at *
    omega
/-- Of the first k steps. -/
def chkU (all : List StepD) : Nat → List DiagD → List DiagD
  | 0, l => l
  | k + 1, l => match all[k]? with
    | some s => if emp s then chkU all k l else undoR all (depsD all k s) (chkU all k l)
    | none => chkU all k l
theorem chkU_succ (all : List StepD) {k : Nat} (hk : k < all.length) (l : List DiagD) : chkU all (k + 1) l = if emp all[k] then chkU all k l else undoR all (depsD all k all[k]) (chkU all k l) := by
  rw [chkU, List.getElem?_eq_getElem hk]
theorem depsD_in (all : List StepD) (k : Nat) (s : StepD) : ∀ x ∈ depsD all k s, ∃ n : Nat, x = (n : Int) ∧ n < all.length := by
  unfold depsD
  have key : ∀ (l : List ByteArray) (r : List Int), (∀ x ∈ r, ∃ n : Nat, x = (n : Int) ∧ n < all.length) → ∀ x ∈ (l.map fun a => idxStep all a 0).foldl (addRf k) r, ∃ n : Nat, x = (n : Int) ∧ n < all.length := by
    intro l
    induction l with
    | nil => intro r h; exact h
    | cons a l ih =>
      intro r h
      rw [List.map_cons, List.foldl_cons]
      refine ih _ fun x hx => ?_
      unfold addRf at hx
      split at hx
      · rename_i hc
        rcases List.mem_append.1 hx with hx | hx
        · exact h x hx
        · simp at hx
          subst hx
          have := idxStep_lt a all 0
          exact ⟨(idxStep all a 0).toNat, by omega, by omega⟩
      · exact h x hx
  exact key _ [] (by simp)
theorem depsD_len (all : List StepD) (k : Nat) (s : StepD) : (depsD all k s).length ≤ s.after.length := by
  rw [← rowJ_all]; exact rowJ_len _ _ _ _
theorem chkU_len (all : List StepD) {m : Nat} (hm : ∀ s ∈ all, s.after.length ≤ m) : ∀ (k : Nat) (l : List DiagD), (chkU all k l).length ≤ l.length + k * m
  | 0, l => by simp [chkU]
  | k + 1, l => by
    have ih := chkU_len all hm k l
    rw [Nat.add_mul, Nat.one_mul]
    unfold chkU
    split
    · rename_i s hs
      split
      · omega
      · have := undoR_len all (depsD all k s) (chkU all k l)
        have := depsD_len all k s
        have := hm s (List.mem_of_getElem? hs)
        omega
    · omega
theorem ownsRow_same {W W' : World} {base : Nat} {e : TypeId} {size n : Nat} {v : Value} {xs : List Value} (h : W.ownsRow base e size v n xs) (hs : ∀ q, base ≤ q → q < W.heap.size → W'.heap[q]? = W.heap[q]?) : W'.ownsRow base e size v n xs := by
  refine ⟨h.1, ?_⟩
  rcases h.2 with q2 | ⟨g, cap, cur, hv, hg, hh, rest⟩
  · exact .inl q2
  · exact .inr ⟨g, cap, cur, hv, hg, (hs g hg (Array.getElem?_eq_some_iff.1 hh).1).trans hh, rest⟩
theorem sets13 {W : World} {B : Nat} {t : TypeId} {c0 c1 c2 c3 c4 c5 c6 c7 c8 c9 c10 c11 c12 x0 x1 x2 x3 x4 x5 x6 x7 x8 x9 x10 x11 x12 : Value} (h : W.heap[B]? = some (.cells #[c0, c1, c2, c3, c4, c5, c6, c7, c8, c9, c10, c11, c12] t (0, 0))) : (((((((((((((W.setCell ⟨B, 0, none⟩ x0).setCell ⟨B, 1, none⟩ x1).setCell ⟨B, 2, none⟩ x2).setCell ⟨B, 3, none⟩ x3).setCell ⟨B, 4, none⟩ x4).setCell ⟨B, 5, none⟩ x5).setCell ⟨B, 6, none⟩ x6).setCell ⟨B, 7, none⟩ x7).setCell ⟨B, 8, none⟩ x8).setCell ⟨B, 9, none⟩ x9).setCell ⟨B, 10, none⟩ x10).setCell ⟨B, 11, none⟩ x11).setCell ⟨B, 12, none⟩ x12).heap[B]? = some (.cells #[x0, x1, x2, x3, x4, x5, x6, x7, x8, x9, x10, x11, x12] t (0, 0)) := by
  simp [World.setCell, h, Array.getElem?_modify]
theorem sets13_other {W : World} {B q : Nat} {x0 x1 x2 x3 x4 x5 x6 x7 x8 x9 x10 x11 x12 : Value} (h : q ≠ B) : (((((((((((((W.setCell ⟨B, 0, none⟩ x0).setCell ⟨B, 1, none⟩ x1).setCell ⟨B, 2, none⟩ x2).setCell ⟨B, 3, none⟩ x3).setCell ⟨B, 4, none⟩ x4).setCell ⟨B, 5, none⟩ x5).setCell ⟨B, 6, none⟩ x6).setCell ⟨B, 7, none⟩ x7).setCell ⟨B, 8, none⟩ x8).setCell ⟨B, 9, none⟩ x9).setCell ⟨B, 10, none⟩ x10).setCell ⟨B, 11, none⟩ x11).setCell ⟨B, 12, none⟩ x12).heap[q]? = W.heap[q]? := by
  simp only [Below.heap_setCell _ _ _ q (show q ≠ (⟨B, _, none⟩ : Addr).block from h)]
theorem sets13_below {W w : World} {B n : Nat} {x0 x1 x2 x3 x4 x5 x6 x7 x8 x9 x10 x11 x12 : Value} (hb : Below n w W) (h : n ≤ B) : Below n w (((((((((((((W.setCell ⟨B, 0, none⟩ x0).setCell ⟨B, 1, none⟩ x1).setCell ⟨B, 2, none⟩ x2).setCell ⟨B, 3, none⟩ x3).setCell ⟨B, 4, none⟩ x4).setCell ⟨B, 5, none⟩ x5).setCell ⟨B, 6, none⟩ x6).setCell ⟨B, 7, none⟩ x7).setCell ⟨B, 8, none⟩ x8).setCell ⟨B, 9, none⟩ x9).setCell ⟨B, 10, none⟩ x10).setCell ⟨B, 11, none⟩ x11).setCell ⟨B, 12, none⟩ x12) :=
  (((((((((((((hb.setCell (p := ⟨B, 0, none⟩) h _).setCell (p := ⟨B, 1, none⟩) h _).setCell (p := ⟨B, 2, none⟩) h _).setCell (p := ⟨B, 3, none⟩) h _).setCell (p := ⟨B, 4, none⟩) h _).setCell (p := ⟨B, 5, none⟩) h _).setCell (p := ⟨B, 6, none⟩) h _).setCell (p := ⟨B, 7, none⟩) h _).setCell (p := ⟨B, 8, none⟩) h _).setCell (p := ⟨B, 9, none⟩) h _).setCell (p := ⟨B, 10, none⟩) h _).setCell (p := ⟨B, 11, none⟩) h _).setCell (p := ⟨B, 12, none⟩) h _)

set_option maxRecDepth 100000 in
set_option maxHeartbeats 8000000 in
theorem bCheck_any (d : DefD) (cs : List Value) (sa : Option Addr) (sc : Nat) (w : World) (h : DefR w cs d sa sc) (hlen : d.steps.length ≤ 100) (hal : ∀ s ∈ d.steps, s.after.length ≤ 100) (hrl : (refsF d.steps 0 d.steps).length ≤ 1000000) (hok : ∀ x ∈ chkU d.steps d.steps.length (chkR 0 d.steps []), OkG x) :
    Calls Try.prog 35 #[.agg cs.toArray] w fun e w' => ∃ va vc, e = .returned (.slice va (sortD (chkU d.steps d.steps.length (chkR 0 d.steps []))).length vc) ∧ DgR w' (.slice va (sortD (chkU d.steps d.steps.length (chkR 0 d.steps []))).length vc) (sortD (chkU d.steps d.steps.length (chkR 0 d.steps []))) ∧ Below w.heap.size w w' := by
  obtain ⟨rfl, hna, hta, hva⟩ := h
  obtain ⟨_, _, he1, hl1, hl2⟩ := hva.form
  cases he1
  have e0 := World.alloc_heap_new w (.cells #[.string d.name, .string d.text, .slice sa d.steps.length sc] 24)
  have e1 := World.alloc_heap_new (w.alloc (.cells #[.string d.name, .string d.text, .slice sa d.steps.length sc] 24)) (.cells #[.slice none 0 0] 53)
  rw [World.size_alloc] at e1
  have e2 := (Below.heap_alloc (w.alloc (.cells #[.string d.name, .string d.text, .slice sa d.steps.length sc] 24)) (.cells #[.slice none 0 0] 53) w.heap.size (by simp)).trans e0
  have hb0 : Below w.heap.size w ((w.alloc (.cells #[.string d.name, .string d.text, .slice sa d.steps.length sc] 24)).alloc (.cells #[.slice none 0 0] 53)) := ((Below.refl _ _).alloc (Nat.le_refl _) _).alloc (by simp) _
  have hs0 : ((w.alloc (.cells #[.string d.name, .string d.text, .slice sa d.steps.length sc] 24)).alloc (.cells #[.slice none 0 0] 53)).heap.size = w.heap.size + 2 := by simp
  have HV0 := Lib.hid hva
  have HALL := Lib.hid hal
  have HOKK := Lib.hid hok
  have HRL := Lib.hid hrl
  obtain ⟨p0, p1, p2, -, -, -⟩ := cells3h e2
  clear hva hal hok hrl e0
  go_enter Try.func35, Try.ntmps35
  go_wp2_with fail
  generalize ((w.alloc (.cells #[.string d.name, .string d.text, .slice sa d.steps.length sc] 24)).alloc (.cells #[.slice none 0 0] 53)) = w2 at *
  have HB0 := Lib.hid hb0
  have G0 := Lib.hid e2
  have HO0 : Hid (OutG w2 (w.heap.size + 1) none 0 []) := Lib.hid ⟨e1, OwnG.nil _ _⟩
  clear hb0 e1 e2 p0 p1 p2
  go_loopg [16] (d.steps.length + 1) (fun gk i wr => ∃ (k : Nat) (va : Option Addr) (vc : Nat), k + gk = d.steps.length + 1 ∧ k ≤ d.steps.length ∧ i = .int .i64 k ∧ Hid (OutG wr (w.heap.size + 1) va vc (chkR 0 (d.steps.take k) [])) ∧ Hid (Below (w.heap.size + 1) w2 wr))
  case atStart => exact ⟨0, _, _, by omega, by omega, rfl, HO0, Lib.hid (Below.refl _ _)⟩
  case round =>
    obtain ⟨k, va0, vc0, hgk, hk, rfl, HOR, HBR⟩ := hrel
    have hg : gk = d.steps.length + 1 - k := by omega
    subst hg
    have hsr := HBR.out.size
    have HG := Lib.hid ((HBR.out.block w.heap.size (by omega)).trans G0.out)
    have HBW := Lib.hid (HB0.out.trans (HBR.out.mono (Nat.le_succ _)))
    have hcl0 := chkR_len (d.steps.take k) 0 []
    simp only [List.length_nil, List.length_take, Nat.zero_add] at hcl0
    by_cases hkl : k < d.steps.length
    · have d1 : decide ((k : Int) < (d.steps.length : Int)) = true := decide_eq_true (by omega)
      have hk1 : (k : Int) < (d.steps.length : Int) := by omega
      obtain ⟨g, off, cap, aa1, ac1, ka1, kc1, ba1, bc1, he, q1, q2, hns0, z0, z1, z2, z3, z4, z5, z6, z7, z8, z9, z10, z11, z12⟩ := (HV0.out.below HBW.out).at hkl
      cases he
      have HCS : Hid (chkR 0 (d.steps.take (k + 1)) [] = rangeL k d.steps[k] (chkR 0 (d.steps.take k) [])) := Lib.hid (by rw [take_succ_getS hkl, chkR_snoc, List.length_take, Nat.min_eq_left hk, Nat.zero_add])
      clear hns0
      generalize d.steps[k] = s at *
      have hl0 : (chkR 0 (d.steps.take k) []).length ≤ 1000 := by omega
      clear hcl0
      generalize hll0 : chkR 0 (d.steps.take k) [] = l0 at *
      go_upto_region 7 with fail
      have hx := World.alloc_heap_new wr (.cells #[.string s.name, .string s.action, .string s.undo, .slice aa1 s.after.length ac1, .int .i64 s.most, .int .i64 s.first, .int .i64 s.factor, .int .i64 s.limit, .int .u8 (s.note.kind : Int), .string s.note.text, .slice ka1 s.note.keys.length kc1, .slice ba1 s.note.kids.length bc1, .int .i64 s.note.line] 45)
      have hbx : Below wr.heap.size wr (wr.alloc (.cells #[.string s.name, .string s.action, .string s.undo, .slice aa1 s.after.length ac1, .int .i64 s.most, .int .i64 s.first, .int .i64 s.factor, .int .i64 s.limit, .int .u8 (s.note.kind : Int), .string s.note.text, .slice ka1 s.note.keys.length kc1, .slice ba1 s.note.kids.length bc1, .int .i64 s.note.line] 45)) := (Below.refl _ _).alloc (Nat.le_refl _) _
      have hox := HOR.out.below hbx
      have hTl : wr.heap.size < (wr.alloc (.cells #[.string s.name, .string s.action, .string s.undo, .slice aa1 s.after.length ac1, .int .i64 s.most, .int .i64 s.first, .int .i64 s.factor, .int .i64 s.limit, .int .u8 (s.note.kind : Int), .string s.note.text, .slice ka1 s.note.keys.length kc1, .slice ba1 s.note.kids.length bc1, .int .i64 s.note.line] 45)).heap.size := by simp
      have hTg : w.heap.size + 1 < wr.heap.size := HOR.out.box.lt
      have hne : (Value.slice va0 l0.length vc0).ownBlock ≠ some wr.heap.size := fun e => by have := (HOR.out.own.heap _ e).2; omega
      have hbx2 : Below (w.heap.size + 1) w2 (wr.alloc (.cells #[.string s.name, .string s.action, .string s.undo, .slice aa1 s.after.length ac1, .int .i64 s.most, .int .i64 s.first, .int .i64 s.factor, .int .i64 s.limit, .int .u8 (s.note.kind : Int), .string s.note.text, .slice ka1 s.note.keys.length kc1, .slice ba1 s.note.kids.length bc1, .int .i64 s.note.line] 45)) := HBR.out.alloc (by omega) _
      generalize (wr.alloc (.cells #[.string s.name, .string s.action, .string s.undo, .slice aa1 s.after.length ac1, .int .i64 s.most, .int .i64 s.first, .int .i64 s.factor, .int .i64 s.limit, .int .u8 (s.note.kind : Int), .string s.note.text, .slice ka1 s.note.keys.length kc1, .slice ba1 s.note.kids.length bc1, .int .i64 s.note.line] 45)) = wx at *
      generalize wr.heap.size = T at *
      clear z0 z1 z2 z3 z4 z5 z6 z7 z8 z9 z10 z11 z12
      obtain ⟨z0, z1, z2, z3, z4, z5, z6, z7, z8, z9, z10, z11, z12⟩ := cells13q hx
      obtain ⟨f0, f1, f2, f3, f4, f5, f6, f7, f8, f9, f10, f11, f12⟩ := cells13w hx
      have hR := Real_any s.name s.action s.undo aa1 s.after.length ac1 s.most s.first s.factor s.limit (s.note.kind : Int) s.note.text ka1 s.note.keys.length kc1 ba1 s.note.kids.length bc1 s.note.line wx
      unfold stepV at hR
      have HR := Lib.hid hR
      clear hR
      go_wp2_with fail
      refine HR.out.mono ?_
      rintro e w3 ⟨rfl, hb3⟩
      have hx3 := (hb3.block T hTl).trans hx
      have hox3 := hox.below hb3
      have hbx3 := bthen hbx2 (by omega) hb3
      clear z0 z1 z2 z3 z4 z5 z6 z7 z8 z9 z10 z11 z12 f0 f1 f2 f3 f4 f5 f6 f7 f8 f9 f10 f11 f12
      obtain ⟨z0, z1, z2, z3, z4, z5, z6, z7, z8, z9, z10, z11, z12⟩ := cells13q hx3
      obtain ⟨f0, f1, f2, f3, f4, f5, f6, f7, f8, f9, f10, f11, f12⟩ := cells13w hx3
      go_upto_region 8 with fail
      have hT0 := sets13 (x0 := .string s.name) (x1 := .string s.action) (x2 := .string s.undo) (x3 := .slice aa1 s.after.length ac1) (x4 := .int .i64 (or0 s.most 1)) (x5 := .int .i64 s.first) (x6 := .int .i64 (or0 s.factor 1)) (x7 := .int .i64 (or0 s.limit 100)) (x8 := .int .u8 (s.note.kind : Int)) (x9 := .string s.note.text) (x10 := .slice ka1 s.note.keys.length kc1) (x11 := .slice ba1 s.note.kids.length bc1) (x12 := .int .i64 s.note.line) hx3
      have hbx0 := sets13_below (x0 := .string s.name) (x1 := .string s.action) (x2 := .string s.undo) (x3 := .slice aa1 s.after.length ac1) (x4 := .int .i64 (or0 s.most 1)) (x5 := .int .i64 s.first) (x6 := .int .i64 (or0 s.factor 1)) (x7 := .int .i64 (or0 s.limit 100)) (x8 := .int .u8 (s.note.kind : Int)) (x9 := .string s.note.text) (x10 := .slice ka1 s.note.keys.length kc1) (x11 := .slice ba1 s.note.kids.length bc1) (x12 := .int .i64 s.note.line) hbx3 (B := T) (by omega)
      have hoth : ∀ q, q ≠ T → (((((((((((((w3.setCell ⟨T, 0, none⟩ (.string s.name)).setCell ⟨T, 1, none⟩ (.string s.action)).setCell ⟨T, 2, none⟩ (.string s.undo)).setCell ⟨T, 3, none⟩ (.slice aa1 s.after.length ac1)).setCell ⟨T, 4, none⟩ (.int .i64 (or0 s.most 1))).setCell ⟨T, 5, none⟩ (.int .i64 s.first)).setCell ⟨T, 6, none⟩ (.int .i64 (or0 s.factor 1))).setCell ⟨T, 7, none⟩ (.int .i64 (or0 s.limit 100))).setCell ⟨T, 8, none⟩ (.int .u8 (s.note.kind : Int))).setCell ⟨T, 9, none⟩ (.string s.note.text)).setCell ⟨T, 10, none⟩ (.slice ka1 s.note.keys.length kc1)).setCell ⟨T, 11, none⟩ (.slice ba1 s.note.kids.length bc1)).setCell ⟨T, 12, none⟩ (.int .i64 s.note.line)).heap[q]? = w3.heap[q]? := fun q hq => sets13_other hq
      have hox0 : OutG (((((((((((((w3.setCell ⟨T, 0, none⟩ (.string s.name)).setCell ⟨T, 1, none⟩ (.string s.action)).setCell ⟨T, 2, none⟩ (.string s.undo)).setCell ⟨T, 3, none⟩ (.slice aa1 s.after.length ac1)).setCell ⟨T, 4, none⟩ (.int .i64 (or0 s.most 1))).setCell ⟨T, 5, none⟩ (.int .i64 s.first)).setCell ⟨T, 6, none⟩ (.int .i64 (or0 s.factor 1))).setCell ⟨T, 7, none⟩ (.int .i64 (or0 s.limit 100))).setCell ⟨T, 8, none⟩ (.int .u8 (s.note.kind : Int))).setCell ⟨T, 9, none⟩ (.string s.note.text)).setCell ⟨T, 10, none⟩ (.slice ka1 s.note.keys.length kc1)).setCell ⟨T, 11, none⟩ (.slice ba1 s.note.kids.length bc1)).setCell ⟨T, 12, none⟩ (.int .i64 s.note.line)) (w.heap.size + 1) va0 vc0 l0 := ⟨(hoth _ (by omega)).trans hox3.box, hox3.own.block fun q e => hoth q (fun h => hne (h ▸ e))⟩
      generalize (((((((((((((w3.setCell ⟨T, 0, none⟩ (.string s.name)).setCell ⟨T, 1, none⟩ (.string s.action)).setCell ⟨T, 2, none⟩ (.string s.undo)).setCell ⟨T, 3, none⟩ (.slice aa1 s.after.length ac1)).setCell ⟨T, 4, none⟩ (.int .i64 (or0 s.most 1))).setCell ⟨T, 5, none⟩ (.int .i64 s.first)).setCell ⟨T, 6, none⟩ (.int .i64 (or0 s.factor 1))).setCell ⟨T, 7, none⟩ (.int .i64 (or0 s.limit 100))).setCell ⟨T, 8, none⟩ (.int .u8 (s.note.kind : Int))).setCell ⟨T, 9, none⟩ (.string s.note.text)).setCell ⟨T, 10, none⟩ (.slice ka1 s.note.keys.length kc1)).setCell ⟨T, 11, none⟩ (.slice ba1 s.note.kids.length bc1)).setCell ⟨T, 12, none⟩ (.int .i64 s.note.line)) = V0 at *
      clear z0 z1 z2 z3 z4 z5 z6 z7 z8 z9 z10 z11 z12 f0 f1 f2 f3 f4 f5 f6 f7 f8 f9 f10 f11 f12
      obtain ⟨-, -, -, -, z4, z5, z6, z7, -⟩ := cells13q hT0
      have HT0 := Lib.hid hT0
      have HO0' := Lib.hid hox0
      have HB0' := Lib.hid hbx0
      have HN0 := Lib.hid hne
      have HL0 : Hid (l0.length ≤ l0.length + 0) := Lib.hid (Nat.le_refl _)
      have HCS2 : Hid (chkR 0 (d.steps.take (k + 1)) [] = noteL (noteL (noteL (noteL l0 (!(decide (1 ≤ or0 s.most 1) && decide (or0 s.most 1 ≤ 10))) ((k : Int), 1, { data := #[109, 111, 115, 116] })) (!(decide (0 ≤ s.first) && decide (s.first ≤ 1000))) ((k : Int), 1, { data := #[102, 105, 114, 115, 116] })) (!(decide (1 ≤ or0 s.factor 1) && decide (or0 s.factor 1 ≤ 10))) ((k : Int), 1, { data := #[102, 97, 99, 116, 111, 114] })) (!(decide (1 ≤ or0 s.limit 100) && decide (or0 s.limit 100 ≤ 10000))) ((k : Int), 1, { data := #[108, 105, 109, 105, 116] })) := HCS
      have HRW0 : Hid (l0.length ≤ 1000) := Lib.hid hl0
      clear hT0 hox0 hbx0 hoth hne hox3 hbx3 hb3 hx3 hx hbx hox hbx2 HCS HR HOR
      generalize or0 s.most 1 = m at *
      generalize or0 s.factor 1 = fa at *
      generalize or0 s.limit 100 = lm at *
      generalize s.first = fi at *
      have HW1 := Lib.hid (fun W => within_any (m) 1 10 W)
      generalize hb1 : (decide (1 ≤ m) && decide (m ≤ 10)) = b1 at *
      have HW2 := Lib.hid (fun W => within_any (fi) 0 1000 W)
      generalize hb2 : (decide (0 ≤ fi) && decide (fi ≤ 1000)) = b2 at *
      have HW3 := Lib.hid (fun W => within_any (fa) 1 10 W)
      generalize hb3 : (decide (1 ≤ fa) && decide (fa ≤ 10)) = b3 at *
      have HW4 := Lib.hid (fun W => within_any (lm) 1 10000 W)
      generalize hb4 : (decide (1 ≤ lm) && decide (lm ≤ 10000)) = b4 at *
      go_wp2_with fail
      refine (HW1.out _).mono ?_
      rintro e w' ⟨rfl, rfl⟩
      go_wp2_with fail
      refine (bnote_any (!b1) (k : Int) 1 { data := #[109, 111, 115, 116] } l0 (w.heap.size + 1) vc0 va0 _ HO0'.out (by have := HL0.out; omega)).mono ?_
      rintro e V1 ⟨rfl, va1, vc1, ho1, hbl1, hkp1, hnb1⟩
      have hT1 := hkp1 _ _ HT0.out (by omega) HN0.out
      have HN1 := Lib.hid (hnb1 T (Array.getElem?_eq_some_iff.1 HT0.out).1 HN0.out)
      have HT1 := Lib.hid hT1
      have HO1 := Lib.hid ho1
      have HB1 := Lib.hid (HB0'.out.trans hbl1)
      have HL1 : Hid ((noteL l0 (!b1) ((k : Int), 1, { data := #[109, 111, 115, 116] })).length ≤ l0.length + 1) := Lib.hid (Nat.le_trans (noteL_len _ _ _) (by have := HL0.out; omega))
      have HE1 : Hid (noteL l0 (!b1) ((k : Int), 1, { data := #[109, 111, 115, 116] }) = noteL l0 (!b1) ((k : Int), 1, { data := #[109, 111, 115, 116] })) := Lib.hid rfl
      clear z4 z5 z6 z7 ho1 hbl1 hkp1 hnb1
      obtain ⟨-, -, -, -, z4, z5, z6, z7, -⟩ := cells13q hT1
      clear hT1
      generalize hl1 : noteL l0 (!b1) ((k : Int), 1, { data := #[109, 111, 115, 116] }) = l1 at *
      go_wp2_with fail
      refine (HW2.out _).mono ?_
      rintro e w' ⟨rfl, rfl⟩
      go_wp2_with fail
      refine (bnote_any (!b2) (k : Int) 1 { data := #[102, 105, 114, 115, 116] } l1 (w.heap.size + 1) vc1 va1 _ HO1.out (by have := HL1.out; omega)).mono ?_
      rintro e V2 ⟨rfl, va2, vc2, ho2, hbl2, hkp2, hnb2⟩
      have hT2 := hkp2 _ _ HT1.out (by omega) HN1.out
      have HN2 := Lib.hid (hnb2 T (Array.getElem?_eq_some_iff.1 HT1.out).1 HN1.out)
      have HT2 := Lib.hid hT2
      have HO2 := Lib.hid ho2
      have HB2 := Lib.hid (HB1.out.trans hbl2)
      have HL2 : Hid ((noteL l1 (!b2) ((k : Int), 1, { data := #[102, 105, 114, 115, 116] })).length ≤ l0.length + 2) := Lib.hid (Nat.le_trans (noteL_len _ _ _) (by have := HL1.out; omega))
      have HE2 : Hid (noteL l1 (!b2) ((k : Int), 1, { data := #[102, 105, 114, 115, 116] }) = noteL l1 (!b2) ((k : Int), 1, { data := #[102, 105, 114, 115, 116] })) := Lib.hid rfl
      clear z4 z5 z6 z7 ho2 hbl2 hkp2 hnb2
      obtain ⟨-, -, -, -, z4, z5, z6, z7, -⟩ := cells13q hT2
      clear hT2
      generalize hl2 : noteL l1 (!b2) ((k : Int), 1, { data := #[102, 105, 114, 115, 116] }) = l2 at *
      go_wp2_with fail
      refine (HW3.out _).mono ?_
      rintro e w' ⟨rfl, rfl⟩
      go_wp2_with fail
      refine (bnote_any (!b3) (k : Int) 1 { data := #[102, 97, 99, 116, 111, 114] } l2 (w.heap.size + 1) vc2 va2 _ HO2.out (by have := HL2.out; omega)).mono ?_
      rintro e V3 ⟨rfl, va3, vc3, ho3, hbl3, hkp3, hnb3⟩
      have hT3 := hkp3 _ _ HT2.out (by omega) HN2.out
      have HN3 := Lib.hid (hnb3 T (Array.getElem?_eq_some_iff.1 HT2.out).1 HN2.out)
      have HT3 := Lib.hid hT3
      have HO3 := Lib.hid ho3
      have HB3 := Lib.hid (HB2.out.trans hbl3)
      have HL3 : Hid ((noteL l2 (!b3) ((k : Int), 1, { data := #[102, 97, 99, 116, 111, 114] })).length ≤ l0.length + 3) := Lib.hid (Nat.le_trans (noteL_len _ _ _) (by have := HL2.out; omega))
      have HE3 : Hid (noteL l2 (!b3) ((k : Int), 1, { data := #[102, 97, 99, 116, 111, 114] }) = noteL l2 (!b3) ((k : Int), 1, { data := #[102, 97, 99, 116, 111, 114] })) := Lib.hid rfl
      clear z4 z5 z6 z7 ho3 hbl3 hkp3 hnb3
      obtain ⟨-, -, -, -, z4, z5, z6, z7, -⟩ := cells13q hT3
      clear hT3
      generalize hl3 : noteL l2 (!b3) ((k : Int), 1, { data := #[102, 97, 99, 116, 111, 114] }) = l3 at *
      go_wp2_with fail
      refine (HW4.out _).mono ?_
      rintro e w' ⟨rfl, rfl⟩
      go_wp2_with fail
      refine (bnote_any (!b4) (k : Int) 1 { data := #[108, 105, 109, 105, 116] } l3 (w.heap.size + 1) vc3 va3 _ HO3.out (by have := HL3.out; omega)).mono ?_
      rintro e V4 ⟨rfl, va4, vc4, ho4, hbl4, hkp4, hnb4⟩
      have hT4 := hkp4 _ _ HT3.out (by omega) HN3.out
      have HN4 := Lib.hid (hnb4 T (Array.getElem?_eq_some_iff.1 HT3.out).1 HN3.out)
      have HT4 := Lib.hid hT4
      have HO4 := Lib.hid ho4
      have HB4 := Lib.hid (HB3.out.trans hbl4)
      have HL4 : Hid ((noteL l3 (!b4) ((k : Int), 1, { data := #[108, 105, 109, 105, 116] })).length ≤ l0.length + 4) := Lib.hid (Nat.le_trans (noteL_len _ _ _) (by have := HL3.out; omega))
      have HE4 : Hid (noteL l3 (!b4) ((k : Int), 1, { data := #[108, 105, 109, 105, 116] }) = noteL l3 (!b4) ((k : Int), 1, { data := #[108, 105, 109, 105, 116] })) := Lib.hid rfl
      clear z4 z5 z6 z7 ho4 hbl4 hkp4 hnb4
      obtain ⟨-, -, -, -, z4, z5, z6, z7, -⟩ := cells13q hT4
      clear hT4
      generalize hl4 : noteL l3 (!b4) ((k : Int), 1, { data := #[108, 105, 109, 105, 116] }) = l4 at *
      go_wp2_with fail
      go_roundg (d.steps.length + 1 - (k + 1))
      case measure => omega
      case rel => exact ⟨k + 1, va4, vc4, by omega, by omega, by go_num, Lib.hid (by rw [HCS2.out]; exact HO4.out), HB4⟩
    · have d1 : decide ((k : Int) < (d.steps.length : Int)) = false := decide_eq_false (by omega)
      have hk1 : ¬ (k : Int) < (d.steps.length : Int) := by omega
      have hc1l : (chkR 0 d.steps []).length ≤ 400 := by have := chkR_len d.steps 0 []; simp only [List.length_nil, Nat.zero_add] at this; omega
      have HO1 : Hid (OutG wr (w.heap.size + 1) va0 vc0 (chkR 0 d.steps [])) := Lib.hid (by have := HOR.out; rwa [List.take_of_length_le (by omega)] at this)
      have HCU := Lib.hid (fun k => chkU_len d.steps HALL.out k (chkR 0 d.steps []))
      obtain ⟨p0, p1, p2, -, -, -⟩ := cells3h HG.out
      have hTg : w.heap.size + 1 < wr.heap.size := HOR.out.box.lt
      rename_i hkn
      have hke : k = d.steps.length := by omega
      subst hke
      clear HOR hcl0 hkn hk
      generalize hc1 : chkR 0 d.steps [] = c1 at *
      go_wp2_with fail
      refine (nRefsA_any d _ sa sc _ ⟨rfl, hna, hta, HV0.out.below HBW.out⟩ (by omega) HRL.out).mono ?_
      rintro e w5 ⟨rfl, hr5, hb5⟩
      have hdl := depsA_len d.steps d.steps 0
      have HR5 := Lib.hid hr5
      have HO5 := Lib.hid (HO1.out.below hb5)
      have HN5 : Hid (∀ q, wr.heap.size < q → q < w5.heap.size → (Value.slice va0 c1.length vc0).ownBlock ≠ some q) := Lib.hid (fun q h1 _ e => by have := (HO1.out.own.heap _ e).2; omega)
      have HB5 := Lib.hid (bthen HBR.out (by omega) hb5)
      have HBW5 := Lib.hid (HBW.out.trans (hb5.mono HBW.out.size))
      have hR : wr.heap.size < w5.heap.size := by
        obtain ⟨cs, -, h2, -⟩ := hr5
        have := (Array.getElem?_eq_some_iff.1 h2).1
        omega
      generalize wr.heap.size = R at *
      clear hb5 hr5 HO1 p0 p1 p2 HBR HBW hsr
      go_wp2_with fail
      go_loopg [62] (d.steps.length + 1) (fun gk i wi => ∃ (k : Nat) (va : Option Addr) (vc : Nat), k + gk = d.steps.length + 1 ∧ k ≤ d.steps.length ∧ i = .int .i64 k ∧ Hid (OutG wi (w.heap.size + 1) va vc (chkU d.steps k c1)) ∧ Hid (Below (w.heap.size + 1) w5 wi) ∧ Hid (∀ q, R < q → q < w5.heap.size → wi.heap[q]? = w5.heap[q]?) ∧ Hid (∀ q, R < q → q < w5.heap.size → (Value.slice va (chkU d.steps k c1).length vc).ownBlock ≠ some q))
      case atStart => exact ⟨0, _, _, by omega, by omega, rfl, HO5, Lib.hid (Below.refl _ _), Lib.hid (fun _ _ _ => rfl), HN5⟩
      case round =>
        obtain ⟨k, va, vc, hgk, hk, rfl, HO, HBI, HSI, HNI⟩ := hrel
        rename World => wi
        have hg : gk = d.steps.length + 1 - k := by omega
        subst hg
        have hsi := HBI.out.size
        have hGi : wi.heap[w.heap.size]? = some (.cells #[.string d.name, .string d.text, .slice sa d.steps.length sc] 24 (0, 0)) := (HBI.out.block _ (by omega)).trans ((HB5.out.block _ (by omega)).trans G0.out)
        obtain ⟨p0, p1, p2, -, -, -⟩ := cells3h hGi
        have HGi := Lib.hid hGi
        clear hGi
        have HVI := Lib.hid (HV0.out.below (HBW5.out.trans (HBI.out.mono (Nat.le_succ _))))
        by_cases hkl : k < d.steps.length
        · have d1 : decide ((k : Int) < (d.steps.length : Int)) = true := decide_eq_true (by omega)
          have hk1 : (k : Int) < (d.steps.length : Int) := by omega
          obtain ⟨g, off, cap, aa1, ac1, ka1, kc1, ba1, bc1, he, q1, q2, hns0, -, -, z2, -⟩ := HVI.out.at hkl
          cases he
          have hcs := chkU_succ d.steps hkl c1
          have hri : k < (depsA d.steps 0 d.steps).length := by rw [hdl]; exact hkl
          have hrk : (depsA d.steps 0 d.steps)[k] = depsD d.steps k d.steps[k] := by have := depsA_get d.steps d.steps 0 k hkl; rw [List.getElem?_eq_getElem hri] at this; simpa using this
          obtain ⟨ra, rc, y05, -, hrow, -⟩ := HR5.out.cell hri
          rw [hrk] at y05 hrow
          have y0 : wi.cell? ⟨R + 1, k, none⟩ = some (.slice ra (depsD d.steps k d.steps[k]).length rc) := by
            rw [World.cell?_of_block (w := w5) (HSI.out (R + 1) (by omega) (World.block_lt_of_cell? w5 _ y05))]
            exact y05
          have HROW := Lib.hid hrow
          have hrl := depsD_len d.steps k d.steps[k]
          have hal := HALL.out _ (List.getElem_mem hkl)
          have HIN := Lib.hid (depsD_in d.steps k d.steps[k])
          have hcu := HCU.out k
          have hcub : (chkU d.steps k c1).length ≤ 10400 := by
            have : k * 100 ≤ 100 * 100 := Nat.mul_le_mul_right _ (by omega)
            omega
          have hem : emp d.steps[k] = d.steps[k].undo.toList.isEmpty := rfl
          rw [hem] at hcs
          have HCS := Lib.hid hcs
          clear hcs hrow hns0 hcu hrk y05 hem
          generalize depsD d.steps k d.steps[k] = row at *
          generalize d.steps[k] = s0 at *
          generalize he0 : s0.undo.toList.isEmpty = e0 at *
          cases e0 with
          | true =>
            have HE : Hid (chkU d.steps (k + 1) c1 = chkU d.steps k c1) := Lib.hid (by rw [HCS.out]; rfl)
            go_wp2_with fail
            go_roundg (d.steps.length + 1 - (k + 1))
            case measure => omega
            case rel => exact ⟨k + 1, va, vc, by omega, by omega, by go_num, Lib.hid (by rw [HE.out]; exact HO.out), HBI, HSI, Lib.hid (by rw [HE.out]; exact HNI.out)⟩
          | false =>
            have HE : Hid (chkU d.steps (k + 1) c1 = undoR d.steps row (chkU d.steps k c1)) := Lib.hid (by rw [HCS.out]; rfl)
            clear HCS
            generalize chkU d.steps k c1 = c2 at *
            go_wp2_with fail
            clear p0 p1 p2 z2 y0
            go_loopg [76] (row.length + 1) (fun gk i wj => ∃ (j : Nat) (va : Option Addr) (vc : Nat), j + gk = row.length + 1 ∧ j ≤ row.length ∧ i = .int .i64 j ∧ Hid (OutG wj (w.heap.size + 1) va vc (undoR d.steps (row.take j) c2)) ∧ Hid (Below (w.heap.size + 1) w5 wj) ∧ Hid (∀ q, R < q → q < w5.heap.size → wj.heap[q]? = w5.heap[q]?) ∧ Hid (∀ q, R < q → q < w5.heap.size → (Value.slice va (undoR d.steps (row.take j) c2).length vc).ownBlock ≠ some q))
            case atStart => exact ⟨0, va, vc, by omega, by omega, rfl, HO, HBI, HSI, HNI⟩
            case round =>
              obtain ⟨j, va, vc, hgj, hjr, rfl, HOJ, HBJ, HSJ, HNJ⟩ := hrel
              rename World => wj
              have hg : gk = row.length + 1 - j := by omega
              subst hg
              have hsj := HBJ.out.size
              have HVJ := Lib.hid (HV0.out.below (HBW5.out.trans (HBJ.out.mono (Nat.le_succ _))))
              obtain ⟨p0, p1, p2, -, -, -⟩ := cells3h ((HBJ.out.block w.heap.size (by omega)).trans ((HB5.out.block w.heap.size (by omega)).trans G0.out))
              by_cases hjl : j < row.length
              · have d2 : decide ((j : Int) < (row.length : Int)) = true := decide_eq_true (by omega)
                have hj1 : (j : Int) < (row.length : Int) := by omega
                have hrj := ownsRow_same HROW.out (fun q h1 h2 => HSJ.out q (by omega) h2)
                obtain ⟨rg, ro, rfl, -, -, y0⟩ := ints_at (RdS.of_owns hrj) hjl
                obtain ⟨iN, hiN, hil⟩ := HIN.out _ (List.getElem_mem hjl)
                have HTK : Hid (row.take (j + 1) = row.take j ++ [row[j]]) := Lib.hid (by rw [List.take_add_one, List.getElem?_eq_getElem hjl]; rfl)
                rw [hiN] at y0
                have HTK2 : Hid (row.take (j + 1) = row.take j ++ [(iN : Int)]) := Lib.hid (by rw [HTK.out, hiN])
                obtain ⟨g2, off2, cap2, aa2, ac2, ka2, kc2, ba2, bc2, he, -, -, hns0, z0, z1, z2, -⟩ := HVJ.out.at hil
                cases he
                have hu1 := undoR_len d.steps (row.take j) c2
                rw [List.length_take] at hu1
                have HUS : Hid (undoR d.steps (row.take (j + 1)) c2 = noteL (undoR d.steps (row.take j) c2) (emp d.steps[iN]) ((iN : Int), 19, d.steps[iN].name)) := Lib.hid (by
                  rw [HTK2.out]
                  unfold undoR
                  rw [List.foldl_append, List.foldl_cons, List.foldl_nil]
                  unfold undoL
                  rw [Int.toNat_natCast, List.getElem?_eq_getElem hil])
                have hem : emp d.steps[iN] = d.steps[iN].undo.toList.isEmpty := rfl
                rw [hem] at HUS
                have hi1 : (iN : Int) < (d.steps.length : Int) := by omega
                clear hns0 hem HTK hiN hrj
                generalize undoR d.steps (row.take j) c2 = ol at *
                generalize d.steps[iN] = s at *
                generalize heb : s.undo.toList.isEmpty = eb at *
                have HOI := HOJ
                go_upto_region 20 with fail
                refine E_region (S := (fun W => W.cell? ⟨w.heap.size, 2, none⟩ = some (.slice (some ⟨g, off, none⟩) d.steps.length sc) ∧ W.cell? ⟨g, off + iN * 13 + 2, none⟩ = some (.string s.undo) ∧ W.cell? ⟨g, off + iN * 13, none⟩ = some (.string s.name))) 15 (by kernel_rfl) ⟨p2, z2, z0⟩ (fun _ _ _ _ _ h => h) (fun Q' hQ hK' hHeld => ?_)
                refine E_take0 hQ (fun _ => hHeld) 0 (v := ?ev1) rfl rfl (by kernel_rfl) (by kernel_rfl) (by kernel_rfl) (by decide) (by rfl) ?ey1 ?er1
                case ey1 => (intro w; go_simp; (try with_reducible rfl))
                (try simp only [Act.put, List.setIfInBounds_toArray, List.set_cons_zero, List.set_cons_succ])
                refine E_take0 hQ (fun _ => hHeld) 1 (v := ?ev2) rfl rfl (by kernel_rfl) (by kernel_rfl) (by kernel_rfl) (by decide) (by rfl) ?ey2 ?er2
                case ey2 => (intro w; go_simp; (try with_reducible rfl))
                (try simp only [Act.put, List.setIfInBounds_toArray, List.set_cons_zero, List.set_cons_succ])
                refine E_take hQ hHeld 2 (v := ?ev3) rfl rfl (by kernel_rfl) (by kernel_rfl) (by kernel_rfl) (by kernel_rfl) (by kernel_rfl) (by rfl) ?ey3 ?er3
                case ey3 => (intro w hSw; (try dsimp only at hSw); go_simp; (try with_reducible rfl))
                (try simp only [Act.put, List.setIfInBounds_toArray, List.set_cons_zero, List.set_cons_succ])
                refine E_take0 hQ (fun _ => hHeld) 3 (v := ?ev4) rfl rfl (by kernel_rfl) (by kernel_rfl) (by kernel_rfl) (by decide) (by rfl) ?ey4 ?er4
                case ey4 => (intro w; go_simp; (try with_reducible rfl))
                (try simp only [Act.put, List.setIfInBounds_toArray, List.set_cons_zero, List.set_cons_succ])
                refine E_take0 hQ (fun _ => hHeld) 4 (v := ?ev5) rfl rfl (by kernel_rfl) (by kernel_rfl) (by kernel_rfl) (by decide) (by rfl) ?ey5 ?er5
                case ey5 => (intro w; go_simp; (try with_reducible rfl))
                (try simp only [Act.put, List.setIfInBounds_toArray, List.set_cons_zero, List.set_cons_succ])
                refine E_take0 hQ (fun _ => hHeld) 5 (v := ?ev6) rfl rfl (by kernel_rfl) (by kernel_rfl) (by kernel_rfl) (by decide) (by rfl) ?ey6 ?er6
                case ey6 => (intro w; go_simp; (try with_reducible rfl))
                (try simp only [Act.put, List.setIfInBounds_toArray, List.set_cons_zero, List.set_cons_succ])
                refine E_take hQ hHeld 6 (v := ?ev7) rfl rfl (by kernel_rfl) (by kernel_rfl) (by kernel_rfl) (by kernel_rfl) (by kernel_rfl) (by rfl) ?ey7 ?er7
                case ey7 => (intro w hSw; (try dsimp only at hSw); go_simp; (try with_reducible rfl))
                (try simp only [Act.put, List.setIfInBounds_toArray, List.set_cons_zero, List.set_cons_succ])
                refine E_take0 hQ (fun _ => hHeld) 7 (v := ?ev8) rfl rfl (by kernel_rfl) (by kernel_rfl) (by kernel_rfl) (by decide) (by rfl) ?ey8 ?er8
                case ey8 => (intro w; go_simp; (try with_reducible rfl))
                (try simp only [Act.put, List.setIfInBounds_toArray, List.set_cons_zero, List.set_cons_succ])
                refine E_take0 hQ (fun _ => hHeld) 8 (v := ?ev9) rfl rfl (by kernel_rfl) (by kernel_rfl) (by kernel_rfl) (by decide) (by rfl) ?ey9 ?er9
                case ey9 => (intro w; go_simp; (try with_reducible rfl))
                (try simp only [Act.put, List.setIfInBounds_toArray, List.set_cons_zero, List.set_cons_succ])
                refine E_take0 hQ (fun _ => hHeld) 9 (v := ?ev10) rfl rfl (by kernel_rfl) (by kernel_rfl) (by kernel_rfl) (by decide) (by rfl) ?ey10 ?er10
                case ey10 => (intro w; go_simp; (try with_reducible rfl))
                (try simp only [Act.put, List.setIfInBounds_toArray, List.set_cons_zero, List.set_cons_succ])
                refine E_take hQ hHeld 10 (v := ?ev11) rfl rfl (by kernel_rfl) (by kernel_rfl) (by kernel_rfl) (by kernel_rfl) (by kernel_rfl) (by rfl) ?ey11 ?er11
                case ey11 => (intro w hSw; (try dsimp only at hSw); go_simp; (try with_reducible rfl))
                (try simp only [Act.put, List.setIfInBounds_toArray, List.set_cons_zero, List.set_cons_succ])
                refine E_take0 hQ (fun _ => hHeld) 11 (v := ?ev12) rfl rfl (by kernel_rfl) (by kernel_rfl) (by kernel_rfl) (by decide) (by rfl) ?ey12 ?er12
                case ey12 => (intro w; go_simp; (try with_reducible rfl))
                (try simp only [Act.put, List.setIfInBounds_toArray, List.set_cons_zero, List.set_cons_succ])
                refine E_take0 hQ (fun _ => hHeld) 12 (v := ?ev13) rfl rfl (by kernel_rfl) (by kernel_rfl) (by kernel_rfl) (by decide) (by rfl) ?ey13 ?er13
                case ey13 => (intro w; go_simp; (try with_reducible rfl))
                (try simp only [Act.put, List.setIfInBounds_toArray, List.set_cons_zero, List.set_cons_succ])
                refine E_take0 hQ (fun _ => hHeld) 13 (v := ?ev14) rfl rfl (by kernel_rfl) (by kernel_rfl) (by kernel_rfl) (by decide) (by rfl) ?ey14 ?er14
                case ey14 => (intro w; go_simp; (try with_reducible rfl))
                (try simp only [Act.put, List.setIfInBounds_toArray, List.set_cons_zero, List.set_cons_succ])
                refine E_take hQ hHeld 14 (v := ?ev15) rfl rfl (by kernel_rfl) (by kernel_rfl) (by kernel_rfl) (by kernel_rfl) (by kernel_rfl) (by rfl) ?ey15 ?er15
                case ey15 => (intro w hSw; (try dsimp only at hSw); go_simp; (try with_reducible rfl))
                (try simp only [Act.put, List.setIfInBounds_toArray, List.set_cons_zero, List.set_cons_succ])
                refine E_one 15 (by kernel_rfl) rfl (by rfl) (fun K hK => ?_)
                go_simp
                refine (bnote_any eb (iN : Int) 19 s.name ol (w.heap.size + 1) vc va _ (HOI.out.below ((Below.refl _ _).drew)) (by omega)).mono ?_
                rintro e W15 ⟨rfl, hnt⟩
                have HNT := Lib.hid hnt
                clear hnt
                refine hK.out _ _ (fun _ h => absurd rfl h) (fun _ => ?_)
                clear hK hHeld
                (try simp only [Act.put, List.setIfInBounds_toArray, List.set_cons_zero, List.set_cons_succ])
                refine E_done (by kernel_rfl) ?_ _
                refine hK'.out _ _ ?_
                obtain ⟨va', vc', ho', hbb, hkp, hnb⟩ := HNT.out
                have HOF := Lib.hid ho'
                have HBF := Lib.hid (HBJ.out.drew.trans hbb)
                have HSF : Hid (∀ q, R < q → q < w5.heap.size → W15.heap[q]? = w5.heap[q]?) := Lib.hid (fun q h1 h2 => by
                  have h3 := HSJ.out q h1 h2
                  obtain ⟨ob, hob⟩ : ∃ ob, w5.heap[q]? = some ob := ⟨_, Array.getElem?_eq_getElem h2⟩
                  rw [hob] at h3 ⊢
                  exact hkp q ob h3 (by omega) (HNJ.out q h1 h2))
                have HNF := Lib.hid (fun q h1 h2 => hnb q (Nat.lt_of_lt_of_le h2 hsj) (HNJ.out q h1 h2))
                clear ho' hbb hkp hnb
                go_wp2_with fail
                go_roundg (row.length + 1 - (j + 1))
                case measure => omega
                case rel => exact ⟨j + 1, va', vc', by omega, by omega, by go_num, Lib.hid (by rw [HUS.out]; exact HOF.out), HBF, HSF, Lib.hid (by rw [HUS.out]; exact HNF.out)⟩
              · have d2 : decide ((j : Int) < (row.length : Int)) = false := decide_eq_false (by omega)
                have hj1 : ¬ (j : Int) < (row.length : Int) := by omega
                have HF : Hid (undoR d.steps (row.take j) c2 = chkU d.steps (k + 1) c1) := Lib.hid (by rw [HE.out, List.take_of_length_le (by omega)])
                go_wp2_with fail
                go_roundg (d.steps.length + 1 - (k + 1))
                case measure => omega
                case rel => exact ⟨k + 1, va, vc, by omega, by omega, by go_num, Lib.hid (by rw [← HF.out]; exact HOJ.out), HBJ, HSJ, Lib.hid (by rw [← HF.out]; exact HNJ.out)⟩
        · have d1 : decide ((k : Int) < (d.steps.length : Int)) = false := decide_eq_false (by omega)
          have hk1 : ¬ (k : Int) < (d.steps.length : Int) := by omega
          have hke : k = d.steps.length := by omega
          subst hke
          have hcu := HCU.out d.steps.length
          have hcub : (chkU d.steps d.steps.length c1).length ≤ 10400 := by
            have : d.steps.length * 100 ≤ 100 * 100 := Nat.mul_le_mul_right _ (by omega)
            omega
          have hbc := HO.out.box.cell
          have HDG := Lib.hid (HO.out.own.read HOKK.out)
          have HOKS := Lib.hid (fun x (hx : x ∈ sortD (chkU d.steps d.steps.length c1)) => HOKK.out x ((sortD_mem _ x).1 hx))
          clear p0 p1 p2 hcu
          go_wp2_with fail
          refine (dSort_any _ _ _ HDG.out (by omega)).mono ?_
          rintro e w6 ⟨ua, uc, rfl, ho6, hb6⟩
          have HDF := Lib.hid (ho6.read HOKS.out)
          have HBF := Lib.hid (HBW5.out.trans ((HBI.out.trans (hb6.mono (by omega))).mono (Nat.le_succ _)))
          clear ho6 hb6 hbc
          go_wp2_with fail
          go_ret
          rw [hc1]
          exact ⟨_, _, rfl, HDF.out, HBF.out⟩
end Go.Proofs.Ytlakmfhpinljjaa
