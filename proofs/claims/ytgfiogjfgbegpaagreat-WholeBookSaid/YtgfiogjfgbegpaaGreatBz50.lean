/-
  bounds.Check: contract.
-/
import Derived.Test.YtgfiogjfgbegpaaGreatBz10
import Derived.Test.YtgfiogjfgbegpaaGreatBz17
import Derived.Test.YtgfiogjfgbegpaaGreatBz37
import Derived.Test.YtgfiogjfgbegpaaGreatBz38
import Derived.Test.YtgfiogjfgbegpaaGreatBz42
import Derived.Test.YtgfiogjfgbegpaaGreatBz49
namespace Go.Proofs.YtgfiogjfgbegpaaGreat
open Go Go.RowKit Go.WideShapes

theorem noteL_len (l : List DiagD) (b : Bool) (x : DiagD) : (noteL l b x).length ≤ l.length + 1 := by unfold noteL; split <;> simp
def rangeL (i : Nat) (s : StepD) (l : List DiagD) : List DiagD :=
  noteL (noteL (noteL (noteL l (!(decide (1 ≤ or0 s.most 1) && decide (or0 s.most 1 ≤ 10))) ((i : Int), 1, { data := #[109, 111, 115, 116] })) (!(decide (0 ≤ s.first) && decide (s.first ≤ 1000))) ((i : Int), 1, { data := #[102, 105, 114, 115, 116] })) (!(decide (1 ≤ or0 s.factor 1) && decide (or0 s.factor 1 ≤ 10))) ((i : Int), 1, { data := #[102, 97, 99, 116, 111, 114] })) (!(decide (1 ≤ or0 s.limit 100) && decide (or0 s.limit 100 ≤ 10000))) ((i : Int), 1, { data := #[108, 105, 109, 105, 116] })
def chkR : Nat → List StepD → List DiagD → List DiagD
  | _, [], l => l
  | i, s :: r, l => chkR (i + 1) r (rangeL i s l)
theorem chkR_snoc (s : StepD) : ∀ (r : List StepD) (i : Nat) (l : List DiagD), chkR i (r ++ [s]) l = rangeL (i + r.length) s (chkR i r l)
  | [], i, l => rfl
  | t :: r, i, l => by
    rw [List.cons_append, chkR, chkR_snoc s r (i + 1) _, chkR, List.length_cons, show i + 1 + r.length = i + (r.length + 1) by omega]
theorem rangeL_len (i : Nat) (s : StepD) (l : List DiagD) : (rangeL i s l).length ≤ l.length + 4 := by
  unfold rangeL
  refine Nat.le_trans (noteL_len _ _ _) ?_
  refine Nat.succ_le_succ (Nat.le_trans (noteL_len _ _ _) ?_)
  refine Nat.succ_le_succ (Nat.le_trans (noteL_len _ _ _) ?_)
  exact Nat.succ_le_succ (noteL_len _ _ _)
theorem chkR_len : ∀ (r : List StepD) (i : Nat) (l : List DiagD), (chkR i r l).length ≤ l.length + 4 * r.length
  | [], i, l => by simp [chkR]
  | s :: r, i, l => by
    rw [chkR, List.length_cons]
    have := chkR_len r (i + 1) (rangeL i s l)
    have := rangeL_len i s l
    omega
def emp (s : StepD) : Bool := s.undo.toList.isEmpty
def undoL (all : List StepD) (l : List DiagD) (t : Int) : List DiagD := match all[t.toNat]? with
  | some s => noteL l (emp s) (t, 19, s.name)
  | none => l
theorem undoL_len (all : List StepD) (l : List DiagD) (t : Int) : (undoL all l t).length ≤ l.length + 1 := by
  unfold undoL; split
  · exact noteL_len _ _ _
  · exact Nat.le_succ _
def undoR (all : List StepD) (row : List Int) (l : List DiagD) : List DiagD := row.foldl (undoL all) l
theorem undoR_len (all : List StepD) : ∀ (row : List Int) (l : List DiagD), (undoR all row l).length ≤ l.length + row.length
  | [], l => Nat.le_refl _
  | t :: row, l => by
    unfold undoR
    rw [List.foldl_cons, List.length_cons]
    have := undoR_len all row (undoL all l t)
    have := undoL_len all l t
    unfold undoR at *
    omega
def chkU (all : List StepD) : Nat → List DiagD → List DiagD
  | 0, l => l
  | k + 1, l => match all[k]? with
    | some s => if emp s then chkU all k l else undoR all (depsD all k s) (chkU all k l)
    | none => chkU all k l
theorem chkU_succ (all : List StepD) {k : Nat} (hk : k < all.length) (l : List DiagD) : chkU all (k + 1) l = if emp all[k] then chkU all k l else undoR all (depsD all k all[k]) (chkU all k l) := by
  rw [chkU, List.getElem?_eq_getElem hk]
theorem depsD_in (all : List StepD) (k : Nat) (s : StepD) : ∀ x ∈ depsD all k s, ∃ n : Nat, x = (n : Int) ∧ n < all.length := by
  unfold depsD
  have key : ∀ (l : List ByteArray) (r : List Int), (∀ x ∈ r, ∃ n : Nat, x = (n : Int) ∧ n < all.length) → ∀ x ∈ (l.map fun a => idxStep all a 0).foldl (addRf k) r, ∃ n : Nat, x = (n : Int) ∧ n < all.length := by
    intro l
    induction l with
    | nil => intro r h; exact h
    | cons a l ih =>
      intro r h
      rw [List.map_cons, List.foldl_cons]
      refine ih _ fun x hx => ?_
      unfold addRf at hx
      split at hx
      · rename_i hc
        rcases List.mem_append.1 hx with hx | hx
        · exact h x hx
        · simp at hx
          subst hx
          have := idxStep_lt a all 0
          exact ⟨(idxStep all a 0).toNat, by omega, by omega⟩
      · exact h x hx
  exact key _ [] (by simp)
theorem depsD_len (all : List StepD) (k : Nat) (s : StepD) : (depsD all k s).length ≤ s.after.length := by
  rw [← rowJ_all]; exact rowJ_len _ _ _ _
theorem chkU_len (all : List StepD) {m : Nat} (hm : ∀ s ∈ all, s.after.length ≤ m) : ∀ (k : Nat) (l : List DiagD), (chkU all k l).length ≤ l.length + k * m
  | 0, l => by simp [chkU]
  | k + 1, l => by
    have ih := chkU_len all hm k l
    rw [Nat.add_mul, Nat.one_mul]
    unfold chkU
    split
    · rename_i s hs
      split
      · omega
      · have := undoR_len all (depsD all k s) (chkU all k l)
        have := depsD_len all k s
        have := hm s (List.mem_of_getElem? hs)
        omega
    · omega
theorem ownsRow_same {W W' : World} {base : Nat} {e : TypeId} {size n : Nat} {v : Value} {xs : List Value} (h : W.ownsRow base e size v n xs) (hs : ∀ q, base ≤ q → q < W.heap.size → W'.heap[q]? = W.heap[q]?) : W'.ownsRow base e size v n xs := by
  refine ⟨h.1, ?_⟩
  rcases h.2 with q2 | ⟨g, cap, cur, hv, hg, hh, rest⟩
  · exact .inl q2
  · exact .inr ⟨g, cap, cur, hv, hg, (hs g hg (Array.getElem?_eq_some_iff.1 hh).1).trans hh, rest⟩
theorem sets13 {W : World} {B : Nat} {t : TypeId} {c0 c1 c2 c3 c4 c5 c6 c7 c8 c9 c10 c11 c12 x0 x1 x2 x3 x4 x5 x6 x7 x8 x9 x10 x11 x12 : Value} (h : W.heap[B]? = some (.cells #[c0, c1, c2, c3, c4, c5, c6, c7, c8, c9, c10, c11, c12] t (0, 0))) : (((((((((((((W.setCell ⟨B, 0, none⟩ x0).setCell ⟨B, 1, none⟩ x1).setCell ⟨B, 2, none⟩ x2).setCell ⟨B, 3, none⟩ x3).setCell ⟨B, 4, none⟩ x4).setCell ⟨B, 5, none⟩ x5).setCell ⟨B, 6, none⟩ x6).setCell ⟨B, 7, none⟩ x7).setCell ⟨B, 8, none⟩ x8).setCell ⟨B, 9, none⟩ x9).setCell ⟨B, 10, none⟩ x10).setCell ⟨B, 11, none⟩ x11).setCell ⟨B, 12, none⟩ x12).heap[B]? = some (.cells #[x0, x1, x2, x3, x4, x5, x6, x7, x8, x9, x10, x11, x12] t (0, 0)) := by
  simp [World.setCell, h, Array.getElem?_modify]
theorem sets13_other {W : World} {B q : Nat} {x0 x1 x2 x3 x4 x5 x6 x7 x8 x9 x10 x11 x12 : Value} (h : q ≠ B) : (((((((((((((W.setCell ⟨B, 0, none⟩ x0).setCell ⟨B, 1, none⟩ x1).setCell ⟨B, 2, none⟩ x2).setCell ⟨B, 3, none⟩ x3).setCell ⟨B, 4, none⟩ x4).setCell ⟨B, 5, none⟩ x5).setCell ⟨B, 6, none⟩ x6).setCell ⟨B, 7, none⟩ x7).setCell ⟨B, 8, none⟩ x8).setCell ⟨B, 9, none⟩ x9).setCell ⟨B, 10, none⟩ x10).setCell ⟨B, 11, none⟩ x11).setCell ⟨B, 12, none⟩ x12).heap[q]? = W.heap[q]? := by
  simp only [Below.heap_setCell _ _ _ q (show q ≠ (⟨B, _, none⟩ : Addr).block from h)]
theorem sets13_below {W w : World} {B n : Nat} {x0 x1 x2 x3 x4 x5 x6 x7 x8 x9 x10 x11 x12 : Value} (hb : Below n w W) (h : n ≤ B) : Below n w (((((((((((((W.setCell ⟨B, 0, none⟩ x0).setCell ⟨B, 1, none⟩ x1).setCell ⟨B, 2, none⟩ x2).setCell ⟨B, 3, none⟩ x3).setCell ⟨B, 4, none⟩ x4).setCell ⟨B, 5, none⟩ x5).setCell ⟨B, 6, none⟩ x6).setCell ⟨B, 7, none⟩ x7).setCell ⟨B, 8, none⟩ x8).setCell ⟨B, 9, none⟩ x9).setCell ⟨B, 10, none⟩ x10).setCell ⟨B, 11, none⟩ x11).setCell ⟨B, 12, none⟩ x12) :=
  (((((((((((((hb.setCell (p := ⟨B, 0, none⟩) h _).setCell (p := ⟨B, 1, none⟩) h _).setCell (p := ⟨B, 2, none⟩) h _).setCell (p := ⟨B, 3, none⟩) h _).setCell (p := ⟨B, 4, none⟩) h _).setCell (p := ⟨B, 5, none⟩) h _).setCell (p := ⟨B, 6, none⟩) h _).setCell (p := ⟨B, 7, none⟩) h _).setCell (p := ⟨B, 8, none⟩) h _).setCell (p := ⟨B, 9, none⟩) h _).setCell (p := ⟨B, 10, none⟩) h _).setCell (p := ⟨B, 11, none⟩) h _).setCell (p := ⟨B, 12, none⟩) h _)

set_option maxRecDepth 100000 in
set_option maxHeartbeats 8000000 in
theorem bCheck_any (d : DefD) (cs : List Value) (sa : Option Addr) (sc : Nat) (w : World) (h : DefR w cs d sa sc) (hlen : d.steps.length ≤ 100) (hal : ∀ s ∈ d.steps, s.after.length ≤ 100) (hrl : (refsF d.steps 0 d.steps).length ≤ 1000000) (hok : ∀ x ∈ chkU d.steps d.steps.length (chkR 0 d.steps []), OkG x) :
    Calls Tryz.prog 70 #[.agg cs.toArray] w fun e w' => ∃ va vc, e = .returned (.slice va (sortD (chkU d.steps d.steps.length (chkR 0 d.steps []))).length vc) ∧ DgR w' (.slice va (sortD (chkU d.steps d.steps.length (chkR 0 d.steps []))).length vc) (sortD (chkU d.steps d.steps.length (chkR 0 d.steps []))) ∧ Below w.heap.size w w' := by
  obtain ⟨rfl, hna, hta, hva⟩ := h
  obtain ⟨_, _, he1, hl1, hl2⟩ := hva.form
  cases he1
  have e0 := World.alloc_heap_new w (.cells #[.string d.name, .string d.text, .slice sa d.steps.length sc] 24)
  have e1 := World.alloc_heap_new (w.alloc (.cells #[.string d.name, .string d.text, .slice sa d.steps.length sc] 24)) (.cells #[.slice none 0 0] 76)
  rw [World.size_alloc] at e1
  have e2 := (Below.heap_alloc (w.alloc (.cells #[.string d.name, .string d.text, .slice sa d.steps.length sc] 24)) (.cells #[.slice none 0 0] 76) w.heap.size (by simp)).trans e0
  have hb0 : Below w.heap.size w ((w.alloc (.cells #[.string d.name, .string d.text, .slice sa d.steps.length sc] 24)).alloc (.cells #[.slice none 0 0] 76)) := ((Below.refl _ _).alloc (Nat.le_refl _) _).alloc (by simp) _
  have hs0 : ((w.alloc (.cells #[.string d.name, .string d.text, .slice sa d.steps.length sc] 24)).alloc (.cells #[.slice none 0 0] 76)).heap.size = w.heap.size + 2 := by simp
  have HV0 := Lib.hid hva
  have HALL := Lib.hid hal
  have HOKK := Lib.hid hok
  have HRL := Lib.hid hrl
  obtain ⟨p0, p1, p2, -, -, -⟩ := cells3h e2
  clear hva hal hok hrl e0
  go_enter Tryz.func70, Tryz.ntmps70
  go_wp2_with fail
  generalize ((w.alloc (.cells #[.string d.name, .string d.text, .slice sa d.steps.length sc] 24)).alloc (.cells #[.slice none 0 0] 76)) = w2 at *
  have HB0 := Lib.hid hb0
  have G0 := Lib.hid e2
  have HO0 : Hid (OutG w2 (w.heap.size + 1) none 0 []) := Lib.hid ⟨e1, OwnG.nil _ _⟩
  clear hb0 e1 e2 p0 p1 p2
  go_loopg [16] (d.steps.length + 1) (fun gk i wr => ∃ (k : Nat) (va : Option Addr) (vc : Nat), k + gk = d.steps.length + 1 ∧ k ≤ d.steps.length ∧ i = .int .i64 k ∧ Hid (OutG wr (w.heap.size + 1) va vc (chkR 0 (d.steps.take k) [])) ∧ Hid (Below (w.heap.size + 1) w2 wr))
  case atStart => exact ⟨0, _, _, by omega, by omega, rfl, HO0, Lib.hid (Below.refl _ _)⟩
  case round =>
    obtain ⟨k, va0, vc0, hgk, hk, rfl, HOR, HBR⟩ := hrel
    have hg : gk = d.steps.length + 1 - k := by omega
    subst hg
    have hsr := HBR.out.size
    have HG := Lib.hid ((HBR.out.block w.heap.size (by omega)).trans G0.out)
    have HBW := Lib.hid (HB0.out.trans (HBR.out.mono (Nat.le_succ _)))
    have hcl0 := chkR_len (d.steps.take k) 0 []
    simp only [List.length_nil, List.length_take, Nat.zero_add] at hcl0
    by_cases hkl : k < d.steps.length
    · have d1 : decide ((k : Int) < (d.steps.length : Int)) = true := decide_eq_true (by omega)
      have hk1 : (k : Int) < (d.steps.length : Int) := by omega
      obtain ⟨g, off, cap, aa1, ac1, ka1, kc1, ba1, bc1, he, q1, q2, hns0, z0, z1, z2, z3, z4, z5, z6, z7, z8, z9, z10, z11, z12⟩ := (HV0.out.below HBW.out).at hkl
      cases he
      have HCS : Hid (chkR 0 (d.steps.take (k + 1)) [] = rangeL k d.steps[k] (chkR 0 (d.steps.take k) [])) := Lib.hid (by rw [take_succ_getS hkl, chkR_snoc, List.length_take, Nat.min_eq_left hk, Nat.zero_add])
      clear hns0
      generalize d.steps[k] = s at *
      have hl0 : (chkR 0 (d.steps.take k) []).length ≤ 1000 := by omega
      clear hcl0
      generalize hll0 : chkR 0 (d.steps.take k) [] = l0 at *
      go_upto_region 7 with fail
      have hx := World.alloc_heap_new wr (.cells #[.string s.name, .string s.action, .string s.undo, .slice aa1 s.after.length ac1, .int .i64 s.most, .int .i64 s.first, .int .i64 s.factor, .int .i64 s.limit, .int .u8 (s.note.kind : Int), .string s.note.text, .slice ka1 s.note.keys.length kc1, .slice ba1 s.note.kids.length bc1, .int .i64 s.note.line] 47)
      have hbx : Below wr.heap.size wr (wr.alloc (.cells #[.string s.name, .string s.action, .string s.undo, .slice aa1 s.after.length ac1, .int .i64 s.most, .int .i64 s.first, .int .i64 s.factor, .int .i64 s.limit, .int .u8 (s.note.kind : Int), .string s.note.text, .slice ka1 s.note.keys.length kc1, .slice ba1 s.note.kids.length bc1, .int .i64 s.note.line] 47)) := (Below.refl _ _).alloc (Nat.le_refl _) _
      have hox := HOR.out.below hbx
      have hTl : wr.heap.size < (wr.alloc (.cells #[.string s.name, .string s.action, .string s.undo, .slice aa1 s.after.length ac1, .int .i64 s.most, .int .i64 s.first, .int .i64 s.factor, .int .i64 s.limit, .int .u8 (s.note.kind : Int), .string s.note.text, .slice ka1 s.note.keys.length kc1, .slice ba1 s.note.kids.length bc1, .int .i64 s.note.line] 47)).heap.size := by simp
      have hTg : w.heap.size + 1 < wr.heap.size := HOR.out.box.lt
      have hne : (Value.slice va0 l0.length vc0).ownBlock ≠ some wr.heap.size := fun e => by have := (HOR.out.own.heap _ e).2; omega
      have hbx2 : Below (w.heap.size + 1) w2 (wr.alloc (.cells #[.string s.name, .string s.action, .string s.undo, .slice aa1 s.after.length ac1, .int .i64 s.most, .int .i64 s.first, .int .i64 s.factor, .int .i64 s.limit, .int .u8 (s.note.kind : Int), .string s.note.text, .slice ka1 s.note.keys.length kc1, .slice ba1 s.note.kids.length bc1, .int .i64 s.note.line] 47)) := HBR.out.alloc (by omega) _
      generalize (wr.alloc (.cells #[.string s.name, .string s.action, .string s.undo, .slice aa1 s.after.length ac1, .int .i64 s.most, .int .i64 s.first, .int .i64 s.factor, .int .i64 s.limit, .int .u8 (s.note.kind : Int), .string s.note.text, .slice ka1 s.note.keys.length kc1, .slice ba1 s.note.kids.length bc1, .int .i64 s.note.line] 47)) = wx at *
      generalize wr.heap.size = T at *
      clear z0 z1 z2 z3 z4 z5 z6 z7 z8 z9 z10 z11 z12
      obtain ⟨z0, z1, z2, z3, z4, z5, z6, z7, z8, z9, z10, z11, z12⟩ := cells13q hx
      obtain ⟨f0, f1, f2, f3, f4, f5, f6, f7, f8, f9, f10, f11, f12⟩ := cells13w hx
      have hR := Real_any s.name s.action s.undo aa1 s.after.length ac1 s.most s.first s.factor s.limit (s.note.kind : Int) s.note.text ka1 s.note.keys.length kc1 ba1 s.note.kids.length bc1 s.note.line wx
      unfold stepV at hR
      have HR := Lib.hid hR
      clear hR
      go_wp2_with fail
      refine HR.out.mono ?_
      rintro e w3 ⟨rfl, hb3⟩
      have hx3 := (hb3.block T hTl).trans hx
      have hox3 := hox.below hb3
      have hbx3 := bthen hbx2 (by omega) hb3
      clear z0 z1 z2 z3 z4 z5 z6 z7 z8 z9 z10 z11 z12 f0 f1 f2 f3 f4 f5 f6 f7 f8 f9 f10 f11 f12
      obtain ⟨z0, z1, z2, z3, z4, z5, z6, z7, z8, z9, z10, z11, z12⟩ := cells13q hx3
      obtain ⟨f0, f1, f2, f3, f4, f5, f6, f7, f8, f9, f10, f11, f12⟩ := cells13w hx3
      go_upto_region 8 with fail
      have hT0 := sets13 (x0 := .string s.name) (x1 := .string s.action) (x2 := .string s.undo) (x3 := .slice aa1 s.after.length ac1) (x4 := .int .i64 (or0 s.most 1)) (x5 := .int .i64 s.first) (x6 := .int .i64 (or0 s.factor 1)) (x7 := .int .i64 (or0 s.limit 100)) (x8 := .int .u8 (s.note.kind : Int)) (x9 := .string s.note.text) (x10 := .slice ka1 s.note.keys.length kc1) (x11 := .slice ba1 s.note.kids.length bc1) (x12 := .int .i64 s.note.line) hx3
      have hbx0 := sets13_below (x0 := .string s.name) (x1 := .string s.action) (x2 := .string s.undo) (x3 := .slice aa1 s.after.length ac1) (x4 := .int .i64 (or0 s.most 1)) (x5 := .int .i64 s.first) (x6 := .int .i64 (or0 s.factor 1)) (x7 := .int .i64 (or0 s.limit 100)) (x8 := .int .u8 (s.note.kind : Int)) (x9 := .string s.note.text) (x10 := .slice ka1 s.note.keys.length kc1) (x11 := .slice ba1 s.note.kids.length bc1) (x12 := .int .i64 s.note.line) hbx3 (B := T) (by omega)
      have hoth : ∀ q, q ≠ T → (((((((((((((w3.setCell ⟨T, 0, none⟩ (.string s.name)).setCell ⟨T, 1, none⟩ (.string s.action)).setCell ⟨T, 2, none⟩ (.string s.undo)).setCell ⟨T, 3, none⟩ (.slice aa1 s.after.length ac1)).setCell ⟨T, 4, none⟩ (.int .i64 (or0 s.most 1))).setCell ⟨T, 5, none⟩ (.int .i64 s.first)).setCell ⟨T, 6, none⟩ (.int .i64 (or0 s.factor 1))).setCell ⟨T, 7, none⟩ (.int .i64 (or0 s.limit 100))).setCell ⟨T, 8, none⟩ (.int .u8 (s.note.kind : Int))).setCell ⟨T, 9, none⟩ (.string s.note.text)).setCell ⟨T, 10, none⟩ (.slice ka1 s.note.keys.length kc1)).setCell ⟨T, 11, none⟩ (.slice ba1 s.note.kids.length bc1)).setCell ⟨T, 12, none⟩ (.int .i64 s.note.line)).heap[q]? = w3.heap[q]? := fun q hq => sets13_other hq
      have hox0 : OutG (((((((((((((w3.setCell ⟨T, 0, none⟩ (.string s.name)).setCell ⟨T, 1, none⟩ (.string s.action)).setCell ⟨T, 2, none⟩ (.string s.undo)).setCell ⟨T, 3, none⟩ (.slice aa1 s.after.length ac1)).setCell ⟨T, 4, none⟩ (.int .i64 (or0 s.most 1))).setCell ⟨T, 5, none⟩ (.int .i64 s.first)).setCell ⟨T, 6, none⟩ (.int .i64 (or0 s.factor 1))).setCell ⟨T, 7, none⟩ (.int .i64 (or0 s.limit 100))).setCell ⟨T, 8, none⟩ (.int .u8 (s.note.kind : Int))).setCell ⟨T, 9, none⟩ (.string s.note.text)).setCell ⟨T, 10, none⟩ (.slice ka1 s.note.keys.length kc1)).setCell ⟨T, 11, none⟩ (.slice ba1 s.note.kids.length bc1)).setCell ⟨T, 12, none⟩ (.int .i64 s.note.line)) (w.heap.size + 1) va0 vc0 l0 := ⟨(hoth _ (by omega)).trans hox3.box, hox3.own.block fun q e => hoth q (fun h => hne (h ▸ e))⟩
      generalize (((((((((((((w3.setCell ⟨T, 0, none⟩ (.string s.name)).setCell ⟨T, 1, none⟩ (.string s.action)).setCell ⟨T, 2, none⟩ (.string s.undo)).setCell ⟨T, 3, none⟩ (.slice aa1 s.after.length ac1)).setCell ⟨T, 4, none⟩ (.int .i64 (or0 s.most 1))).setCell ⟨T, 5, none⟩ (.int .i64 s.first)).setCell ⟨T, 6, none⟩ (.int .i64 (or0 s.factor 1))).setCell ⟨T, 7, none⟩ (.int .i64 (or0 s.limit 100))).setCell ⟨T, 8, none⟩ (.int .u8 (s.note.kind : Int))).setCell ⟨T, 9, none⟩ (.string s.note.text)).setCell ⟨T, 10, none⟩ (.slice ka1 s.note.keys.length kc1)).setCell ⟨T, 11, none⟩ (.slice ba1 s.note.kids.length bc1)).setCell ⟨T, 12, none⟩ (.int .i64 s.note.line)) = V0 at *
      clear z0 z1 z2 z3 z4 z5 z6 z7 z8 z9 z10 z11 z12 f0 f1 f2 f3 f4 f5 f6 f7 f8 f9 f10 f11 f12
      obtain ⟨-, -, -, -, z4, z5, z6, z7, -⟩ := cells13q hT0
      have HT0 := Lib.hid hT0
      have HO0' := Lib.hid hox0
      have HB0' := Lib.hid hbx0
      have HN0 := Lib.hid hne
      have HL0 : Hid (l0.length ≤ l0.length + 0) := Lib.hid (Nat.le_refl _)
      have HCS2 : Hid (chkR 0 (d.steps.take (k + 1)) [] = noteL (noteL (noteL (noteL l0 (!(decide (1 ≤ or0 s.most 1) && decide (or0 s.most 1 ≤ 10))) ((k : Int), 1, { data := #[109, 111, 115, 116] })) (!(decide (0 ≤ s.first) && decide (s.first ≤ 1000))) ((k : Int), 1, { data := #[102, 105, 114, 115, 116] })) (!(decide (1 ≤ or0 s.factor 1) && decide (or0 s.factor 1 ≤ 10))) ((k : Int), 1, { data := #[102, 97, 99, 116, 111, 114] })) (!(decide (1 ≤ or0 s.limit 100) && decide (or0 s.limit 100 ≤ 10000))) ((k : Int), 1, { data := #[108, 105, 109, 105, 116] })) := HCS
      have HRW0 : Hid (l0.length ≤ 1000) := Lib.hid hl0
      clear hT0 hox0 hbx0 hoth hne hox3 hbx3 hb3 hx3 hx hbx hox hbx2 HCS HR HOR
      generalize or0 s.most 1 = m at *
      generalize or0 s.factor 1 = fa at *
      generalize or0 s.limit 100 = lm at *
      generalize s.first = fi at *
      have HW1 := Lib.hid (fun W => within_any (m) 1 10 W)
      generalize hb1 : (decide (1 ≤ m) && decide (m ≤ 10)) = b1 at *
      have HW2 := Lib.hid (fun W => within_any (fi) 0 1000 W)
      generalize hb2 : (decide (0 ≤ fi) && decide (fi ≤ 1000)) = b2 at *
      have HW3 := Lib.hid (fun W => within_any (fa) 1 10 W)
      generalize hb3 : (decide (1 ≤ fa) && decide (fa ≤ 10)) = b3 at *
      have HW4 := Lib.hid (fun W => within_any (lm) 1 10000 W)
      generalize hb4 : (decide (1 ≤ lm) && decide (lm ≤ 10000)) = b4 at *
      go_wp2_with fail
      refine (HW1.out _).mono ?_
      rintro e w' ⟨rfl, rfl⟩
      go_wp2_with fail
      refine (bnote_any (!b1) (k : Int) 1 { data := #[109, 111, 115, 116] } l0 (w.heap.size + 1) vc0 va0 _ HO0'.out (by have := HL0.out; omega)).mono ?_
      rintro e V1 ⟨rfl, va1, vc1, ho1, hbl1, hkp1, hnb1⟩
      have hT1 := hkp1 _ _ HT0.out (by omega) HN0.out
      have HN1 := Lib.hid (hnb1 T (Array.getElem?_eq_some_iff.1 HT0.out).1 HN0.out)
      have HT1 := Lib.hid hT1
      have HO1 := Lib.hid ho1
      have HB1 := Lib.hid (HB0'.out.trans hbl1)
      have HL1 : Hid ((noteL l0 (!b1) ((k : Int), 1, { data := #[109, 111, 115, 116] })).length ≤ l0.length + 1) := Lib.hid (Nat.le_trans (noteL_len _ _ _) (by have := HL0.out; omega))
      have HE1 : Hid (noteL l0 (!b1) ((k : Int), 1, { data := #[109, 111, 115, 116] }) = noteL l0 (!b1) ((k : Int), 1, { data := #[109, 111, 115, 116] })) := Lib.hid rfl
      clear z4 z5 z6 z7 ho1 hbl1 hkp1 hnb1
      obtain ⟨-, -, -, -, z4, z5, z6, z7, -⟩ := cells13q hT1
      clear hT1
      generalize hl1 : noteL l0 (!b1) ((k : Int), 1, { data := #[109, 111, 115, 116] }) = l1 at *
      go_wp2_with fail
      refine (HW2.out _).mono ?_
      rintro e w' ⟨rfl, rfl⟩
      go_wp2_with fail
      refine (bnote_any (!b2) (k : Int) 1 { data := #[102, 105, 114, 115, 116] } l1 (w.heap.size + 1) vc1 va1 _ HO1.out (by have := HL1.out; omega)).mono ?_
      rintro e V2 ⟨rfl, va2, vc2, ho2, hbl2, hkp2, hnb2⟩
      have hT2 := hkp2 _ _ HT1.out (by omega) HN1.out
      have HN2 := Lib.hid (hnb2 T (Array.getElem?_eq_some_iff.1 HT1.out).1 HN1.out)
      have HT2 := Lib.hid hT2
      have HO2 := Lib.hid ho2
      have HB2 := Lib.hid (HB1.out.trans hbl2)
      have HL2 : Hid ((noteL l1 (!b2) ((k : Int), 1, { data := #[102, 105, 114, 115, 116] })).length ≤ l0.length + 2) := Lib.hid (Nat.le_trans (noteL_len _ _ _) (by have := HL1.out; omega))
      have HE2 : Hid (noteL l1 (!b2) ((k : Int), 1, { data := #[102, 105, 114, 115, 116] }) = noteL l1 (!b2) ((k : Int), 1, { data := #[102, 105, 114, 115, 116] })) := Lib.hid rfl
      clear z4 z5 z6 z7 ho2 hbl2 hkp2 hnb2
      obtain ⟨-, -, -, -, z4, z5, z6, z7, -⟩ := cells13q hT2
      clear hT2
      generalize hl2 : noteL l1 (!b2) ((k : Int), 1, { data := #[102, 105, 114, 115, 116] }) = l2 at *
      go_wp2_with fail
      refine (HW3.out _).mono ?_
      rintro e w' ⟨rfl, rfl⟩
      go_wp2_with fail
      refine (bnote_any (!b3) (k : Int) 1 { data := #[102, 97, 99, 116, 111, 114] } l2 (w.heap.size + 1) vc2 va2 _ HO2.out (by have := HL2.out; omega)).mono ?_
      rintro e V3 ⟨rfl, va3, vc3, ho3, hbl3, hkp3, hnb3⟩
      have hT3 := hkp3 _ _ HT2.out (by omega) HN2.out
      have HN3 := Lib.hid (hnb3 T (Array.getElem?_eq_some_iff.1 HT2.out).1 HN2.out)
      have HT3 := Lib.hid hT3
      have HO3 := Lib.hid ho3
      have HB3 := Lib.hid (HB2.out.trans hbl3)
      have HL3 : Hid ((noteL l2 (!b3) ((k : Int), 1, { data := #[102, 97, 99, 116, 111, 114] })).length ≤ l0.length + 3) := Lib.hid (Nat.le_trans (noteL_len _ _ _) (by have := HL2.out; omega))
      have HE3 : Hid (noteL l2 (!b3) ((k : Int), 1, { data := #[102, 97, 99, 116, 111, 114] }) = noteL l2 (!b3) ((k : Int), 1, { data := #[102, 97, 99, 116, 111, 114] })) := Lib.hid rfl
      clear z4 z5 z6 z7 ho3 hbl3 hkp3 hnb3
      obtain ⟨-, -, -, -, z4, z5, z6, z7, -⟩ := cells13q hT3
      clear hT3
      generalize hl3 : noteL l2 (!b3) ((k : Int), 1, { data := #[102, 97, 99, 116, 111, 114] }) = l3 at *
      go_wp2_with fail
      refine (HW4.out _).mono ?_
      rintro e w' ⟨rfl, rfl⟩
      go_wp2_with fail
      refine (bnote_any (!b4) (k : Int) 1 { data := #[108, 105, 109, 105, 116] } l3 (w.heap.size + 1) vc3 va3 _ HO3.out (by have := HL3.out; omega)).mono ?_
      rintro e V4 ⟨rfl, va4, vc4, ho4, hbl4, hkp4, hnb4⟩
      have hT4 := hkp4 _ _ HT3.out (by omega) HN3.out
      have HN4 := Lib.hid (hnb4 T (Array.getElem?_eq_some_iff.1 HT3.out).1 HN3.out)
      have HT4 := Lib.hid hT4
      have HO4 := Lib.hid ho4
      have HB4 := Lib.hid (HB3.out.trans hbl4)
      have HL4 : Hid ((noteL l3 (!b4) ((k : Int), 1, { data := #[108, 105, 109, 105, 116] })).length ≤ l0.length + 4) := Lib.hid (Nat.le_trans (noteL_len _ _ _) (by have := HL3.out; omega))
      have HE4 : Hid (noteL l3 (!b4) ((k : Int), 1, { data := #[108, 105, 109, 105, 116] }) = noteL l3 (!b4) ((k : Int), 1, { data := #[108, 105, 109, 105, 116] })) := Lib.hid rfl
      clear z4 z5 z6 z7 ho4 hbl4 hkp4 hnb4
      obtain ⟨-, -, -, -, z4, z5, z6, z7, -⟩ := cells13q hT4
      clear hT4
      generalize hl4 : noteL l3 (!b4) ((k : Int), 1, { data := #[108, 105, 109, 105, 116] }) = l4 at *
      go_wp2_with fail
      go_roundg (d.steps.length + 1 - (k + 1))
      case measure => omega
      case rel => exact ⟨k + 1, va4, vc4, by omega, by omega, by go_num, Lib.hid (by rw [HCS2.out]; exact HO4.out), HB4⟩
    · have d1 : decide ((k : Int) < (d.steps.length : Int)) = false := decide_eq_false (by omega)
      have hk1 : ¬ (k : Int) < (d.steps.length : Int) := by omega
      have hc1l : (chkR 0 d.steps []).length ≤ 400 := by have := chkR_len d.steps 0 []; simp only [List.length_nil, Nat.zero_add] at this; omega
      have HO1 : Hid (OutG wr (w.heap.size + 1) va0 vc0 (chkR 0 d.steps [])) := Lib.hid (by have := HOR.out; rwa [List.take_of_length_le (by omega)] at this)
      have HCU := Lib.hid (fun k => chkU_len d.steps HALL.out k (chkR 0 d.steps []))
      obtain ⟨p0, p1, p2, -, -, -⟩ := cells3h HG.out
      have hTg : w.heap.size + 1 < wr.heap.size := HOR.out.box.lt
      rename_i hkn
      have hke : k = d.steps.length := by omega
      subst hke
      clear HOR hcl0 hkn hk
      generalize hc1 : chkR 0 d.steps [] = c1 at *
      go_wp2_with fail
      refine (nRefsA_any d _ sa sc _ ⟨rfl, hna, hta, HV0.out.below HBW.out⟩ (by omega) HRL.out).mono ?_
      rintro e w5 ⟨rfl, hr5, hb5⟩
      have hdl := depsA_len d.steps d.steps 0
      have HR5 := Lib.hid hr5
      have HO5 := Lib.hid (HO1.out.below hb5)
      have HN5 : Hid (∀ q, wr.heap.size < q → q < w5.heap.size → (Value.slice va0 c1.length vc0).ownBlock ≠ some q) := Lib.hid (fun q h1 _ e => by have := (HO1.out.own.heap _ e).2; omega)
      have HB5 := Lib.hid (bthen HBR.out (by omega) hb5)
      have HBW5 := Lib.hid (HBW.out.trans (hb5.mono HBW.out.size))
      have hR : wr.heap.size < w5.heap.size := by
        obtain ⟨cs, -, h2, -⟩ := hr5
        have := (Array.getElem?_eq_some_iff.1 h2).1
        omega
      generalize wr.heap.size = R at *
      clear hb5 hr5 HO1 p0 p1 p2 HBR HBW hsr
      go_wp2_with fail
      go_loopg [62] (d.steps.length + 1) (fun gk i wi => ∃ (k : Nat) (va : Option Addr) (vc : Nat), k + gk = d.steps.length + 1 ∧ k ≤ d.steps.length ∧ i = .int .i64 k ∧ Hid (OutG wi (w.heap.size + 1) va vc (chkU d.steps k c1)) ∧ Hid (Below (w.heap.size + 1) w5 wi) ∧ Hid (∀ q, R < q → q < w5.heap.size → wi.heap[q]? = w5.heap[q]?) ∧ Hid (∀ q, R < q → q < w5.heap.size → (Value.slice va (chkU d.steps k c1).length vc).ownBlock ≠ some q))
      case atStart => exact ⟨0, _, _, by omega, by omega, rfl, HO5, Lib.hid (Below.refl _ _), Lib.hid (fun _ _ _ => rfl), HN5⟩
      case round =>
        obtain ⟨k, va, vc, hgk, hk, rfl, HO, HBI, HSI, HNI⟩ := hrel
        rename World => wi
        have hg : gk = d.steps.length + 1 - k := by omega
        subst hg
        have hsi := HBI.out.size
        have hGi : wi.heap[w.heap.size]? = some (.cells #[.string d.name, .string d.text, .slice sa d.steps.length sc] 24 (0, 0)) := (HBI.out.block _ (by omega)).trans ((HB5.out.block _ (by omega)).trans G0.out)
        obtain ⟨p0, p1, p2, -, -, -⟩ := cells3h hGi
        have HGi := Lib.hid hGi
        clear hGi
        have HVI := Lib.hid (HV0.out.below (HBW5.out.trans (HBI.out.mono (Nat.le_succ _))))
        by_cases hkl : k < d.steps.length
        · have d1 : decide ((k : Int) < (d.steps.length : Int)) = true := decide_eq_true (by omega)
          have hk1 : (k : Int) < (d.steps.length : Int) := by omega
          obtain ⟨g, off, cap, aa1, ac1, ka1, kc1, ba1, bc1, he, q1, q2, hns0, -, -, z2, -⟩ := HVI.out.at hkl
          cases he
          have hcs := chkU_succ d.steps hkl c1
          have hri : k < (depsA d.steps 0 d.steps).length := by rw [hdl]; exact hkl
          have hrk : (depsA d.steps 0 d.steps)[k] = depsD d.steps k d.steps[k] := by have := depsA_get d.steps d.steps 0 k hkl; rw [List.getElem?_eq_getElem hri] at this; simpa using this
          obtain ⟨ra, rc, y05, -, hrow, -⟩ := HR5.out.cell hri
          rw [hrk] at y05 hrow
          have y0 : wi.cell? ⟨R + 1, k, none⟩ = some (.slice ra (depsD d.steps k d.steps[k]).length rc) := by
            rw [World.cell?_of_block (w := w5) (HSI.out (R + 1) (by omega) (World.block_lt_of_cell? w5 _ y05))]
            exact y05
          have HROW := Lib.hid hrow
          have hrl := depsD_len d.steps k d.steps[k]
          have hal := HALL.out _ (List.getElem_mem hkl)
          have HIN := Lib.hid (depsD_in d.steps k d.steps[k])
          have hcu := HCU.out k
          have hcub : (chkU d.steps k c1).length ≤ 10400 := by
            have : k * 100 ≤ 100 * 100 := Nat.mul_le_mul_right _ (by omega)
            omega
          have hem : emp d.steps[k] = d.steps[k].undo.toList.isEmpty := rfl
          rw [hem] at hcs
          have HCS := Lib.hid hcs
          clear hcs hrow hns0 hcu hrk y05 hem
          generalize depsD d.steps k d.steps[k] = row at *
          generalize d.steps[k] = s0 at *
          generalize he0 : s0.undo.toList.isEmpty = e0 at *
          cases e0 with
          | true =>
            have HE : Hid (chkU d.steps (k + 1) c1 = chkU d.steps k c1) := Lib.hid (by rw [HCS.out]; rfl)
            go_wp2_with fail
            go_roundg (d.steps.length + 1 - (k + 1))
            case measure => omega
            case rel => exact ⟨k + 1, va, vc, by omega, by omega, by go_num, Lib.hid (by rw [HE.out]; exact HO.out), HBI, HSI, Lib.hid (by rw [HE.out]; exact HNI.out)⟩
          | false =>
            have HE : Hid (chkU d.steps (k + 1) c1 = undoR d.steps row (chkU d.steps k c1)) := Lib.hid (by rw [HCS.out]; rfl)
            clear HCS
            generalize chkU d.steps k c1 = c2 at *
            go_wp2_with fail
            clear p0 p1 p2 z2 y0
            go_loopg [76] (row.length + 1) (fun gk i wj => ∃ (j : Nat) (va : Option Addr) (vc : Nat), j + gk = row.length + 1 ∧ j ≤ row.length ∧ i = .int .i64 j ∧ Hid (OutG wj (w.heap.size + 1) va vc (undoR d.steps (row.take j) c2)) ∧ Hid (Below (w.heap.size + 1) w5 wj) ∧ Hid (∀ q, R < q → q < w5.heap.size → wj.heap[q]? = w5.heap[q]?) ∧ Hid (∀ q, R < q → q < w5.heap.size → (Value.slice va (undoR d.steps (row.take j) c2).length vc).ownBlock ≠ some q))
            case atStart => exact ⟨0, va, vc, by omega, by omega, rfl, HO, HBI, HSI, HNI⟩
            case round =>
              obtain ⟨j, va, vc, hgj, hjr, rfl, HOJ, HBJ, HSJ, HNJ⟩ := hrel
              rename World => wj
              have hg : gk = row.length + 1 - j := by omega
              subst hg
              have hsj := HBJ.out.size
              have HVJ := Lib.hid (HV0.out.below (HBW5.out.trans (HBJ.out.mono (Nat.le_succ _))))
              obtain ⟨p0, p1, p2, -, -, -⟩ := cells3h ((HBJ.out.block w.heap.size (by omega)).trans ((HB5.out.block w.heap.size (by omega)).trans G0.out))
              by_cases hjl : j < row.length
              · have d2 : decide ((j : Int) < (row.length : Int)) = true := decide_eq_true (by omega)
                have hj1 : (j : Int) < (row.length : Int) := by omega
                have hrj := ownsRow_same HROW.out (fun q h1 h2 => HSJ.out q (by omega) h2)
                obtain ⟨rg, ro, rfl, -, -, y0⟩ := ints_at (RdS.of_owns hrj) hjl
                obtain ⟨iN, hiN, hil⟩ := HIN.out _ (List.getElem_mem hjl)
                have HTK : Hid (row.take (j + 1) = row.take j ++ [row[j]]) := Lib.hid (by rw [List.take_add_one, List.getElem?_eq_getElem hjl]; rfl)
                rw [hiN] at y0
                have HTK2 : Hid (row.take (j + 1) = row.take j ++ [(iN : Int)]) := Lib.hid (by rw [HTK.out, hiN])
                obtain ⟨g2, off2, cap2, aa2, ac2, ka2, kc2, ba2, bc2, he, -, -, hns0, z0, z1, z2, -⟩ := HVJ.out.at hil
                cases he
                have hu1 := undoR_len d.steps (row.take j) c2
                rw [List.length_take] at hu1
                have HUS : Hid (undoR d.steps (row.take (j + 1)) c2 = noteL (undoR d.steps (row.take j) c2) (emp d.steps[iN]) ((iN : Int), 19, d.steps[iN].name)) := Lib.hid (by
                  rw [HTK2.out]
                  unfold undoR
                  rw [List.foldl_append, List.foldl_cons, List.foldl_nil]
                  unfold undoL
                  rw [Int.toNat_natCast, List.getElem?_eq_getElem hil])
                have hem : emp d.steps[iN] = d.steps[iN].undo.toList.isEmpty := rfl
                rw [hem] at HUS
                have hi1 : (iN : Int) < (d.steps.length : Int) := by omega
                clear hns0 hem HTK hiN hrj
                generalize undoR d.steps (row.take j) c2 = ol at *
                generalize d.steps[iN] = s at *
                generalize heb : s.undo.toList.isEmpty = eb at *
                have HOI := HOJ
                go_upto_region 20 with fail
                refine E_region (S := (fun W => W.cell? ⟨w.heap.size, 2, none⟩ = some (.slice (some ⟨g, off, none⟩) d.steps.length sc) ∧ W.cell? ⟨g, off + iN * 13 + 2, none⟩ = some (.string s.undo) ∧ W.cell? ⟨g, off + iN * 13, none⟩ = some (.string s.name))) 15 (by kernel_rfl) ⟨p2, z2, z0⟩ (fun _ _ _ _ _ h => h) (fun Q' hQ hK' hHeld => ?_)
                refine E_take0 hQ (fun _ => hHeld) 0 (v := ?ev1) rfl rfl (by kernel_rfl) (by kernel_rfl) (by kernel_rfl) (by decide) (by rfl) ?ey1 ?er1
                case ey1 => (intro w; go_simp; (try with_reducible rfl))
                (try simp only [layE])
                refine E_take0 hQ (fun _ => hHeld) 1 (v := ?ev2) rfl rfl (by kernel_rfl) (by kernel_rfl) (by kernel_rfl) (by decide) (by rfl) ?ey2 ?er2
                case ey2 => (intro w; go_simp; (try with_reducible rfl))
                (try simp only [layE])
                refine E_take hQ hHeld 2 (v := ?ev3) rfl rfl (by kernel_rfl) (by kernel_rfl) (by kernel_rfl) (by kernel_rfl) (by kernel_rfl) (by rfl) ?ey3 ?er3
                case ey3 => (intro w hSw; (try dsimp only at hSw); go_simp; (try with_reducible rfl))
                (try simp only [layE])
                refine E_take0 hQ (fun _ => hHeld) 3 (v := ?ev4) rfl rfl (by kernel_rfl) (by kernel_rfl) (by kernel_rfl) (by decide) (by rfl) ?ey4 ?er4
                case ey4 => (intro w; go_simp; (try with_reducible rfl))
                (try simp only [layE])
                refine E_take0 hQ (fun _ => hHeld) 4 (v := ?ev5) rfl rfl (by kernel_rfl) (by kernel_rfl) (by kernel_rfl) (by decide) (by rfl) ?ey5 ?er5
                case ey5 => (intro w; go_simp; (try with_reducible rfl))
                (try simp only [layE])
                refine E_take0 hQ (fun _ => hHeld) 5 (v := ?ev6) rfl rfl (by kernel_rfl) (by kernel_rfl) (by kernel_rfl) (by decide) (by rfl) ?ey6 ?er6
                case ey6 => (intro w; go_simp; (try with_reducible rfl))
                (try simp only [layE])
                refine E_take hQ hHeld 6 (v := ?ev7) rfl rfl (by kernel_rfl) (by kernel_rfl) (by kernel_rfl) (by kernel_rfl) (by kernel_rfl) (by rfl) ?ey7 ?er7
                case ey7 => (intro w hSw; (try dsimp only at hSw); go_simp; (try with_reducible rfl))
                (try simp only [layE])
                refine E_take0 hQ (fun _ => hHeld) 7 (v := ?ev8) rfl rfl (by kernel_rfl) (by kernel_rfl) (by kernel_rfl) (by decide) (by rfl) ?ey8 ?er8
                case ey8 => (intro w; go_simp; (try with_reducible rfl))
                (try simp only [layE])
                refine E_take0 hQ (fun _ => hHeld) 8 (v := ?ev9) rfl rfl (by kernel_rfl) (by kernel_rfl) (by kernel_rfl) (by decide) (by rfl) ?ey9 ?er9
                case ey9 => (intro w; go_simp; (try with_reducible rfl))
                (try simp only [layE])
                refine E_take0 hQ (fun _ => hHeld) 9 (v := ?ev10) rfl rfl (by kernel_rfl) (by kernel_rfl) (by kernel_rfl) (by decide) (by rfl) ?ey10 ?er10
                case ey10 => (intro w; go_simp; (try with_reducible rfl))
                (try simp only [layE])
                refine E_take hQ hHeld 10 (v := ?ev11) rfl rfl (by kernel_rfl) (by kernel_rfl) (by kernel_rfl) (by kernel_rfl) (by kernel_rfl) (by rfl) ?ey11 ?er11
                case ey11 => (intro w hSw; (try dsimp only at hSw); go_simp; (try with_reducible rfl))
                (try simp only [layE])
                refine E_take0 hQ (fun _ => hHeld) 11 (v := ?ev12) rfl rfl (by kernel_rfl) (by kernel_rfl) (by kernel_rfl) (by decide) (by rfl) ?ey12 ?er12
                case ey12 => (intro w; go_simp; (try with_reducible rfl))
                (try simp only [layE])
                refine E_take0 hQ (fun _ => hHeld) 12 (v := ?ev13) rfl rfl (by kernel_rfl) (by kernel_rfl) (by kernel_rfl) (by decide) (by rfl) ?ey13 ?er13
                case ey13 => (intro w; go_simp; (try with_reducible rfl))
                (try simp only [layE])
                refine E_take0 hQ (fun _ => hHeld) 13 (v := ?ev14) rfl rfl (by kernel_rfl) (by kernel_rfl) (by kernel_rfl) (by decide) (by rfl) ?ey14 ?er14
                case ey14 => (intro w; go_simp; (try with_reducible rfl))
                (try simp only [layE])
                refine E_take hQ hHeld 14 (v := ?ev15) rfl rfl (by kernel_rfl) (by kernel_rfl) (by kernel_rfl) (by kernel_rfl) (by kernel_rfl) (by rfl) ?ey15 ?er15
                case ey15 => (intro w hSw; (try dsimp only at hSw); go_simp; (try with_reducible rfl))
                (try simp only [layE])
                refine E_one 15 (by kernel_rfl) rfl (by rfl) (fun K hK => ?_)
                go_simp
                refine (bnote_any eb (iN : Int) 19 s.name ol (w.heap.size + 1) vc va _ (HOI.out.below ((Below.refl _ _).drew)) (by omega)).mono ?_
                rintro e W15 ⟨rfl, hnt⟩
                have HNT := Lib.hid hnt
                clear hnt
                refine hK.out _ _ (fun _ h => absurd rfl h) (fun _ => ?_)
                clear hK hHeld
                (try simp only [layE])
                refine E_done (by kernel_rfl) ?_ _
                refine hK'.out _ _ ?_
                obtain ⟨va', vc', ho', hbb, hkp, hnb⟩ := HNT.out
                have HOF := Lib.hid ho'
                have HBF := Lib.hid (HBJ.out.drew.trans hbb)
                have HSF : Hid (∀ q, R < q → q < w5.heap.size → W15.heap[q]? = w5.heap[q]?) := Lib.hid (fun q h1 h2 => by
                  have h3 := HSJ.out q h1 h2
                  obtain ⟨ob, hob⟩ : ∃ ob, w5.heap[q]? = some ob := ⟨_, Array.getElem?_eq_getElem h2⟩
                  rw [hob] at h3 ⊢
                  exact hkp q ob h3 (by omega) (HNJ.out q h1 h2))
                have HNF := Lib.hid (fun q h1 h2 => hnb q (Nat.lt_of_lt_of_le h2 hsj) (HNJ.out q h1 h2))
                clear ho' hbb hkp hnb
                go_wp2_with fail
                go_roundg (row.length + 1 - (j + 1))
                case measure => omega
                case rel => exact ⟨j + 1, va', vc', by omega, by omega, by go_num, Lib.hid (by rw [HUS.out]; exact HOF.out), HBF, HSF, Lib.hid (by rw [HUS.out]; exact HNF.out)⟩
              · have d2 : decide ((j : Int) < (row.length : Int)) = false := decide_eq_false (by omega)
                have hj1 : ¬ (j : Int) < (row.length : Int) := by omega
                have HF : Hid (undoR d.steps (row.take j) c2 = chkU d.steps (k + 1) c1) := Lib.hid (by rw [HE.out, List.take_of_length_le (by omega)])
                go_wp2_with fail
                go_roundg (d.steps.length + 1 - (k + 1))
                case measure => omega
                case rel => exact ⟨k + 1, va, vc, by omega, by omega, by go_num, Lib.hid (by rw [← HF.out]; exact HOJ.out), HBJ, HSJ, Lib.hid (by rw [← HF.out]; exact HNJ.out)⟩
        · have d1 : decide ((k : Int) < (d.steps.length : Int)) = false := decide_eq_false (by omega)
          have hk1 : ¬ (k : Int) < (d.steps.length : Int) := by omega
          have hke : k = d.steps.length := by omega
          subst hke
          have hcu := HCU.out d.steps.length
          have hcub : (chkU d.steps d.steps.length c1).length ≤ 10400 := by
            have : d.steps.length * 100 ≤ 100 * 100 := Nat.mul_le_mul_right _ (by omega)
            omega
          have hbc := HO.out.box.cell
          have HDG := Lib.hid (HO.out.own.read HOKK.out)
          have HOKS := Lib.hid (fun x (hx : x ∈ sortD (chkU d.steps d.steps.length c1)) => HOKK.out x ((sortD_mem _ x).1 hx))
          clear p0 p1 p2 hcu
          go_wp2_with fail
          refine (dSort_any _ _ _ HDG.out (by omega)).mono ?_
          rintro e w6 ⟨ua, uc, rfl, ho6, hb6⟩
          have HDF := Lib.hid (ho6.read HOKS.out)
          have HBF := Lib.hid (HBW5.out.trans ((HBI.out.trans (hb6.mono (by omega))).mono (Nat.le_succ _)))
          clear ho6 hb6 hbc
          go_wp2_with fail
          go_ret
          rw [hc1]
          exact ⟨_, _, rfl, HDF.out, HBF.out⟩
end Go.Proofs.YtgfiogjfgbegpaaGreat

/-
  Keys: a step's number and a name; what lies at names.Check.
-/
namespace Go.Proofs.YtgfiogjfgbegpaaGreat
open Go Go.RowKit Go.Maps

def aggO (x : Nat × ByteArray) : Value := .agg #[.int .i64 (x.1 : Int), .string x.2]
structure OkO (x : Nat × ByteArray) : Prop where
  step : I64w (x.1 : Int)
  text : x.2.size ≤ maxLen
theorem aggO_inj {x y : Nat × ByteArray} (h : aggO x = aggO y) : x = y := by
  obtain ⟨a, b⟩ := x
  obtain ⟨a', b'⟩ := y
  simp [aggO] at h
  obtain ⟨h1, rfl⟩ := h
  have : a = a' := by omega
  rw [this]
theorem Tryz.rowOwn : (158 : TypeId) < Tryz.prog.types.size := of_decide_eq_true (by kernel_rfl)
theorem Tryz.keyTOwn : Tryz.prog.keyTypeAt 3 158 = true := by kernel_rfl
theorem Tryz.wideOwn : (match Tryz.prog.underlying 158 with | some (.array _ _) | some (.struct _) => true | _ => false) = true := by rw [Tryz.underlying158]
set_option maxRecDepth 100000 in
theorem Tryz.lawOwn : WideMaps.KeyLaw Tryz.prog 158 := deep_law_laid Tryz.laid (m := 3) (by omega) Tryz.rowOwn Tryz.keyTOwn Tryz.wideOwn
theorem Tryz.deepOwn : Tryz.prog.keyType 158 = true := by kernel_rfl
theorem Tryz.cellsOwn : Tryz.prog.cellsOf 158 = 2 := by kernel_rfl
theorem Tryz.keyOfOwn (a : Int) (s : ByteArray) (h1 : (Lit.int .i64 a).wf = true) (h3 : s.size ≤ maxLen) : ∃ kl, keyOf Tryz.prog 158 (.agg #[.int .i64 a, .string s]) = some kl := by
  obtain ⟨n, hn⟩ : ∃ n, Tryz.prog.types.size = n + 1 := Nat.exists_eq_succ_of_ne_zero (Nat.ne_of_gt (Nat.lt_of_le_of_lt (Nat.zero_le _) Tryz.rowDiag))
  refine ⟨_, keyOf_struct Tryz.underlying158 (by rw [Tryz.cellsOwn]; rfl) Tryz.deepOwn (keyLits_struct Tryz.underlying158 (by rw [Tryz.cellsOwn]; rfl) (by decide +kernel) (ls := [[.int .i64 a], [.string s.data.toList]]) ?_)⟩
  rw [hn]
  simp only [List.mapM_cons, List.mapM_nil, Tryz.cellsInt, Tryz.cellsString, List.drop_zero, List.take_succ_cons, List.take_zero, List.drop_succ_cons, keyLits_int Tryz.underlying3 h1, keyLits_str Tryz.underlying9 h3]
  rfl
set_option maxRecDepth 100000 in
theorem Tryz.keyOwn : KeyI Tryz.prog 158 3 156 (Nat × ByteArray) aggO OkO where
  keyed := Keyed.of_law Tryz.lawOwn
  map := Tryz.underlying156
  num := Tryz.underlying3
  zero := Tryz.zeroInt
  inj := aggO_inj
  key := fun {x} h => Tryz.keyOfOwn x.1 x.2 (i64_wf h.step) h.text
end Go.Proofs.YtgfiogjfgbegpaaGreat

/-
  rescriptref25: among, Missing: contracts.
-/
namespace Go.Proofs.YtgfiogjfgbegpaaGreat
open Go Go.RowKit Go.WideShapes

def OwnT (W : World) (B : Nat) (va : Option Addr) (vc : Nat) (l : List ByteArray) : Prop := W.ownsRow B 9 1 (.slice va l.length vc) l.length (strsV l)
theorem OwnT.alloc {W : World} {B vc : Nat} {va : Option Addr} {l : List ByteArray} (h : OwnT W B va vc l) (ob : Obj) : (W.alloc ob).ownsRow B 9 1 (.slice va l.length vc) l.length (strsV l) := World.ownsRow.alloc h ob
end Go.Proofs.YtgfiogjfgbegpaaGreat

/-
  Sagas: made, Status, moving, Over, phase, any, ready: contracts.
-/
namespace Go.Proofs.YtgfiogjfgbegpaaGreat
open Go Go.RowKit Go.Maps Go.WideShapes

end Go.Proofs.YtgfiogjfgbegpaaGreat

/-
  Sagas: what put does ((*Saga).asker$1).
-/
namespace Go.Proofs.YtgfiogjfgbegpaaGreat
open Go Go.RowKit Go.Maps Go.WideShapes

end Go.Proofs.YtgfiogjfgbegpaaGreat

/-
  rescriptref27.Check: contract; it finds what bounds.Check finds.
-/
namespace Go.Proofs.YtgfiogjfgbegpaaGreat
open Go Go.RowKit Go.WideShapes

theorem noteL_mem (l : List DiagD) (b : Bool) (x y : DiagD) : y ∈ noteL l b x ↔ y ∈ l ∨ (b = true ∧ y = x) := by
  unfold noteL
  cases b <;> simp
theorem rangeL_mem (i : Nat) (s : StepD) (l : List DiagD) (y : DiagD) : y ∈ rangeL i s l ↔ y ∈ l ∨ y ∈ rangeL i s [] := by
  unfold rangeL
  simp only [noteL_mem, List.not_mem_nil, false_or, or_assoc]
theorem chkR_mem (y : DiagD) : ∀ (r : List StepD) (i : Nat) (l : List DiagD), y ∈ chkR i r l ↔ y ∈ l ∨ ∃ (q : Nat) (s : StepD), r[q]? = some s ∧ y ∈ rangeL (i + q) s []
  | [], i, l => by simp [chkR]
  | s :: r, i, l => by
    rw [chkR, chkR_mem y r (i + 1), rangeL_mem]
    constructor
    · rintro ((h | h) | ⟨q, t, hq, h⟩)
      · exact .inl h
      · exact .inr ⟨0, s, rfl, by simpa using h⟩
      · exact .inr ⟨q + 1, t, by simpa using hq, by rw [show i + (q + 1) = i + 1 + q by omega]; exact h⟩
    · rintro (h | ⟨q, t, hq, h⟩)
      · exact .inl (.inl h)
      · cases q with
        | zero => simp at hq; subst hq; exact .inl (.inr (by simpa using h))
        | succ q => exact .inr ⟨q, t, by simpa using hq, by rw [show i + 1 + q = i + (q + 1) by omega]; exact h⟩
theorem undoR_mem (all : List StepD) (y : DiagD) : ∀ (row : List Int) (l : List DiagD), y ∈ undoR all row l ↔ y ∈ l ∨ ∃ (t : Int) (s : StepD), t ∈ row ∧ all[t.toNat]? = some s ∧ emp s = true ∧ y = (t, 19, s.name)
  | [], l => by simp [undoR]
  | t :: row, l => by
    have ih := undoR_mem all y row (undoL all l t)
    have e : undoR all (t :: row) l = undoR all row (undoL all l t) := rfl
    rw [e, ih]
    have hu : y ∈ undoL all l t ↔ y ∈ l ∨ ∃ s : StepD, all[t.toNat]? = some s ∧ emp s = true ∧ y = (t, 19, s.name) := by
      unfold undoL
      split
      · rename_i s hs
        rw [noteL_mem, hs]
        simp
      · rename_i hs
        rw [hs]; simp
    rw [hu]
    constructor
    · rintro ((h | ⟨s, h1, h2, h3⟩) | ⟨u, s, h0, h1⟩)
      · exact .inl h
      · exact .inr ⟨t, s, by simp, h1, h2, h3⟩
      · exact .inr ⟨u, s, by simp [h0], h1⟩
    · rintro (h | ⟨u, s, h0, h1, h2, h3⟩)
      · exact .inl (.inl h)
      · rcases List.mem_cons.1 h0 with rfl | h0
        · exact .inl (.inr ⟨s, h1, h2, h3⟩)
        · exact .inr ⟨u, s, h0, h1, h2, h3⟩
theorem chkU_mem (all : List StepD) (y : DiagD) : ∀ (k : Nat) (l : List DiagD), y ∈ chkU all k l ↔ y ∈ l ∨ ∃ (q : Nat) (u : StepD) (t : Int) (s : StepD), q < k ∧ all[q]? = some u ∧ emp u = false ∧ t ∈ depsD all q u ∧ all[t.toNat]? = some s ∧ emp s = true ∧ y = (t, 19, s.name)
  | 0, l => by simp [chkU]
  | k + 1, l => by
    have ih := chkU_mem all y k l
    unfold chkU
    split
    · rename_i u hu
      split
      · rename_i he
        rw [ih]
        constructor
        · rintro (h | ⟨q, v, t, s, hq, hr⟩)
          · exact .inl h
          · exact .inr ⟨q, v, t, s, by omega, hr⟩
        · rintro (h | ⟨q, v, t, s, hq, hr, h1, h2⟩)
          · exact .inl h
          · refine .inr ⟨q, v, t, s, ?_, hr, h1, h2⟩
            have : q ≠ k := by rintro rfl; rw [hu] at hr; cases hr; rw [he] at h1; cases h1
            omega
      · rename_i he
        rw [undoR_mem, ih]
        constructor
        · rintro ((h | ⟨q, v, t, s, hq, hr⟩) | ⟨t, s, h1, h2, h3, h4⟩)
          · exact .inl h
          · exact .inr ⟨q, v, t, s, by omega, hr⟩
          · exact .inr ⟨k, u, t, s, by omega, hu, by simpa using he, h1, h2, h3, h4⟩
        · rintro (h | ⟨q, v, t, s, hq, hr, h1, h2, h3⟩)
          · exact .inl (.inl h)
          · by_cases hqk : q = k
            · subst hqk
              rw [hu] at hr
              cases hr
              exact .inr ⟨t, s, h2, h3⟩
            · exact .inl (.inr ⟨q, v, t, s, by omega, hr, h1, h2, h3⟩)
    · rename_i hu
      rw [ih]
      constructor
      · rintro (h | ⟨q, v, t, s, hq, hr⟩)
        · exact .inl h
        · exact .inr ⟨q, v, t, s, by omega, hr⟩
      · rintro (h | ⟨q, v, t, s, hq, hr, h1, h2⟩)
        · exact .inl h
        · refine .inr ⟨q, v, t, s, ?_, hr, h1, h2⟩
          have : q ≠ k := by rintro rfl; rw [hu] at hr; cases hr
          omega
end Go.Proofs.YtgfiogjfgbegpaaGreat

/-
  Sagas: ready, halt: contracts.
-/
namespace Go.Proofs.YtgfiogjfgbegpaaGreat
open Go Go.RowKit Go.Maps Go.WideShapes

structure FineK (k : SagK) : Prop where
  small : SmallD k.d
  len : k.rs.length = k.d.steps.length
  ins : ∀ r ∈ k.rs, ∀ j ∈ r, 0 ≤ j ∧ j < (k.d.steps.length : Int)
theorem AskR.status {w : World} {U : Nat → Prop} {p m : Nat} {sa : Option Addr} {sc : Nat} {vr : Value} {d : DefD} {rs : List (List Int)} {N : Nat} {bs bo ob : Nat} {da : Option Addr} {dc : Nat} {ua : Option Addr} {uc : Nat} {va : Option Addr} {vc : Nat} {X : AskX} (h : AskR w U p m sa sc vr d rs N bs bo ob da dc ua uc va vc X) (st : Int) :
    AskR (w.setCell ⟨p, 7, none⟩ (.int .u8 st)) U p m sa sc vr d rs N bs bo ob da dc ua uc va vc ({ X.1 with status := st }, X.2) ∧ Grow U U w (w.setCell ⟨p, 7, none⟩ (.int .u8 st)) := by
  have hgr : Grow U U w (w.setCell ⟨p, 7, none⟩ (.int .u8 st)) := Grow.of_chg ((Chg.refl U w).setCell (p := ⟨p, 7, none⟩) (fun _ => h.sag.ownp) _)
  have st' : ∀ {j : Nat}, j ≠ p → (w.setCell ⟨p, 7, none⟩ (.int .u8 st)).heap[j]? = w.heap[j]? := fun hj => Below.heap_setCell _ _ _ _ hj
  have rw' : ∀ {base : Nat} {e : TypeId} {size n : Nat} {v : Value} {xs : List Value}, w.ownsRow base e size v n xs → 91 ≠ e → (w.setCell ⟨p, 7, none⟩ (.int .u8 st)).ownsRow base e size v n xs := fun hr he => ownsRow_keepB hr (fun g hg => st' (fun e => row_ne hr h.sag.cell he (by rw [hg, e])))
  obtain ⟨L, g, q1, q2, q3⟩ := h.sag.map
  have hbs : bs ≠ p := fun e => h.nbs (e ▸ h.sag.ownp)
  have hbo : bo ≠ p := fun e => h.nbo (e ▸ h.sag.ownp)
  have hob : ob ≠ p := fun e => by subst e; exact absurd (h.sag.cell.symm.trans h.hob) (by simp)
  refine ⟨⟨⟨by simpa using setCell_heap 7 (.int .u8 st) h.sag.cell, h.sag.df.step hgr, h.sag.refs.step hgr, ⟨L, g, q1.block (st' (fun e => h.sag.nem h.sag.cell e.symm)), q2, q3⟩, rw' h.sag.done (by decide), rw' h.sag.undone (by decide), h.sag.apart, h.sag.ownp, h.sag.ownm, h.sag.ownd, h.sag.ownu⟩, (st' hbs).trans h.hbs, (st' hbo).trans h.hbo, (st' hob).trans h.hob, rw' h.row (by decide), h.nbs, h.nbo, h.uob, h.urow⟩, hgr⟩
end Go.Proofs.YtgfiogjfgbegpaaGreat

/-
  Plain: what is wrong with names; the reference finds the same.
-/
namespace Go.Proofs.YtgfiogjfgbegpaaGreat
open Go Go.RowKit

def headN (d : DefD) : List DiagD := noteL (noteL [] (decide (d.steps.length = 0)) (-1, 17, ByteArray.empty)) (!rightB d.name) (-1, 18, d.name)
def stepN (all : List StepD) (i : Nat) (s : StepD) (l : List DiagD) : List DiagD :=
  noteL (noteL (noteL (noteL l (!rightB s.name) ((i : Int), 18, s.name)) (!rightB s.action) ((i : Int), 18, s.action)) (!emp s && !rightB s.undo) ((i : Int), 18, s.undo)) (decide (idxStep all s.name 0 < (i : Int))) ((i : Int), 6, s.name)
def stepsN (all : List StepD) : Nat → List StepD → List DiagD → List DiagD
  | _, [], l => l
  | i, s :: r, l => stepsN all (i + 1) r (stepN all i s l)
def keyR (r : RefD) : Nat × ByteArray := (r.1, r.2.1)
def refN (all : List StepD) (pre : List RefD) (r : RefD) (l : List DiagD) : List DiagD :=
  noteL (noteL (noteL l (decide (r.2.2 < 0)) ((r.1 : Int), 5, r.2.1)) (decide (all[r.1]?.map StepD.name = some r.2.1)) ((r.1 : Int), 8, r.2.1)) (decide (0 < cntN (pre.map keyR) (keyR r))) ((r.1 : Int), 6, r.2.1)
def refsN (all : List StepD) : List RefD → List RefD → List DiagD → List DiagD
  | _, [], l => l
  | pre, r :: rs, l => refsN all (pre ++ [r]) rs (refN all pre r l)
theorem refsN_snoc (all : List StepD) (r : RefD) : ∀ (rs pre : List RefD) (l : List DiagD), refsN all pre (rs ++ [r]) l = refN all (pre ++ rs) r (refsN all pre rs l)
  | [], pre, l => by simp [refsN]
  | q :: rs, pre, l => by
    rw [List.cons_append, refsN, refsN_snoc all r rs, refsN, List.append_assoc]; rfl
theorem refsN_append (all : List StepD) : ∀ (us bs pre : List RefD) (l : List DiagD), refsN all pre (us ++ bs) l = refsN all (pre ++ us) bs (refsN all pre us l)
  | [], bs, pre, l => by simp [refsN]
  | q :: us, bs, pre, l => by
    rw [List.cons_append, refsN, refsN_append all us bs, refsN, List.append_assoc]; rfl
def chkN (d : DefD) : List DiagD := refsN d.steps [] (refsF d.steps 0 d.steps) (stepsN d.steps 0 d.steps (headN d))
def rowN (all : List StepD) (i : Nat) (s : StepD) (seen : List ByteArray) (a : ByteArray) (l : List DiagD) : List DiagD :=
  noteL (noteL (noteL l (decide (idxStep all a 0 < 0)) ((i : Int), 5, a)) (decide (a = s.name)) ((i : Int), 8, s.name)) (hasS seen a) ((i : Int), 6, a)
def rowsN (all : List StepD) (i : Nat) (s : StepD) : List ByteArray → List ByteArray → List DiagD → List DiagD
  | _, [], l => l
  | seen, a :: r, l => rowsN all i s (seen ++ [a]) r (rowN all i s seen a l)
def rChkN (all : List StepD) : Nat → List StepD → List DiagD → List DiagD
  | _, [], l => l
  | i, s :: r, l => rChkN all (i + 1) r (rowsN all i s [] s.after (stepN all i s l))
def Puts (f : List DiagD → List DiagD) : Prop := ∀ l y, y ∈ f l ↔ y ∈ l ∨ y ∈ f []
theorem Puts.id : Puts fun l => l := fun l y => by simp
theorem Puts.comp {f g : List DiagD → List DiagD} (hf : Puts f) (hg : Puts g) : Puts fun l => f (g l) := fun l y => by
  show y ∈ f (g l) ↔ y ∈ l ∨ y ∈ f (g [])
  rw [hf (g l), hg l, hf (g []), or_assoc]
theorem puts_note (b : Bool) (x : DiagD) : Puts fun l => noteL l b x := fun l y => by
  show y ∈ noteL l b x ↔ y ∈ l ∨ y ∈ noteL [] b x
  rw [noteL_mem, noteL_mem]
  simp
theorem puts_step (all : List StepD) (i : Nat) (s : StepD) : Puts (stepN all i s) :=
  (puts_note _ _).comp ((puts_note _ _).comp ((puts_note _ _).comp (puts_note _ _)))
theorem puts_row (all : List StepD) (i : Nat) (s : StepD) (seen : List ByteArray) (a : ByteArray) : Puts (rowN all i s seen a) :=
  (puts_note _ _).comp ((puts_note _ _).comp (puts_note _ _))
theorem puts_rows (all : List StepD) (i : Nat) (s : StepD) : ∀ (r seen : List ByteArray), Puts (rowsN all i s seen r)
  | [], _ => Puts.id
  | a :: r, seen => (puts_rows all i s r (seen ++ [a])).comp (puts_row all i s seen a)
theorem puts_steps (all : List StepD) : ∀ (r : List StepD) (i : Nat), Puts (stepsN all i r)
  | [], _ => Puts.id
  | s :: r, i => (puts_steps all r (i + 1)).comp (puts_step all i s)
def onlyN (all : List StepD) : Nat → List StepD → List DiagD → List DiagD
  | _, [], l => l
  | i, s :: r, l => onlyN all (i + 1) r (rowsN all i s [] s.after l)
theorem puts_only (all : List StepD) : ∀ (r : List StepD) (i : Nat), Puts (onlyN all i r)
  | [], _ => Puts.id
  | s :: r, i => (puts_only all r (i + 1)).comp (puts_rows all i s s.after [])
theorem puts_rchk (all : List StepD) : ∀ (r : List StepD) (i : Nat), Puts (rChkN all i r)
  | [], _ => Puts.id
  | s :: r, i => (puts_rchk all r (i + 1)).comp ((puts_rows all i s s.after []).comp (puts_step all i s))
theorem rchk_split (all : List StepD) (y : DiagD) : ∀ (r : List StepD) (i : Nat) (l : List DiagD), y ∈ rChkN all i r l ↔ y ∈ onlyN all i r (stepsN all i r l)
  | [], _, _ => Iff.rfl
  | s :: r, i, l => by
    have h1 : rChkN all i (s :: r) l = rChkN all (i + 1) r (rowsN all i s [] s.after (stepN all i s l)) := rfl
    have h2 : onlyN all i (s :: r) (stepsN all i (s :: r) l) = onlyN all (i + 1) r (rowsN all i s [] s.after (stepsN all (i + 1) r (stepN all i s l))) := rfl
    rw [h1, h2, puts_rchk all r (i + 1), rchk_split all y r (i + 1) [], puts_only all r (i + 1) (stepsN all (i + 1) r []), puts_only all r (i + 1) (rowsN all i s [] s.after (stepsN all (i + 1) r (stepN all i s l))), puts_rows all i s s.after [] (stepN all i s l), puts_rows all i s s.after [] (stepsN all (i + 1) r (stepN all i s l)), puts_steps all r (i + 1) (stepN all i s l)]
    constructor
    · rintro ((h | h) | h | h)
      · exact .inl (.inl (.inl h))
      · exact .inl (.inr h)
      · exact .inl (.inl (.inr h))
      · exact .inr h
    · rintro (((h | h) | h) | h)
      · exact .inl (.inl h)
      · exact .inr (.inl h)
      · exact .inl (.inr h)
      · exact .inr (.inr h)
theorem cnt_seen (all : List StepD) (i : Nat) (pre : List RefD) (hp : ∀ r ∈ pre, r.1 ≠ i) (seen : List ByteArray) (a : ByteArray) : decide (0 < cntN ((pre ++ seen.map fun b => ((i, b, idxStep all b 0) : RefD)).map keyR) (i, a)) = hasS seen a := by
  have h : ((i, a) ∈ (pre ++ seen.map fun b => ((i, b, idxStep all b 0) : RefD)).map keyR) ↔ a ∈ seen := by
    rw [List.map_append, List.mem_append, List.map_map]
    constructor
    · rintro (h | h)
      · obtain ⟨r, hr, he⟩ := List.mem_map.1 h
        exact absurd (congrArg Prod.fst he) (hp r hr)
      · obtain ⟨b, hb, he⟩ := List.mem_map.1 h
        have : b = a := congrArg Prod.snd he
        exact this ▸ hb
    · intro h
      exact .inr (List.mem_map.2 ⟨a, h, rfl⟩)
  have h0 := cntN_zero ((pre ++ seen.map fun b => ((i, b, idxStep all b 0) : RefD)).map keyR) (i, a)
  unfold hasS
  rw [Bool.eq_iff_iff, decide_eq_true_eq]
  simp only [List.contains_iff_mem]
  rw [← h]
  constructor
  · intro h1
    exact Decidable.byContradiction fun h2 => by rw [h0.2 h2] at h1; omega
  · intro h1
    exact Nat.pos_of_ne_zero fun h2 => h0.1 h2 h1
theorem refs_rows (all : List StepD) (i : Nat) (s : StepD) (hs : all[i]? = some s) (pre : List RefD) (hp : ∀ r ∈ pre, r.1 ≠ i) : ∀ (r seen : List ByteArray) (l : List DiagD),
    refsN all (pre ++ seen.map fun b => ((i, b, idxStep all b 0) : RefD)) (r.map fun b => ((i, b, idxStep all b 0) : RefD)) l = rowsN all i s seen r l
  | [], _, _ => rfl
  | a :: r, seen, l => by
    have h1 := cnt_seen all i pre hp seen a
    have h2 : refN all (pre ++ seen.map fun b => ((i, b, idxStep all b 0) : RefD)) (i, a, idxStep all a 0) l = rowN all i s seen a l := by
      unfold refN rowN
      have e : (decide (all[i]?.map StepD.name = some a)) = decide (a = s.name) := by
        rw [hs, Bool.eq_iff_iff, decide_eq_true_eq, decide_eq_true_eq]
        simp [eq_comm]
      show noteL (noteL (noteL l (decide (idxStep all a 0 < 0)) ((i : Int), 5, a)) (decide (all[i]?.map StepD.name = some a)) ((i : Int), 8, a)) (decide (0 < cntN _ (i, a))) ((i : Int), 6, a) = _
      rw [h1, e]
      by_cases ha : a = s.name
      · subst ha; rfl
      · rw [decide_eq_false ha]; rfl
    rw [List.map_cons, refsN, h2, rowsN, List.append_assoc]
    have := refs_rows all i s hs pre hp r (seen ++ [a]) (rowN all i s seen a l)
    rw [List.map_append] at this
    exact this
theorem refs_only (all : List StepD) : ∀ (r : List StepD) (i : Nat) (pre : List RefD) (l : List DiagD), (∀ q ∈ pre, q.1 < i) → (∀ (k : Nat) (s : StepD), r[k]? = some s → all[i + k]? = some s) → refsN all pre (refsF all i r) l = onlyN all i r l
  | [], _, _, _, _, _ => rfl
  | s :: r, i, pre, l, hp, ha => by
    have hs : all[i]? = some s := by simpa using ha 0 s rfl
    have h1 := refs_rows all i s hs pre (fun q hq => Nat.ne_of_lt (hp q hq)) s.after [] l
    rw [List.map_nil, List.append_nil] at h1
    rw [refsF, refsN_append, rowRf, h1, onlyN]
    refine refs_only all r (i + 1) _ _ (fun q hq => ?_) (fun k t hk => ?_)
    · rcases List.mem_append.1 hq with hq | hq
      · have := hp q hq; omega
      · obtain ⟨b, _, rfl⟩ := List.mem_map.1 hq
        exact Nat.lt_succ_self _
    · rw [show i + 1 + k = i + (k + 1) by omega]
      exact ha (k + 1) t (by simpa using hk)
theorem names_alike (d : DefD) : sortD (rChkN d.steps 0 d.steps (headN d)) = sortD (chkN d) := by
  refine sortD_congr fun y => ?_
  unfold chkN
  rw [rchk_split, refs_only d.steps d.steps 0 [] _ (fun _ h => by cases h) (fun k s h => by rwa [Nat.zero_add])]
end Go.Proofs.YtgfiogjfgbegpaaGreat

/-
  bounds.Points, Steps; what layer 27's laws ask whatever is asked.
-/
namespace Go.Proofs.YtgfiogjfgbegpaaGreat
open Go Go.RowKit Go.WideShapes

def s27a : StepD := ⟨{ data := #[97] }, { data := #[] }, { data := #[] }, [], 11, 0, 0, 0, .mk 0 { data := #[] } [] [] 0⟩
def s27b : StepD := ⟨{ data := #[98] }, { data := #[] }, { data := #[117] }, [{ data := #[97] }], 0, 0, 0, 0, .mk 0 { data := #[] } [] [] 0⟩
def d27 : DefD := ⟨{ data := #[] }, { data := #[] }, [s27a, s27b]⟩
structure At27 (W : World) (g1 g2 : Nat) : Prop where
  b1 : W.heap[g1]? = some (.cells #[.string { data := #[97] }] 9 (0, 0))
  b2 : W.heap[g2]? = some (.cells #[.string { data := #[97] }, .string { data := #[] }, .string { data := #[] }, .slice none 0 0, .int .i64 11, .int .i64 0, .int .i64 0, .int .i64 0, .int .u8 0, .string { data := #[] }, .slice none 0 0, .slice none 0 0, .int .i64 0, .string { data := #[98] }, .string { data := #[] }, .string { data := #[117] }, .slice (some ⟨g1, 0, none⟩) 1 1, .int .i64 0, .int .i64 0, .int .i64 0, .int .i64 0, .int .u8 0, .string { data := #[] }, .slice none 0 0, .slice none 0 0, .int .i64 0] 47 (0, 0))
theorem At27.below {W W' : World} {g1 g2 : Nat} (h : At27 W g1 g2) (hb : Below W.heap.size W W') : At27 W' g1 g2 :=
  ⟨(hb.block _ (Array.getElem?_eq_some_iff.1 h.b1).1).trans h.b1, (hb.block _ (Array.getElem?_eq_some_iff.1 h.b2).1).trans h.b2⟩
theorem At27.toR {W : World} {g1 g2 : Nat} (h : At27 W g1 g2) : DefR W [.string { data := #[] }, .string { data := #[] }, .slice (some ⟨g2, 0, none⟩) 2 2] d27 (some ⟨g2, 0, none⟩) 2 := by
  refine ⟨rfl, by decide, by decide, [[.string { data := #[97] }, .string { data := #[] }, .string { data := #[] }, .slice none 0 0, .int .i64 11, .int .i64 0, .int .i64 0, .int .i64 0, .int .u8 0, .string { data := #[] }, .slice none 0 0, .slice none 0 0, .int .i64 0], [.string { data := #[98] }, .string { data := #[] }, .string { data := #[117] }, .slice (some ⟨g1, 0, none⟩) 1 1, .int .i64 0, .int .i64 0, .int .i64 0, .int .i64 0, .int .u8 0, .string { data := #[] }, .slice none 0 0, .slice none 0 0, .int .i64 0]], rfl, rds_row 2 13 h.b2 rfl (by decide), fun i r s hr hs => ?_⟩
  rcases i with _ | _ | i
  · cases hr
    cases hs
    exact ⟨none, 0, none, 0, none, 0, rfl, ⟨by decide, by decide, by decide, (fun a ha => by cases ha), by unfold I64w; decide, by unfold I64w; decide, by unfold I64w; decide, by unfold I64w; decide⟩, ⟨rfl, none, 0, rfl, Nat.le_refl _, Nat.zero_le _, .inl rfl⟩, node_none W⟩
  · cases hr
    cases hs
    exact ⟨some ⟨g1, 0, none⟩, 1, none, 0, none, 0, rfl, ⟨by decide, by decide, by decide, fun a ha => by simp only [s27b, List.mem_singleton] at ha; subst ha; decide, by unfold I64w; decide, by unfold I64w; decide, by unfold I64w; decide, by unfold I64w; decide⟩, rds_row 1 1 h.b1 rfl (by decide), node_none W⟩
  · simp at hr
end Go.Proofs.YtgfiogjfgbegpaaGreat

/-
  Sagas: forth: contract.
-/
namespace Go.Proofs.YtgfiogjfgbegpaaGreat
open Go Go.RowKit Go.Maps Go.WideShapes

end Go.Proofs.YtgfiogjfgbegpaaGreat
