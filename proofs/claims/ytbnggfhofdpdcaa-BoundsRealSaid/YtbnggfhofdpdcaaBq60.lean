/-
  The law BoundsReal: walk.
-/
import Derived.Test.YtbnggfhofdpdcaaBq40
import Derived.Test.YtbnggfhofdpdcaaBq55
import Derived.Test.YtbnggfhofdpdcaaBq56
namespace Go.Proofs.Ytbnggfhofdpdcaa
open Go Go.RowKit Go.WideShapes

/-- Some of several may come next. -/
theorem E_pick {P : Program} {ops : List Oper} {Q : Exit → Act → World → Prop} {S : World → Prop} {k fuel : Nat} {listed : Array Bool} {a : Act} {w : World} (rs : List Nat) (hr : Region.ready .any ops.toArray listed = rs) (hne : rs ≠ [])
    (h : ∀ i ∈ rs, ∃ oi, ops[i]? = some oi ∧ Region.wanted oi (yielded ops.toArray a.tmps) = true ∧ ∀ K : Act → World → Prop, Shut (∀ a' w', (listed.getD k false = false → i ≠ k → S w') → ((listed.getD k false = false → i ≠ k → S w') → wpAnyE P .any ops.toArray Q S k fuel (listed.setIfInBounds i true) a' w') → K a' w') → oi.wp P a w K Q) : wpAnyE P .any ops.toArray Q S k (fuel + 1) listed a w := by
  refine ⟨fun h0 => absurd (hr.symm.trans h0) hne, fun m hm => ?_⟩
  rw [hr] at hm
  obtain ⟨oi, hi, hw, hk⟩ := h m hm
  have hi' : ops.toArray[m]? = some oi := by simpa using hi
  unfold wpOp
  simp only [hi', hw, if_true]
  exact .inl (hk _ (fun a' w' h1 h2 => ⟨h1, h2 h1⟩))
theorem store3 {W : World} {A : Nat} {t : TypeId} {c0 c1 c2 : Value} (h : W.heap[A]? = some (.cells #[c0, c1, c2] t (0, 0))) (x0 x1 x2 : Value) :
    (((W.setCell ⟨A, 0, none⟩ x0).setCell ⟨A, 1, none⟩ x1).setCell ⟨A, 2, none⟩ x2).heap[A]? = some (.cells #[x0, x1, x2] t (0, 0)) ∧ (∀ k, k ≠ A → (((W.setCell ⟨A, 0, none⟩ x0).setCell ⟨A, 1, none⟩ x1).setCell ⟨A, 2, none⟩ x2).heap[k]? = W.heap[k]?) ∧ (((W.setCell ⟨A, 0, none⟩ x0).setCell ⟨A, 1, none⟩ x1).setCell ⟨A, 2, none⟩ x2).heap.size = W.heap.size := by
  refine ⟨by simp [World.setCell, h, Array.getElem?_modify], fun k hk => ?_, by simp⟩
  rw [Below.heap_setCell _ _ _ _ hk, Below.heap_setCell _ _ _ _ hk, Below.heap_setCell _ _ _ _ hk]
theorem below_size {wz v : World} (h : Below wz.heap.size wz v) : wz.heap.size ≤ v.heap.size := h.size
theorem alloc_step {wz v : World} {O : Obj} {K : Act → World → Prop} {a : Act} (hB : Below wz.heap.size wz v) (hz : wz.heap.size ≤ v.heap.size) (h : ∀ v' : World, Below wz.heap.size wz v' → v'.heap.size = v.heap.size + 1 → v'.heap[v.heap.size]? = some O → (∀ (k : Nat) (ob : Obj), v.heap[k]? = some ob → v'.heap[k]? = some ob) → K a v') : K a (v.alloc O) :=
  h _ (hB.alloc hz _) (World.size_alloc _ _) (World.alloc_heap_new v O) fun k ob hk => (Below.heap_alloc v O k (Array.getElem?_eq_some_iff.1 hk).1).trans hk
theorem store_step {wz v : World} {A : Nat} {t : TypeId} {c0 c1 c2 x0 x1 x2 : Value} {K : Act → World → Prop} {a : Act} (hB : Below wz.heap.size wz v) (hz : wz.heap.size ≤ A) (hA : v.heap[A]? = some (.cells #[c0, c1, c2] t (0, 0))) (h : ∀ v' : World, Below wz.heap.size wz v' → v'.heap.size = v.heap.size → v'.heap[A]? = some (.cells #[x0, x1, x2] t (0, 0)) → (∀ k, k ≠ A → v'.heap[k]? = v.heap[k]?) → K a v') : K a (((v.setCell ⟨A, 0, none⟩ x0).setCell ⟨A, 1, none⟩ x1).setCell ⟨A, 2, none⟩ x2) := by
  obtain ⟨h1, h2, h3⟩ := store3 hA x0 x1 x2
  exact h _ (((hB.setCell (p := ⟨A, 0, none⟩) hz _).setCell (p := ⟨A, 1, none⟩) hz _).setCell (p := ⟨A, 2, none⟩) hz _) h3 h1 h2
/-- What is meant by a step. -/
def meantS (s : StepD) : StepD := { s with most := or0 s.most 1, factor := or0 s.factor 1, limit := or0 s.limit 100 }
theorem or0_twice (x d : Int) : or0 (or0 x d) d = or0 x d := by
  unfold or0
  by_cases h : x = 0
  · rw [if_pos h]
    split
    · rfl
    · rfl
  · rw [if_neg h, if_neg h]
theorem or0_w {x d : Int} (h : I64w x) (hd : I64w d) : I64w (or0 x d) := by
  unfold or0
  split
  · exact hd
  · exact h
theorem one_def {W : World} {g : Nat} {s : StepD} {aa ka ba : Option Addr} {ac kc bc : Nat} {m fa lm : Int} (hg : W.heap[g]? = some (.cells #[.string s.name, .string s.action, .string s.undo, .slice aa s.after.length ac, .int .i64 m, .int .i64 s.first, .int .i64 fa, .int .i64 lm, .int .u8 (s.note.kind : Int), .string s.note.text, .slice ka s.note.keys.length kc, .slice ba s.note.kids.length bc, .int .i64 s.note.line] 45 (0, 0))) (hm : or0 s.most 1 = m) (hf : or0 s.factor 1 = fa) (hl : or0 s.limit 100 = lm) (h : StepR W [.string s.name, .string s.action, .string s.undo, .slice aa s.after.length ac, .int .i64 s.most, .int .i64 s.first, .int .i64 s.factor, .int .i64 s.limit, .int .u8 (s.note.kind : Int), .string s.note.text, .slice ka s.note.keys.length kc, .slice ba s.note.kids.length bc, .int .i64 s.note.line] s aa ac ka kc ba bc) :
    DefR W [.string { data := #[] }, .string { data := #[] }, .slice (some ⟨g, 0, none⟩) 1 1] ⟨{ data := #[] }, { data := #[] }, [meantS s]⟩ (some ⟨g, 0, none⟩) 1 := by
  subst hm hf hl
  refine ⟨rfl, Nat.zero_le _, Nat.zero_le _, [[.string s.name, .string s.action, .string s.undo, .slice aa s.after.length ac, .int .i64 (or0 s.most 1), .int .i64 s.first, .int .i64 (or0 s.factor 1), .int .i64 (or0 s.limit 100), .int .u8 (s.note.kind : Int), .string s.note.text, .slice ka s.note.keys.length kc, .slice ba s.note.kids.length bc, .int .i64 s.note.line]], rfl, rds_row 1 13 hg rfl (by decide), fun i r t hr ht => ?_⟩
  rcases i with _ | i
  · cases hr
    cases ht
    obtain ⟨h1, h2, h3, h4⟩ := h
    exact ⟨aa, ac, ka, kc, ba, bc, rfl, ⟨h2.name, h2.action, h2.undo, h2.after, or0_w h2.most (by unfold I64w; decide), h2.first, or0_w h2.factor (by unfold I64w; decide), or0_w h2.limit (by unfold I64w; decide)⟩, h3, h4⟩
  · simp at hr

set_option maxRecDepth 100000 in
set_option maxHeartbeats 8000000 in
theorem BoundsReal_any (s : StepD) (aa : Option Addr) (ac : Nat) (ka : Option Addr) (kc : Nat) (ba : Option Addr) (bc : Nat) (w : World) (h : StepR w [.string s.name, .string s.action, .string s.undo, .slice aa s.after.length ac, .int .i64 s.most, .int .i64 s.first, .int .i64 s.factor, .int .i64 s.limit, .int .u8 (s.note.kind : Int), .string s.note.text, .slice ka s.note.keys.length kc, .slice ba s.note.kids.length bc, .int .i64 s.note.line] s aa ac ka kc ba bc) :
    Calls Try.prog 4 #[.agg #[.string s.name, .string s.action, .string s.undo, .slice aa s.after.length ac, .int .i64 s.most, .int .i64 s.first, .int .i64 s.factor, .int .i64 s.limit, .int .u8 (s.note.kind : Int), .string s.note.text, .slice ka s.note.keys.length kc, .slice ba s.note.kids.length bc, .int .i64 s.note.line]] w fun e w' => e = .returned (.bool true) ∧ Below w.heap.size w w' := by
  have hb0 := (Below.refl w.heap.size w).alloc (Nat.le_refl _) (.cells #[.string s.name, .string s.action, .string s.undo, .slice aa s.after.length ac, .int .i64 s.most, .int .i64 s.first, .int .i64 s.factor, .int .i64 s.limit, .int .u8 (s.note.kind : Int), .string s.note.text, .slice ka s.note.keys.length kc, .slice ba s.note.kids.length bc, .int .i64 s.note.line] 45)
  have HD := Lib.hid (h.below hb0)
  have HG := Lib.hid (World.alloc_heap_new w (.cells #[.string s.name, .string s.action, .string s.undo, .slice aa s.after.length ac, .int .i64 s.most, .int .i64 s.first, .int .i64 s.factor, .int .i64 s.limit, .int .u8 (s.note.kind : Int), .string s.note.text, .slice ka s.note.keys.length kc, .slice ba s.note.kids.length bc, .int .i64 s.note.line] 45))
  clear h
  go_enter Try.func4, Try.ntmps4
  go_upto_region 1 with fail
  generalize w.alloc (.cells #[.string s.name, .string s.action, .string s.undo, .slice aa s.after.length ac, .int .i64 s.most, .int .i64 s.first, .int .i64 s.factor, .int .i64 s.limit, .int .u8 (s.note.kind : Int), .string s.note.text, .slice ka s.note.keys.length kc, .slice ba s.note.kids.length bc, .int .i64 s.note.line] 45) = w0 at *
  have HB0' := Lib.hid hb0
  have hlt := (Array.getElem?_eq_some_iff.1 HG.out).1
  clear hb0
  go_wp2_with fail
  refine (live27_any _).mono ?_
  rintro e w1 ⟨rfl, hb1⟩
  have HB1 := Lib.hid (bthen HB0'.out (Nat.le_refl _) hb1)
  have HD1 := Lib.hid (HD.out.below hb1)
  have HG1 := Lib.hid ((hb1.block _ hlt).trans HG.out)
  obtain ⟨z0, z1, z2, z3, z4, z5, z6, z7, z8, z9, z10, z11, z12⟩ := cells13q HG1.out
  clear hb1
  by_cases h70 : (70 : Int) < (s.after.length : Int)
  · have d1 : decide ((70 : Int) < (s.after.length : Int)) = true := decide_eq_true h70
    go_wp2_with fail
    go_ret
    exact ⟨rfl, HB1.out⟩
  have d1 : decide ((70 : Int) < (s.after.length : Int)) = false := decide_eq_false h70
  go_wp2_with fail
  refine (SmallT_any s.note _ w1 HD1.out.note).mono ?_
  rintro e w2 ⟨rfl, hb2⟩
  have HB2 := Lib.hid (bthen HB1.out (Nat.le_refl _) hb2)
  have HD2 := Lib.hid (HD1.out.below hb2)
  have hlt1 := (Array.getElem?_eq_some_iff.1 HG1.out).1
  have HG2 := Lib.hid ((hb2.block _ hlt1).trans HG1.out)
  clear z0 z1 z2 z3 z4 z5 z6 z7 z8 z9 z10 z11 z12 hb2
  obtain ⟨z0, z1, z2, z3, z4, z5, z6, z7, z8, z9, z10, z11, z12⟩ := cells13q HG2.out
  cases hsm : smallTB s.note with
  | false =>
    go_wp2
    go_ret
    exact ⟨rfl, HB2.out⟩
  | true =>
  clear hsm
  have hR := fun W => Real_any s.name s.action s.undo aa s.after.length ac s.most s.first s.factor s.limit (s.note.kind : Int) s.note.text ka s.note.keys.length kc ba s.note.kids.length bc s.note.line W
  have hR2 := fun W => rReal_any s.name s.action s.undo aa s.after.length ac s.most s.first s.factor s.limit (s.note.kind : Int) s.note.text ka s.note.keys.length kc ba s.note.kids.length bc s.note.line W
  have hR3 := fun W => Real_any s.name s.action s.undo aa s.after.length ac (or0 s.most 1) s.first (or0 s.factor 1) (or0 s.limit 100) (s.note.kind : Int) s.note.text ka s.note.keys.length kc ba s.note.kids.length bc s.note.line W
  rw [or0_twice, or0_twice, or0_twice] at hR3
  unfold stepV at hR hR2 hR3
  have HR := Lib.hid hR
  have HR2 := Lib.hid hR2
  have HR3 := Lib.hid hR3
  clear hR hR2 hR3
  generalize hm : or0 s.most 1 = m at *
  generalize hf : or0 s.factor 1 = fa at *
  generalize hl : or0 s.limit 100 = lm at *
  have HM := Lib.hid hm
  have HF := Lib.hid hf
  have HL := Lib.hid hl
  clear hm hf hl
  go_wp2_with fail
  refine (HR.out _).mono ?_
  rintro e w3 ⟨rfl, hb3⟩
  have HB3 := Lib.hid (bthen HB2.out (Nat.le_refl _) hb3)
  have HD3 := Lib.hid (HD2.out.below hb3)
  have hlt2 := (Array.getElem?_eq_some_iff.1 HG2.out).1
  have HG3 := Lib.hid ((hb3.block _ hlt2).trans HG2.out)
  clear z0 z1 z2 z3 z4 z5 z6 z7 z8 z9 z10 z11 z12 hb3
  obtain ⟨z0, z1, z2, z3, z4, z5, z6, z7, z8, z9, z10, z11, z12⟩ := cells13q HG3.out
  go_upto_region 6 with fail
  have hx := World.alloc_heap_new w3 (.cells #[.string s.name, .string s.action, .string s.undo, .slice aa s.after.length ac, .int .i64 m, .int .i64 s.first, .int .i64 fa, .int .i64 lm, .int .u8 (s.note.kind : Int), .string s.note.text, .slice ka s.note.keys.length kc, .slice ba s.note.kids.length bc, .int .i64 s.note.line] 45)
  have hbx : Below w3.heap.size w3 (w3.alloc (.cells #[.string s.name, .string s.action, .string s.undo, .slice aa s.after.length ac, .int .i64 m, .int .i64 s.first, .int .i64 fa, .int .i64 lm, .int .u8 (s.note.kind : Int), .string s.note.text, .slice ka s.note.keys.length kc, .slice ba s.note.kids.length bc, .int .i64 s.note.line] 45)) := (Below.refl _ _).alloc (Nat.le_refl _) _
  have HB4 := Lib.hid (bthen HB3.out (Nat.le_refl _) hbx)
  have HD4 := Lib.hid (HD3.out.below hbx)
  have hlt3 := (Array.getElem?_eq_some_iff.1 HG3.out).1
  have HG4 := Lib.hid ((hbx.block _ hlt3).trans HG3.out)
  generalize (w3.alloc (.cells #[.string s.name, .string s.action, .string s.undo, .slice aa s.after.length ac, .int .i64 m, .int .i64 s.first, .int .i64 fa, .int .i64 lm, .int .u8 (s.note.kind : Int), .string s.note.text, .slice ka s.note.keys.length kc, .slice ba s.note.kids.length bc, .int .i64 s.note.line] 45)) = w4 at *
  generalize w3.heap.size = X at *
  have HX4 := Lib.hid hx
  clear z0 z1 z2 z3 z4 z5 z6 z7 z8 z9 z10 z11 z12 hbx hx
  obtain ⟨z0, z1, z2, z3, z4, z5, z6, z7, z8, z9, z10, z11, z12⟩ := cells13q HG4.out
  go_wp2_with fail
  refine (HR2.out _).mono ?_
  rintro e w5 ⟨rfl, hb5⟩
  have HB5 := Lib.hid (bthen HB4.out (Nat.le_refl _) hb5)
  have HD5 := Lib.hid (HD4.out.below hb5)
  have hltX := (Array.getElem?_eq_some_iff.1 HX4.out).1
  have HX5 := Lib.hid ((hb5.block _ hltX).trans HX4.out)
  clear z0 z1 z2 z3 z4 z5 z6 z7 z8 z9 z10 z11 z12 hb5
  go_upto_region 7 with fail
  have hy := World.alloc_heap_new w5 (.cells #[.string s.name, .string s.action, .string s.undo, .slice aa s.after.length ac, .int .i64 m, .int .i64 s.first, .int .i64 fa, .int .i64 lm, .int .u8 (s.note.kind : Int), .string s.note.text, .slice ka s.note.keys.length kc, .slice ba s.note.kids.length bc, .int .i64 s.note.line] 45)
  have hby : Below w5.heap.size w5 (w5.alloc (.cells #[.string s.name, .string s.action, .string s.undo, .slice aa s.after.length ac, .int .i64 m, .int .i64 s.first, .int .i64 fa, .int .i64 lm, .int .u8 (s.note.kind : Int), .string s.note.text, .slice ka s.note.keys.length kc, .slice ba s.note.kids.length bc, .int .i64 s.note.line] 45)) := (Below.refl _ _).alloc (Nat.le_refl _) _
  have HB6 := Lib.hid (bthen HB5.out (Nat.le_refl _) hby)
  have HD6 := Lib.hid (HD5.out.below hby)
  have hltX5 := (Array.getElem?_eq_some_iff.1 HX5.out).1
  have HX := Lib.hid ((hby.block _ hltX5).trans HX5.out)
  generalize (w5.alloc (.cells #[.string s.name, .string s.action, .string s.undo, .slice aa s.after.length ac, .int .i64 m, .int .i64 s.first, .int .i64 fa, .int .i64 lm, .int .u8 (s.note.kind : Int), .string s.note.text, .slice ka s.note.keys.length kc, .slice ba s.note.kids.length bc, .int .i64 s.note.line] 45)) = wz at *
  generalize w5.heap.size = Y at *
  have HY := Lib.hid hy
  have HXl := Lib.hid (Array.getElem?_eq_some_iff.1 HX.out).1
  have HYl := Lib.hid (Array.getElem?_eq_some_iff.1 HY.out).1
  clear hby hy
  go_cut [5, 6] (fun s5 s6 wx => ∃ A B ga gb : Nat, s5 = .pointer (some ⟨A, 0, none⟩) ∧ s6 = .pointer (some ⟨B, 0, none⟩) ∧ wx.heap[A]? = some (.cells #[.string { data := #[] }, .string { data := #[] }, .slice (some ⟨ga, 0, none⟩) 1 1] 24 (0, 0)) ∧ wx.heap[B]? = some (.cells #[.string { data := #[] }, .string { data := #[] }, .slice (some ⟨gb, 0, none⟩) 1 1] 24 (0, 0)) ∧ wx.heap[ga]? = some (.cells #[.string s.name, .string s.action, .string s.undo, .slice aa s.after.length ac, .int .i64 m, .int .i64 s.first, .int .i64 fa, .int .i64 lm, .int .u8 (s.note.kind : Int), .string s.note.text, .slice ka s.note.keys.length kc, .slice ba s.note.kids.length bc, .int .i64 s.note.line] 45 (0, 0)) ∧ wx.heap[gb]? = some (.cells #[.string s.name, .string s.action, .string s.undo, .slice aa s.after.length ac, .int .i64 m, .int .i64 s.first, .int .i64 fa, .int .i64 lm, .int .u8 (s.note.kind : Int), .string s.note.text, .slice ka s.note.keys.length kc, .slice ba s.note.kids.length bc, .int .i64 s.note.line] 45 (0, 0)) ∧ Below wz.heap.size wz wx)
  case first =>
    refine E_region (S := (fun W => Below wz.heap.size wz W)) 9 (by kernel_rfl) (Below.refl _ _).drew (fun _ _ _ _ _ h => h) (fun Q' hQ hK' hHeld => ?_)
    have HB0 : Hid (Below wz.heap.size wz wz.drew) := Lib.hid hHeld
    have HZ0 : Hid (wz.heap.size ≤ wz.drew.heap.size) := Lib.hid (Nat.le_refl _)
    generalize wz.drew = v0 at *
    refine E_take hQ hHeld 0 (v := ?tv1) rfl rfl (by kernel_rfl) (by kernel_rfl) (by kernel_rfl) (by kernel_rfl) (by kernel_rfl) (by rfl) ?ty1 ?tr1
    case ty1 => (intro w hSw; (try dsimp only at hSw); obtain ⟨z0, z1, z2, z3, z4, z5, z6, z7, z8, z9, z10, z11, z12⟩ := cells13q ((hSw.block X HXl.out).trans HX.out); go_simp; (try with_reducible rfl))
    (try simp only [Act.put, List.setIfInBounds_toArray, List.set_cons_zero, List.set_cons_succ])
    refine E_take hQ hHeld 3 (v := ?tv2) rfl rfl (by kernel_rfl) (by kernel_rfl) (by kernel_rfl) (by kernel_rfl) (by kernel_rfl) (by rfl) ?ty2 ?tr2
    case ty2 => (intro w hSw; (try dsimp only at hSw); obtain ⟨z0, z1, z2, z3, z4, z5, z6, z7, z8, z9, z10, z11, z12⟩ := cells13q ((hSw.block Y HYl.out).trans HY.out); go_simp; (try with_reducible rfl))
    (try simp only [Act.put, List.setIfInBounds_toArray, List.set_cons_zero, List.set_cons_succ])
    refine E_pick [1, 4, 6, 7] (by kernel_rfl) (by decide) ?_
    intro i hi
    simp only [List.mem_cons, List.not_mem_nil, or_false] at hi
    rcases hi with rfl | rfl | rfl | rfl
    · refine ⟨_, rfl, by rfl, fun K hK => ?_⟩
      go_simp
      refine alloc_step HB0.out HZ0.out (fun v1 hb hs hf hk => ?_)
      have HB1 := Lib.hid hb; have HZ1 := Lib.hid (below_size hb); have HS1 := Lib.hid hs; have F1 := Lib.hid hf
      clear hb hf hs hk
      (try simp only [Act.put, List.setIfInBounds_toArray, List.set_cons_zero, List.set_cons_succ])
      refine hK.out _ _ (fun _ _ => HB1.out) (fun hHeld' => ?_)
      replace hHeld := hHeld' (by rfl) (by decide)
      clear hK hHeld'
      (try simp only [Act.put, List.setIfInBounds_toArray, List.set_cons_zero, List.set_cons_succ])
      refine E_take0 hQ (fun _ => hHeld) 2 (v := ?tv3) rfl rfl (by kernel_rfl) (by kernel_rfl) (by kernel_rfl) (by decide) (by rfl) ?ty3 ?tr3
      case ty3 => (intro w; go_simp; (try with_reducible rfl))
      (try simp only [Act.put, List.setIfInBounds_toArray, List.set_cons_zero, List.set_cons_succ])
      refine E_pick [4, 6, 7] (by kernel_rfl) (by decide) ?_
      intro i hi
      simp only [List.mem_cons, List.not_mem_nil, or_false] at hi
      rcases hi with rfl | rfl | rfl
      · refine ⟨_, rfl, by rfl, fun K hK => ?_⟩
        go_simp
        refine alloc_step HB1.out HZ1.out (fun v2 hb hs hf hk => ?_)
        have hf1 := hk _ _ F1.out; have HB2 := Lib.hid hb; have HZ2 := Lib.hid (below_size hb); have HS2 := Lib.hid hs; have F4 := Lib.hid hf
        clear F1; have F1 := Lib.hid hf1; clear hf1; clear hb hf hs hk
        (try simp only [Act.put, List.setIfInBounds_toArray, List.set_cons_zero, List.set_cons_succ])
        refine hK.out _ _ (fun _ _ => HB2.out) (fun hHeld' => ?_)
        replace hHeld := hHeld' (by rfl) (by decide)
        clear hK hHeld'
        (try simp only [Act.put, List.setIfInBounds_toArray, List.set_cons_zero, List.set_cons_succ])
        refine E_take0 hQ (fun _ => hHeld) 5 (v := ?tv4) rfl rfl (by kernel_rfl) (by kernel_rfl) (by kernel_rfl) (by decide) (by rfl) ?ty4 ?tr4
        case ty4 => (intro w; go_simp; (try with_reducible rfl))
        (try simp only [Act.put, List.setIfInBounds_toArray, List.set_cons_zero, List.set_cons_succ])
        refine E_pick [6, 7] (by kernel_rfl) (by decide) ?_
        intro i hi
        simp only [List.mem_cons, List.not_mem_nil, or_false] at hi
        rcases hi with rfl | rfl
        · refine ⟨_, rfl, by rfl, fun K hK => ?_⟩
          go_simp
          refine alloc_step HB2.out HZ2.out (fun v3 hb hs hf hk => ?_)
          have hf1 := hk _ _ F1.out; have hf4 := hk _ _ F4.out; have HB3 := Lib.hid hb; have HZ3 := Lib.hid (below_size hb); have HS3 := Lib.hid hs; have F6 := Lib.hid hf
          clear F1; have F1 := Lib.hid hf1; clear hf1; clear F4; have F4 := Lib.hid hf4; clear hf4; clear hb hf hs hk
          (try simp only [Act.put, List.setIfInBounds_toArray, List.set_cons_zero, List.set_cons_succ])
          refine hK.out _ _ (fun _ _ => HB3.out) (fun hHeld' => ?_)
          replace hHeld := hHeld' (by rfl) (by decide)
          clear hK hHeld'
          (try simp only [Act.put, List.setIfInBounds_toArray, List.set_cons_zero, List.set_cons_succ])
          refine E_one 7 (by kernel_rfl) rfl (by rfl) (fun K hK => ?_)
          go_simp
          refine alloc_step HB3.out HZ3.out (fun v4 hb hs hf hk => ?_)
          have hf1 := hk _ _ F1.out; have hf4 := hk _ _ F4.out; have hf6 := hk _ _ F6.out; have HB4 := Lib.hid hb; have HZ4 := Lib.hid (below_size hb); have HS4 := Lib.hid hs; have F7 := Lib.hid hf
          clear F1; have F1 := Lib.hid hf1; clear hf1; clear F4; have F4 := Lib.hid hf4; clear hf4; clear F6; have F6 := Lib.hid hf6; clear hf6; clear hb hf hs hk
          (try simp only [Act.put, List.setIfInBounds_toArray, List.set_cons_zero, List.set_cons_succ])
          refine hK.out _ _ (fun _ _ => HB4.out) (fun hHeld' => ?_)
          replace hHeld := hHeld' (by rfl) (by decide)
          clear hK hHeld'
          (try simp only [Act.put, List.setIfInBounds_toArray, List.set_cons_zero, List.set_cons_succ])
          refine E_one 8 (by kernel_rfl) rfl (by rfl) (fun K hK => ?_)
          obtain ⟨sc0, sc1, sc2, sf0, sf1, sf2⟩ := cells3h F6.out
          go_simp
          clear sc0 sc1 sc2 sf0 sf1 sf2
          refine store_step HB4.out HZ2.out F6.out (fun v5 hb hsz hf ho => ?_)
          have hf1 := (ho v0.heap.size (by have := HS4.out; have := HS3.out; have := HS2.out; have := HS1.out; omega)).trans F1.out; have hf4 := (ho v1.heap.size (by have := HS4.out; have := HS3.out; have := HS2.out; have := HS1.out; omega)).trans F4.out; have hf7 := (ho v3.heap.size (by have := HS4.out; have := HS3.out; have := HS2.out; have := HS1.out; omega)).trans F7.out; have HB5 := Lib.hid hb; have HZ5 := Lib.hid (below_size hb); have HS5 := Lib.hid hsz; clear F6; have F6 := Lib.hid hf
          clear F1; have F1 := Lib.hid hf1; clear hf1; clear F4; have F4 := Lib.hid hf4; clear hf4; clear F7; have F7 := Lib.hid hf7; clear hf7; clear hb hf ho hsz
          (try simp only [Act.put, List.setIfInBounds_toArray, List.set_cons_zero, List.set_cons_succ])
          refine hK.out _ _ (fun _ _ => HB5.out) (fun hHeld' => ?_)
          replace hHeld := hHeld' (by rfl) (by decide)
          clear hK hHeld'
          (try simp only [Act.put, List.setIfInBounds_toArray, List.set_cons_zero, List.set_cons_succ])
          refine E_one 9 (by kernel_rfl) rfl (by rfl) (fun K hK => ?_)
          obtain ⟨sc0, sc1, sc2, sf0, sf1, sf2⟩ := cells3h F7.out
          go_simp
          clear sc0 sc1 sc2 sf0 sf1 sf2
          refine store_step HB5.out HZ3.out F7.out (fun v6 hb hsz hf ho => ?_)
          have hf1 := (ho v0.heap.size (by have := HS5.out; have := HS4.out; have := HS3.out; have := HS2.out; have := HS1.out; omega)).trans F1.out; have hf4 := (ho v1.heap.size (by have := HS5.out; have := HS4.out; have := HS3.out; have := HS2.out; have := HS1.out; omega)).trans F4.out; have hf6 := (ho v2.heap.size (by have := HS5.out; have := HS4.out; have := HS3.out; have := HS2.out; have := HS1.out; omega)).trans F6.out; have HB6 := Lib.hid hb; have HZ6 := Lib.hid (below_size hb); have HS6 := Lib.hid hsz; clear F7; have F7 := Lib.hid hf
          clear F1; have F1 := Lib.hid hf1; clear hf1; clear F4; have F4 := Lib.hid hf4; clear hf4; clear F6; have F6 := Lib.hid hf6; clear hf6; clear hb hf ho hsz
          (try simp only [Act.put, List.setIfInBounds_toArray, List.set_cons_zero, List.set_cons_succ])
          refine hK.out _ _ (fun _ h => absurd rfl h) (fun _ => ?_)
          clear hK hHeld
          (try simp only [Act.put, List.setIfInBounds_toArray, List.set_cons_zero, List.set_cons_succ])
          refine E_done (by kernel_rfl) ?_ _
          refine hK'.out _ _ ?_
          go_wp2_with fail
          go_meet
          exact ⟨_, _, _, _, rfl, rfl, F6.out, F7.out, F1.out, F4.out, HB6.out⟩
        · refine ⟨_, rfl, by rfl, fun K hK => ?_⟩
          go_simp
          refine alloc_step HB2.out HZ2.out (fun v7 hb hs hf hk => ?_)
          have hf1 := hk _ _ F1.out; have hf4 := hk _ _ F4.out; have HB7 := Lib.hid hb; have HZ7 := Lib.hid (below_size hb); have HS7 := Lib.hid hs; have F7 := Lib.hid hf
          clear F1; have F1 := Lib.hid hf1; clear hf1; clear F4; have F4 := Lib.hid hf4; clear hf4; clear hb hf hs hk
          (try simp only [Act.put, List.setIfInBounds_toArray, List.set_cons_zero, List.set_cons_succ])
          refine hK.out _ _ (fun _ _ => HB7.out) (fun hHeld' => ?_)
          replace hHeld := hHeld' (by rfl) (by decide)
          clear hK hHeld'
          (try simp only [Act.put, List.setIfInBounds_toArray, List.set_cons_zero, List.set_cons_succ])
          refine E_one 6 (by kernel_rfl) rfl (by rfl) (fun K hK => ?_)
          go_simp
          refine alloc_step HB7.out HZ7.out (fun v8 hb hs hf hk => ?_)
          have hf1 := hk _ _ F1.out; have hf4 := hk _ _ F4.out; have hf7 := hk _ _ F7.out; have HB8 := Lib.hid hb; have HZ8 := Lib.hid (below_size hb); have HS8 := Lib.hid hs; have F6 := Lib.hid hf
          clear F1; have F1 := Lib.hid hf1; clear hf1; clear F4; have F4 := Lib.hid hf4; clear hf4; clear F7; have F7 := Lib.hid hf7; clear hf7; clear hb hf hs hk
          (try simp only [Act.put, List.setIfInBounds_toArray, List.set_cons_zero, List.set_cons_succ])
          refine hK.out _ _ (fun _ _ => HB8.out) (fun hHeld' => ?_)
          replace hHeld := hHeld' (by rfl) (by decide)
          clear hK hHeld'
          (try simp only [Act.put, List.setIfInBounds_toArray, List.set_cons_zero, List.set_cons_succ])
          refine E_one 8 (by kernel_rfl) rfl (by rfl) (fun K hK => ?_)
          obtain ⟨sc0, sc1, sc2, sf0, sf1, sf2⟩ := cells3h F6.out
          go_simp
          clear sc0 sc1 sc2 sf0 sf1 sf2
          refine store_step HB8.out HZ7.out F6.out (fun v9 hb hsz hf ho => ?_)
          have hf1 := (ho v0.heap.size (by have := HS8.out; have := HS7.out; have := HS2.out; have := HS1.out; omega)).trans F1.out; have hf4 := (ho v1.heap.size (by have := HS8.out; have := HS7.out; have := HS2.out; have := HS1.out; omega)).trans F4.out; have hf7 := (ho v2.heap.size (by have := HS8.out; have := HS7.out; have := HS2.out; have := HS1.out; omega)).trans F7.out; have HB9 := Lib.hid hb; have HZ9 := Lib.hid (below_size hb); have HS9 := Lib.hid hsz; clear F6; have F6 := Lib.hid hf
          clear F1; have F1 := Lib.hid hf1; clear hf1; clear F4; have F4 := Lib.hid hf4; clear hf4; clear F7; have F7 := Lib.hid hf7; clear hf7; clear hb hf ho hsz
          (try simp only [Act.put, List.setIfInBounds_toArray, List.set_cons_zero, List.set_cons_succ])
          refine hK.out _ _ (fun _ _ => HB9.out) (fun hHeld' => ?_)
          replace hHeld := hHeld' (by rfl) (by decide)
          clear hK hHeld'
          (try simp only [Act.put, List.setIfInBounds_toArray, List.set_cons_zero, List.set_cons_succ])
          refine E_one 9 (by kernel_rfl) rfl (by rfl) (fun K hK => ?_)
          obtain ⟨sc0, sc1, sc2, sf0, sf1, sf2⟩ := cells3h F7.out
          go_simp
          clear sc0 sc1 sc2 sf0 sf1 sf2
          refine store_step HB9.out HZ2.out F7.out (fun v10 hb hsz hf ho => ?_)
          have hf1 := (ho v0.heap.size (by have := HS9.out; have := HS8.out; have := HS7.out; have := HS2.out; have := HS1.out; omega)).trans F1.out; have hf4 := (ho v1.heap.size (by have := HS9.out; have := HS8.out; have := HS7.out; have := HS2.out; have := HS1.out; omega)).trans F4.out; have hf6 := (ho v7.heap.size (by have := HS9.out; have := HS8.out; have := HS7.out; have := HS2.out; have := HS1.out; omega)).trans F6.out; have HB10 := Lib.hid hb; have HZ10 := Lib.hid (below_size hb); have HS10 := Lib.hid hsz; clear F7; have F7 := Lib.hid hf
          clear F1; have F1 := Lib.hid hf1; clear hf1; clear F4; have F4 := Lib.hid hf4; clear hf4; clear F6; have F6 := Lib.hid hf6; clear hf6; clear hb hf ho hsz
          (try simp only [Act.put, List.setIfInBounds_toArray, List.set_cons_zero, List.set_cons_succ])
          refine hK.out _ _ (fun _ h => absurd rfl h) (fun _ => ?_)
          clear hK hHeld
          (try simp only [Act.put, List.setIfInBounds_toArray, List.set_cons_zero, List.set_cons_succ])
          refine E_done (by kernel_rfl) ?_ _
          refine hK'.out _ _ ?_
          go_wp2_with fail
          go_meet
          exact ⟨_, _, _, _, rfl, rfl, F6.out, F7.out, F1.out, F4.out, HB10.out⟩
      · refine ⟨_, rfl, by rfl, fun K hK => ?_⟩
        go_simp
        refine alloc_step HB1.out HZ1.out (fun v11 hb hs hf hk => ?_)
        have hf1 := hk _ _ F1.out; have HB11 := Lib.hid hb; have HZ11 := Lib.hid (below_size hb); have HS11 := Lib.hid hs; have F6 := Lib.hid hf
        clear F1; have F1 := Lib.hid hf1; clear hf1; clear hb hf hs hk
        (try simp only [Act.put, List.setIfInBounds_toArray, List.set_cons_zero, List.set_cons_succ])
        refine hK.out _ _ (fun _ _ => HB11.out) (fun hHeld' => ?_)
        replace hHeld := hHeld' (by rfl) (by decide)
        clear hK hHeld'
        (try simp only [Act.put, List.setIfInBounds_toArray, List.set_cons_zero, List.set_cons_succ])
        refine E_pick [4, 7] (by kernel_rfl) (by decide) ?_
        intro i hi
        simp only [List.mem_cons, List.not_mem_nil, or_false] at hi
        rcases hi with rfl | rfl
        · refine ⟨_, rfl, by rfl, fun K hK => ?_⟩
          go_simp
          refine alloc_step HB11.out HZ11.out (fun v12 hb hs hf hk => ?_)
          have hf1 := hk _ _ F1.out; have hf6 := hk _ _ F6.out; have HB12 := Lib.hid hb; have HZ12 := Lib.hid (below_size hb); have HS12 := Lib.hid hs; have F4 := Lib.hid hf
          clear F1; have F1 := Lib.hid hf1; clear hf1; clear F6; have F6 := Lib.hid hf6; clear hf6; clear hb hf hs hk
          (try simp only [Act.put, List.setIfInBounds_toArray, List.set_cons_zero, List.set_cons_succ])
          refine hK.out _ _ (fun _ _ => HB12.out) (fun hHeld' => ?_)
          replace hHeld := hHeld' (by rfl) (by decide)
          clear hK hHeld'
          (try simp only [Act.put, List.setIfInBounds_toArray, List.set_cons_zero, List.set_cons_succ])
          refine E_take0 hQ (fun _ => hHeld) 5 (v := ?tv5) rfl rfl (by kernel_rfl) (by kernel_rfl) (by kernel_rfl) (by decide) (by rfl) ?ty5 ?tr5
          case ty5 => (intro w; go_simp; (try with_reducible rfl))
          (try simp only [Act.put, List.setIfInBounds_toArray, List.set_cons_zero, List.set_cons_succ])
          refine E_one 7 (by kernel_rfl) rfl (by rfl) (fun K hK => ?_)
          go_simp
          refine alloc_step HB12.out HZ12.out (fun v13 hb hs hf hk => ?_)
          have hf1 := hk _ _ F1.out; have hf6 := hk _ _ F6.out; have hf4 := hk _ _ F4.out; have HB13 := Lib.hid hb; have HZ13 := Lib.hid (below_size hb); have HS13 := Lib.hid hs; have F7 := Lib.hid hf
          clear F1; have F1 := Lib.hid hf1; clear hf1; clear F6; have F6 := Lib.hid hf6; clear hf6; clear F4; have F4 := Lib.hid hf4; clear hf4; clear hb hf hs hk
          (try simp only [Act.put, List.setIfInBounds_toArray, List.set_cons_zero, List.set_cons_succ])
          refine hK.out _ _ (fun _ _ => HB13.out) (fun hHeld' => ?_)
          replace hHeld := hHeld' (by rfl) (by decide)
          clear hK hHeld'
          (try simp only [Act.put, List.setIfInBounds_toArray, List.set_cons_zero, List.set_cons_succ])
          refine E_one 8 (by kernel_rfl) rfl (by rfl) (fun K hK => ?_)
          obtain ⟨sc0, sc1, sc2, sf0, sf1, sf2⟩ := cells3h F6.out
          go_simp
          clear sc0 sc1 sc2 sf0 sf1 sf2
          refine store_step HB13.out HZ1.out F6.out (fun v14 hb hsz hf ho => ?_)
          have hf1 := (ho v0.heap.size (by have := HS13.out; have := HS12.out; have := HS11.out; have := HS1.out; omega)).trans F1.out; have hf4 := (ho v11.heap.size (by have := HS13.out; have := HS12.out; have := HS11.out; have := HS1.out; omega)).trans F4.out; have hf7 := (ho v12.heap.size (by have := HS13.out; have := HS12.out; have := HS11.out; have := HS1.out; omega)).trans F7.out; have HB14 := Lib.hid hb; have HZ14 := Lib.hid (below_size hb); have HS14 := Lib.hid hsz; clear F6; have F6 := Lib.hid hf
          clear F1; have F1 := Lib.hid hf1; clear hf1; clear F4; have F4 := Lib.hid hf4; clear hf4; clear F7; have F7 := Lib.hid hf7; clear hf7; clear hb hf ho hsz
          (try simp only [Act.put, List.setIfInBounds_toArray, List.set_cons_zero, List.set_cons_succ])
          refine hK.out _ _ (fun _ _ => HB14.out) (fun hHeld' => ?_)
          replace hHeld := hHeld' (by rfl) (by decide)
          clear hK hHeld'
          (try simp only [Act.put, List.setIfInBounds_toArray, List.set_cons_zero, List.set_cons_succ])
          refine E_one 9 (by kernel_rfl) rfl (by rfl) (fun K hK => ?_)
          obtain ⟨sc0, sc1, sc2, sf0, sf1, sf2⟩ := cells3h F7.out
          go_simp
          clear sc0 sc1 sc2 sf0 sf1 sf2
          refine store_step HB14.out HZ12.out F7.out (fun v15 hb hsz hf ho => ?_)
          have hf1 := (ho v0.heap.size (by have := HS14.out; have := HS13.out; have := HS12.out; have := HS11.out; have := HS1.out; omega)).trans F1.out; have hf6 := (ho v1.heap.size (by have := HS14.out; have := HS13.out; have := HS12.out; have := HS11.out; have := HS1.out; omega)).trans F6.out; have hf4 := (ho v11.heap.size (by have := HS14.out; have := HS13.out; have := HS12.out; have := HS11.out; have := HS1.out; omega)).trans F4.out; have HB15 := Lib.hid hb; have HZ15 := Lib.hid (below_size hb); have HS15 := Lib.hid hsz; clear F7; have F7 := Lib.hid hf
          clear F1; have F1 := Lib.hid hf1; clear hf1; clear F6; have F6 := Lib.hid hf6; clear hf6; clear F4; have F4 := Lib.hid hf4; clear hf4; clear hb hf ho hsz
          (try simp only [Act.put, List.setIfInBounds_toArray, List.set_cons_zero, List.set_cons_succ])
          refine hK.out _ _ (fun _ h => absurd rfl h) (fun _ => ?_)
          clear hK hHeld
          (try simp only [Act.put, List.setIfInBounds_toArray, List.set_cons_zero, List.set_cons_succ])
          refine E_done (by kernel_rfl) ?_ _
          refine hK'.out _ _ ?_
          go_wp2_with fail
          go_meet
          exact ⟨_, _, _, _, rfl, rfl, F6.out, F7.out, F1.out, F4.out, HB15.out⟩
        · refine ⟨_, rfl, by rfl, fun K hK => ?_⟩
          go_simp
          refine alloc_step HB11.out HZ11.out (fun v16 hb hs hf hk => ?_)
          have hf1 := hk _ _ F1.out; have hf6 := hk _ _ F6.out; have HB16 := Lib.hid hb; have HZ16 := Lib.hid (below_size hb); have HS16 := Lib.hid hs; have F7 := Lib.hid hf
          clear F1; have F1 := Lib.hid hf1; clear hf1; clear F6; have F6 := Lib.hid hf6; clear hf6; clear hb hf hs hk
          (try simp only [Act.put, List.setIfInBounds_toArray, List.set_cons_zero, List.set_cons_succ])
          refine hK.out _ _ (fun _ _ => HB16.out) (fun hHeld' => ?_)
          replace hHeld := hHeld' (by rfl) (by decide)
          clear hK hHeld'
          (try simp only [Act.put, List.setIfInBounds_toArray, List.set_cons_zero, List.set_cons_succ])
          refine E_pick [4, 8] (by kernel_rfl) (by decide) ?_
          intro i hi
          simp only [List.mem_cons, List.not_mem_nil, or_false] at hi
          rcases hi with rfl | rfl
          · refine ⟨_, rfl, by rfl, fun K hK => ?_⟩
            go_simp
            refine alloc_step HB16.out HZ16.out (fun v17 hb hs hf hk => ?_)
            have hf1 := hk _ _ F1.out; have hf6 := hk _ _ F6.out; have hf7 := hk _ _ F7.out; have HB17 := Lib.hid hb; have HZ17 := Lib.hid (below_size hb); have HS17 := Lib.hid hs; have F4 := Lib.hid hf
            clear F1; have F1 := Lib.hid hf1; clear hf1; clear F6; have F6 := Lib.hid hf6; clear hf6; clear F7; have F7 := Lib.hid hf7; clear hf7; clear hb hf hs hk
            (try simp only [Act.put, List.setIfInBounds_toArray, List.set_cons_zero, List.set_cons_succ])
            refine hK.out _ _ (fun _ _ => HB17.out) (fun hHeld' => ?_)
            replace hHeld := hHeld' (by rfl) (by decide)
            clear hK hHeld'
            (try simp only [Act.put, List.setIfInBounds_toArray, List.set_cons_zero, List.set_cons_succ])
            refine E_take0 hQ (fun _ => hHeld) 5 (v := ?tv6) rfl rfl (by kernel_rfl) (by kernel_rfl) (by kernel_rfl) (by decide) (by rfl) ?ty6 ?tr6
            case ty6 => (intro w; go_simp; (try with_reducible rfl))
            (try simp only [Act.put, List.setIfInBounds_toArray, List.set_cons_zero, List.set_cons_succ])
            refine E_one 8 (by kernel_rfl) rfl (by rfl) (fun K hK => ?_)
            obtain ⟨sc0, sc1, sc2, sf0, sf1, sf2⟩ := cells3h F6.out
            go_simp
            clear sc0 sc1 sc2 sf0 sf1 sf2
            refine store_step HB17.out HZ1.out F6.out (fun v18 hb hsz hf ho => ?_)
            have hf1 := (ho v0.heap.size (by have := HS17.out; have := HS16.out; have := HS11.out; have := HS1.out; omega)).trans F1.out; have hf7 := (ho v11.heap.size (by have := HS17.out; have := HS16.out; have := HS11.out; have := HS1.out; omega)).trans F7.out; have hf4 := (ho v16.heap.size (by have := HS17.out; have := HS16.out; have := HS11.out; have := HS1.out; omega)).trans F4.out; have HB18 := Lib.hid hb; have HZ18 := Lib.hid (below_size hb); have HS18 := Lib.hid hsz; clear F6; have F6 := Lib.hid hf
            clear F1; have F1 := Lib.hid hf1; clear hf1; clear F7; have F7 := Lib.hid hf7; clear hf7; clear F4; have F4 := Lib.hid hf4; clear hf4; clear hb hf ho hsz
            (try simp only [Act.put, List.setIfInBounds_toArray, List.set_cons_zero, List.set_cons_succ])
            refine hK.out _ _ (fun _ _ => HB18.out) (fun hHeld' => ?_)
            replace hHeld := hHeld' (by rfl) (by decide)
            clear hK hHeld'
            (try simp only [Act.put, List.setIfInBounds_toArray, List.set_cons_zero, List.set_cons_succ])
            refine E_one 9 (by kernel_rfl) rfl (by rfl) (fun K hK => ?_)
            obtain ⟨sc0, sc1, sc2, sf0, sf1, sf2⟩ := cells3h F7.out
            go_simp
            clear sc0 sc1 sc2 sf0 sf1 sf2
            refine store_step HB18.out HZ11.out F7.out (fun v19 hb hsz hf ho => ?_)
            have hf1 := (ho v0.heap.size (by have := HS18.out; have := HS17.out; have := HS16.out; have := HS11.out; have := HS1.out; omega)).trans F1.out; have hf6 := (ho v1.heap.size (by have := HS18.out; have := HS17.out; have := HS16.out; have := HS11.out; have := HS1.out; omega)).trans F6.out; have hf4 := (ho v16.heap.size (by have := HS18.out; have := HS17.out; have := HS16.out; have := HS11.out; have := HS1.out; omega)).trans F4.out; have HB19 := Lib.hid hb; have HZ19 := Lib.hid (below_size hb); have HS19 := Lib.hid hsz; clear F7; have F7 := Lib.hid hf
            clear F1; have F1 := Lib.hid hf1; clear hf1; clear F6; have F6 := Lib.hid hf6; clear hf6; clear F4; have F4 := Lib.hid hf4; clear hf4; clear hb hf ho hsz
            (try simp only [Act.put, List.setIfInBounds_toArray, List.set_cons_zero, List.set_cons_succ])
            refine hK.out _ _ (fun _ h => absurd rfl h) (fun _ => ?_)
            clear hK hHeld
            (try simp only [Act.put, List.setIfInBounds_toArray, List.set_cons_zero, List.set_cons_succ])
            refine E_done (by kernel_rfl) ?_ _
            refine hK'.out _ _ ?_
            go_wp2_with fail
            go_meet
            exact ⟨_, _, _, _, rfl, rfl, F6.out, F7.out, F1.out, F4.out, HB19.out⟩
          · refine ⟨_, rfl, by rfl, fun K hK => ?_⟩
            obtain ⟨sc0, sc1, sc2, sf0, sf1, sf2⟩ := cells3h F6.out
            go_simp
            clear sc0 sc1 sc2 sf0 sf1 sf2
            refine store_step HB16.out HZ1.out F6.out (fun v20 hb hsz hf ho => ?_)
            have hf1 := (ho v0.heap.size (by have := HS16.out; have := HS11.out; have := HS1.out; omega)).trans F1.out; have hf7 := (ho v11.heap.size (by have := HS16.out; have := HS11.out; have := HS1.out; omega)).trans F7.out; have HB20 := Lib.hid hb; have HZ20 := Lib.hid (below_size hb); have HS20 := Lib.hid hsz; clear F6; have F6 := Lib.hid hf
            clear F1; have F1 := Lib.hid hf1; clear hf1; clear F7; have F7 := Lib.hid hf7; clear hf7; clear hb hf ho hsz
            (try simp only [Act.put, List.setIfInBounds_toArray, List.set_cons_zero, List.set_cons_succ])
            refine hK.out _ _ (fun _ _ => HB20.out) (fun hHeld' => ?_)
            replace hHeld := hHeld' (by rfl) (by decide)
            clear hK hHeld'
            (try simp only [Act.put, List.setIfInBounds_toArray, List.set_cons_zero, List.set_cons_succ])
            refine E_one 4 (by kernel_rfl) rfl (by rfl) (fun K hK => ?_)
            go_simp
            refine alloc_step HB20.out HZ20.out (fun v21 hb hs hf hk => ?_)
            have hf1 := hk _ _ F1.out; have hf6 := hk _ _ F6.out; have hf7 := hk _ _ F7.out; have HB21 := Lib.hid hb; have HZ21 := Lib.hid (below_size hb); have HS21 := Lib.hid hs; have F4 := Lib.hid hf
            clear F1; have F1 := Lib.hid hf1; clear hf1; clear F6; have F6 := Lib.hid hf6; clear hf6; clear F7; have F7 := Lib.hid hf7; clear hf7; clear hb hf hs hk
            (try simp only [Act.put, List.setIfInBounds_toArray, List.set_cons_zero, List.set_cons_succ])
            refine hK.out _ _ (fun _ _ => HB21.out) (fun hHeld' => ?_)
            replace hHeld := hHeld' (by rfl) (by decide)
            clear hK hHeld'
            (try simp only [Act.put, List.setIfInBounds_toArray, List.set_cons_zero, List.set_cons_succ])
            refine E_take0 hQ (fun _ => hHeld) 5 (v := ?tv7) rfl rfl (by kernel_rfl) (by kernel_rfl) (by kernel_rfl) (by decide) (by rfl) ?ty7 ?tr7
            case ty7 => (intro w; go_simp; (try with_reducible rfl))
            (try simp only [Act.put, List.setIfInBounds_toArray, List.set_cons_zero, List.set_cons_succ])
            refine E_one 9 (by kernel_rfl) rfl (by rfl) (fun K hK => ?_)
            obtain ⟨sc0, sc1, sc2, sf0, sf1, sf2⟩ := cells3h F7.out
            go_simp
            clear sc0 sc1 sc2 sf0 sf1 sf2
            refine store_step HB21.out HZ11.out F7.out (fun v22 hb hsz hf ho => ?_)
            have hf1 := (ho v0.heap.size (by have := HS21.out; have := HS20.out; have := HS16.out; have := HS11.out; have := HS1.out; omega)).trans F1.out; have hf6 := (ho v1.heap.size (by have := HS21.out; have := HS20.out; have := HS16.out; have := HS11.out; have := HS1.out; omega)).trans F6.out; have hf4 := (ho v20.heap.size (by have := HS21.out; have := HS20.out; have := HS16.out; have := HS11.out; have := HS1.out; omega)).trans F4.out; have HB22 := Lib.hid hb; have HZ22 := Lib.hid (below_size hb); have HS22 := Lib.hid hsz; clear F7; have F7 := Lib.hid hf
            clear F1; have F1 := Lib.hid hf1; clear hf1; clear F6; have F6 := Lib.hid hf6; clear hf6; clear F4; have F4 := Lib.hid hf4; clear hf4; clear hb hf ho hsz
            (try simp only [Act.put, List.setIfInBounds_toArray, List.set_cons_zero, List.set_cons_succ])
            refine hK.out _ _ (fun _ h => absurd rfl h) (fun _ => ?_)
            clear hK hHeld
            (try simp only [Act.put, List.setIfInBounds_toArray, List.set_cons_zero, List.set_cons_succ])
            refine E_done (by kernel_rfl) ?_ _
            refine hK'.out _ _ ?_
            go_wp2_with fail
            go_meet
            exact ⟨_, _, _, _, rfl, rfl, F6.out, F7.out, F1.out, F4.out, HB22.out⟩
      · refine ⟨_, rfl, by rfl, fun K hK => ?_⟩
        go_simp
        refine alloc_step HB1.out HZ1.out (fun v23 hb hs hf hk => ?_)
        have hf1 := hk _ _ F1.out; have HB23 := Lib.hid hb; have HZ23 := Lib.hid (below_size hb); have HS23 := Lib.hid hs; have F7 := Lib.hid hf
        clear F1; have F1 := Lib.hid hf1; clear hf1; clear hb hf hs hk
        (try simp only [Act.put, List.setIfInBounds_toArray, List.set_cons_zero, List.set_cons_succ])
        refine hK.out _ _ (fun _ _ => HB23.out) (fun hHeld' => ?_)
        replace hHeld := hHeld' (by rfl) (by decide)
        clear hK hHeld'
        (try simp only [Act.put, List.setIfInBounds_toArray, List.set_cons_zero, List.set_cons_succ])
        refine E_pick [4, 6] (by kernel_rfl) (by decide) ?_
        intro i hi
        simp only [List.mem_cons, List.not_mem_nil, or_false] at hi
        rcases hi with rfl | rfl
        · refine ⟨_, rfl, by rfl, fun K hK => ?_⟩
          go_simp
          refine alloc_step HB23.out HZ23.out (fun v24 hb hs hf hk => ?_)
          have hf1 := hk _ _ F1.out; have hf7 := hk _ _ F7.out; have HB24 := Lib.hid hb; have HZ24 := Lib.hid (below_size hb); have HS24 := Lib.hid hs; have F4 := Lib.hid hf
          clear F1; have F1 := Lib.hid hf1; clear hf1; clear F7; have F7 := Lib.hid hf7; clear hf7; clear hb hf hs hk
          (try simp only [Act.put, List.setIfInBounds_toArray, List.set_cons_zero, List.set_cons_succ])
          refine hK.out _ _ (fun _ _ => HB24.out) (fun hHeld' => ?_)
          replace hHeld := hHeld' (by rfl) (by decide)
          clear hK hHeld'
          (try simp only [Act.put, List.setIfInBounds_toArray, List.set_cons_zero, List.set_cons_succ])
          refine E_take0 hQ (fun _ => hHeld) 5 (v := ?tv8) rfl rfl (by kernel_rfl) (by kernel_rfl) (by kernel_rfl) (by decide) (by rfl) ?ty8 ?tr8
          case ty8 => (intro w; go_simp; (try with_reducible rfl))
          (try simp only [Act.put, List.setIfInBounds_toArray, List.set_cons_zero, List.set_cons_succ])
          refine E_one 6 (by kernel_rfl) rfl (by rfl) (fun K hK => ?_)
          go_simp
          refine alloc_step HB24.out HZ24.out (fun v25 hb hs hf hk => ?_)
          have hf1 := hk _ _ F1.out; have hf7 := hk _ _ F7.out; have hf4 := hk _ _ F4.out; have HB25 := Lib.hid hb; have HZ25 := Lib.hid (below_size hb); have HS25 := Lib.hid hs; have F6 := Lib.hid hf
          clear F1; have F1 := Lib.hid hf1; clear hf1; clear F7; have F7 := Lib.hid hf7; clear hf7; clear F4; have F4 := Lib.hid hf4; clear hf4; clear hb hf hs hk
          (try simp only [Act.put, List.setIfInBounds_toArray, List.set_cons_zero, List.set_cons_succ])
          refine hK.out _ _ (fun _ _ => HB25.out) (fun hHeld' => ?_)
          replace hHeld := hHeld' (by rfl) (by decide)
          clear hK hHeld'
          (try simp only [Act.put, List.setIfInBounds_toArray, List.set_cons_zero, List.set_cons_succ])
          refine E_one 8 (by kernel_rfl) rfl (by rfl) (fun K hK => ?_)
          obtain ⟨sc0, sc1, sc2, sf0, sf1, sf2⟩ := cells3h F6.out
          go_simp
          clear sc0 sc1 sc2 sf0 sf1 sf2
          refine store_step HB25.out HZ24.out F6.out (fun v26 hb hsz hf ho => ?_)
          have hf1 := (ho v0.heap.size (by have := HS25.out; have := HS24.out; have := HS23.out; have := HS1.out; omega)).trans F1.out; have hf7 := (ho v1.heap.size (by have := HS25.out; have := HS24.out; have := HS23.out; have := HS1.out; omega)).trans F7.out; have hf4 := (ho v23.heap.size (by have := HS25.out; have := HS24.out; have := HS23.out; have := HS1.out; omega)).trans F4.out; have HB26 := Lib.hid hb; have HZ26 := Lib.hid (below_size hb); have HS26 := Lib.hid hsz; clear F6; have F6 := Lib.hid hf
          clear F1; have F1 := Lib.hid hf1; clear hf1; clear F7; have F7 := Lib.hid hf7; clear hf7; clear F4; have F4 := Lib.hid hf4; clear hf4; clear hb hf ho hsz
          (try simp only [Act.put, List.setIfInBounds_toArray, List.set_cons_zero, List.set_cons_succ])
          refine hK.out _ _ (fun _ _ => HB26.out) (fun hHeld' => ?_)
          replace hHeld := hHeld' (by rfl) (by decide)
          clear hK hHeld'
          (try simp only [Act.put, List.setIfInBounds_toArray, List.set_cons_zero, List.set_cons_succ])
          refine E_one 9 (by kernel_rfl) rfl (by rfl) (fun K hK => ?_)
          obtain ⟨sc0, sc1, sc2, sf0, sf1, sf2⟩ := cells3h F7.out
          go_simp
          clear sc0 sc1 sc2 sf0 sf1 sf2
          refine store_step HB26.out HZ1.out F7.out (fun v27 hb hsz hf ho => ?_)
          have hf1 := (ho v0.heap.size (by have := HS26.out; have := HS25.out; have := HS24.out; have := HS23.out; have := HS1.out; omega)).trans F1.out; have hf4 := (ho v23.heap.size (by have := HS26.out; have := HS25.out; have := HS24.out; have := HS23.out; have := HS1.out; omega)).trans F4.out; have hf6 := (ho v24.heap.size (by have := HS26.out; have := HS25.out; have := HS24.out; have := HS23.out; have := HS1.out; omega)).trans F6.out; have HB27 := Lib.hid hb; have HZ27 := Lib.hid (below_size hb); have HS27 := Lib.hid hsz; clear F7; have F7 := Lib.hid hf
          clear F1; have F1 := Lib.hid hf1; clear hf1; clear F4; have F4 := Lib.hid hf4; clear hf4; clear F6; have F6 := Lib.hid hf6; clear hf6; clear hb hf ho hsz
          (try simp only [Act.put, List.setIfInBounds_toArray, List.set_cons_zero, List.set_cons_succ])
          refine hK.out _ _ (fun _ h => absurd rfl h) (fun _ => ?_)
          clear hK hHeld
          (try simp only [Act.put, List.setIfInBounds_toArray, List.set_cons_zero, List.set_cons_succ])
          refine E_done (by kernel_rfl) ?_ _
          refine hK'.out _ _ ?_
          go_wp2_with fail
          go_meet
          exact ⟨_, _, _, _, rfl, rfl, F6.out, F7.out, F1.out, F4.out, HB27.out⟩
        · refine ⟨_, rfl, by rfl, fun K hK => ?_⟩
          go_simp
          refine alloc_step HB23.out HZ23.out (fun v28 hb hs hf hk => ?_)
          have hf1 := hk _ _ F1.out; have hf7 := hk _ _ F7.out; have HB28 := Lib.hid hb; have HZ28 := Lib.hid (below_size hb); have HS28 := Lib.hid hs; have F6 := Lib.hid hf
          clear F1; have F1 := Lib.hid hf1; clear hf1; clear F7; have F7 := Lib.hid hf7; clear hf7; clear hb hf hs hk
          (try simp only [Act.put, List.setIfInBounds_toArray, List.set_cons_zero, List.set_cons_succ])
          refine hK.out _ _ (fun _ _ => HB28.out) (fun hHeld' => ?_)
          replace hHeld := hHeld' (by rfl) (by decide)
          clear hK hHeld'
          (try simp only [Act.put, List.setIfInBounds_toArray, List.set_cons_zero, List.set_cons_succ])
          refine E_pick [4, 8] (by kernel_rfl) (by decide) ?_
          intro i hi
          simp only [List.mem_cons, List.not_mem_nil, or_false] at hi
          rcases hi with rfl | rfl
          · refine ⟨_, rfl, by rfl, fun K hK => ?_⟩
            go_simp
            refine alloc_step HB28.out HZ28.out (fun v29 hb hs hf hk => ?_)
            have hf1 := hk _ _ F1.out; have hf7 := hk _ _ F7.out; have hf6 := hk _ _ F6.out; have HB29 := Lib.hid hb; have HZ29 := Lib.hid (below_size hb); have HS29 := Lib.hid hs; have F4 := Lib.hid hf
            clear F1; have F1 := Lib.hid hf1; clear hf1; clear F7; have F7 := Lib.hid hf7; clear hf7; clear F6; have F6 := Lib.hid hf6; clear hf6; clear hb hf hs hk
            (try simp only [Act.put, List.setIfInBounds_toArray, List.set_cons_zero, List.set_cons_succ])
            refine hK.out _ _ (fun _ _ => HB29.out) (fun hHeld' => ?_)
            replace hHeld := hHeld' (by rfl) (by decide)
            clear hK hHeld'
            (try simp only [Act.put, List.setIfInBounds_toArray, List.set_cons_zero, List.set_cons_succ])
            refine E_take0 hQ (fun _ => hHeld) 5 (v := ?tv9) rfl rfl (by kernel_rfl) (by kernel_rfl) (by kernel_rfl) (by decide) (by rfl) ?ty9 ?tr9
            case ty9 => (intro w; go_simp; (try with_reducible rfl))
            (try simp only [Act.put, List.setIfInBounds_toArray, List.set_cons_zero, List.set_cons_succ])
            refine E_one 8 (by kernel_rfl) rfl (by rfl) (fun K hK => ?_)
            obtain ⟨sc0, sc1, sc2, sf0, sf1, sf2⟩ := cells3h F6.out
            go_simp
            clear sc0 sc1 sc2 sf0 sf1 sf2
            refine store_step HB29.out HZ23.out F6.out (fun v30 hb hsz hf ho => ?_)
            have hf1 := (ho v0.heap.size (by have := HS29.out; have := HS28.out; have := HS23.out; have := HS1.out; omega)).trans F1.out; have hf7 := (ho v1.heap.size (by have := HS29.out; have := HS28.out; have := HS23.out; have := HS1.out; omega)).trans F7.out; have hf4 := (ho v28.heap.size (by have := HS29.out; have := HS28.out; have := HS23.out; have := HS1.out; omega)).trans F4.out; have HB30 := Lib.hid hb; have HZ30 := Lib.hid (below_size hb); have HS30 := Lib.hid hsz; clear F6; have F6 := Lib.hid hf
            clear F1; have F1 := Lib.hid hf1; clear hf1; clear F7; have F7 := Lib.hid hf7; clear hf7; clear F4; have F4 := Lib.hid hf4; clear hf4; clear hb hf ho hsz
            (try simp only [Act.put, List.setIfInBounds_toArray, List.set_cons_zero, List.set_cons_succ])
            refine hK.out _ _ (fun _ _ => HB30.out) (fun hHeld' => ?_)
            replace hHeld := hHeld' (by rfl) (by decide)
            clear hK hHeld'
            (try simp only [Act.put, List.setIfInBounds_toArray, List.set_cons_zero, List.set_cons_succ])
            refine E_one 9 (by kernel_rfl) rfl (by rfl) (fun K hK => ?_)
            obtain ⟨sc0, sc1, sc2, sf0, sf1, sf2⟩ := cells3h F7.out
            go_simp
            clear sc0 sc1 sc2 sf0 sf1 sf2
            refine store_step HB30.out HZ1.out F7.out (fun v31 hb hsz hf ho => ?_)
            have hf1 := (ho v0.heap.size (by have := HS30.out; have := HS29.out; have := HS28.out; have := HS23.out; have := HS1.out; omega)).trans F1.out; have hf6 := (ho v23.heap.size (by have := HS30.out; have := HS29.out; have := HS28.out; have := HS23.out; have := HS1.out; omega)).trans F6.out; have hf4 := (ho v28.heap.size (by have := HS30.out; have := HS29.out; have := HS28.out; have := HS23.out; have := HS1.out; omega)).trans F4.out; have HB31 := Lib.hid hb; have HZ31 := Lib.hid (below_size hb); have HS31 := Lib.hid hsz; clear F7; have F7 := Lib.hid hf
            clear F1; have F1 := Lib.hid hf1; clear hf1; clear F6; have F6 := Lib.hid hf6; clear hf6; clear F4; have F4 := Lib.hid hf4; clear hf4; clear hb hf ho hsz
            (try simp only [Act.put, List.setIfInBounds_toArray, List.set_cons_zero, List.set_cons_succ])
            refine hK.out _ _ (fun _ h => absurd rfl h) (fun _ => ?_)
            clear hK hHeld
            (try simp only [Act.put, List.setIfInBounds_toArray, List.set_cons_zero, List.set_cons_succ])
            refine E_done (by kernel_rfl) ?_ _
            refine hK'.out _ _ ?_
            go_wp2_with fail
            go_meet
            exact ⟨_, _, _, _, rfl, rfl, F6.out, F7.out, F1.out, F4.out, HB31.out⟩
          · refine ⟨_, rfl, by rfl, fun K hK => ?_⟩
            obtain ⟨sc0, sc1, sc2, sf0, sf1, sf2⟩ := cells3h F6.out
            go_simp
            clear sc0 sc1 sc2 sf0 sf1 sf2
            refine store_step HB28.out HZ23.out F6.out (fun v32 hb hsz hf ho => ?_)
            have hf1 := (ho v0.heap.size (by have := HS28.out; have := HS23.out; have := HS1.out; omega)).trans F1.out; have hf7 := (ho v1.heap.size (by have := HS28.out; have := HS23.out; have := HS1.out; omega)).trans F7.out; have HB32 := Lib.hid hb; have HZ32 := Lib.hid (below_size hb); have HS32 := Lib.hid hsz; clear F6; have F6 := Lib.hid hf
            clear F1; have F1 := Lib.hid hf1; clear hf1; clear F7; have F7 := Lib.hid hf7; clear hf7; clear hb hf ho hsz
            (try simp only [Act.put, List.setIfInBounds_toArray, List.set_cons_zero, List.set_cons_succ])
            refine hK.out _ _ (fun _ _ => HB32.out) (fun hHeld' => ?_)
            replace hHeld := hHeld' (by rfl) (by decide)
            clear hK hHeld'
            (try simp only [Act.put, List.setIfInBounds_toArray, List.set_cons_zero, List.set_cons_succ])
            refine E_one 4 (by kernel_rfl) rfl (by rfl) (fun K hK => ?_)
            go_simp
            refine alloc_step HB32.out HZ32.out (fun v33 hb hs hf hk => ?_)
            have hf1 := hk _ _ F1.out; have hf7 := hk _ _ F7.out; have hf6 := hk _ _ F6.out; have HB33 := Lib.hid hb; have HZ33 := Lib.hid (below_size hb); have HS33 := Lib.hid hs; have F4 := Lib.hid hf
            clear F1; have F1 := Lib.hid hf1; clear hf1; clear F7; have F7 := Lib.hid hf7; clear hf7; clear F6; have F6 := Lib.hid hf6; clear hf6; clear hb hf hs hk
            (try simp only [Act.put, List.setIfInBounds_toArray, List.set_cons_zero, List.set_cons_succ])
            refine hK.out _ _ (fun _ _ => HB33.out) (fun hHeld' => ?_)
            replace hHeld := hHeld' (by rfl) (by decide)
            clear hK hHeld'
            (try simp only [Act.put, List.setIfInBounds_toArray, List.set_cons_zero, List.set_cons_succ])
            refine E_take0 hQ (fun _ => hHeld) 5 (v := ?tv10) rfl rfl (by kernel_rfl) (by kernel_rfl) (by kernel_rfl) (by decide) (by rfl) ?ty10 ?tr10
            case ty10 => (intro w; go_simp; (try with_reducible rfl))
            (try simp only [Act.put, List.setIfInBounds_toArray, List.set_cons_zero, List.set_cons_succ])
            refine E_one 9 (by kernel_rfl) rfl (by rfl) (fun K hK => ?_)
            obtain ⟨sc0, sc1, sc2, sf0, sf1, sf2⟩ := cells3h F7.out
            go_simp
            clear sc0 sc1 sc2 sf0 sf1 sf2
            refine store_step HB33.out HZ1.out F7.out (fun v34 hb hsz hf ho => ?_)
            have hf1 := (ho v0.heap.size (by have := HS33.out; have := HS32.out; have := HS28.out; have := HS23.out; have := HS1.out; omega)).trans F1.out; have hf6 := (ho v23.heap.size (by have := HS33.out; have := HS32.out; have := HS28.out; have := HS23.out; have := HS1.out; omega)).trans F6.out; have hf4 := (ho v32.heap.size (by have := HS33.out; have := HS32.out; have := HS28.out; have := HS23.out; have := HS1.out; omega)).trans F4.out; have HB34 := Lib.hid hb; have HZ34 := Lib.hid (below_size hb); have HS34 := Lib.hid hsz; clear F7; have F7 := Lib.hid hf
            clear F1; have F1 := Lib.hid hf1; clear hf1; clear F6; have F6 := Lib.hid hf6; clear hf6; clear F4; have F4 := Lib.hid hf4; clear hf4; clear hb hf ho hsz
            (try simp only [Act.put, List.setIfInBounds_toArray, List.set_cons_zero, List.set_cons_succ])
            refine hK.out _ _ (fun _ h => absurd rfl h) (fun _ => ?_)
            clear hK hHeld
            (try simp only [Act.put, List.setIfInBounds_toArray, List.set_cons_zero, List.set_cons_succ])
            refine E_done (by kernel_rfl) ?_ _
            refine hK'.out _ _ ?_
            go_wp2_with fail
            go_meet
            exact ⟨_, _, _, _, rfl, rfl, F6.out, F7.out, F1.out, F4.out, HB34.out⟩
    · refine ⟨_, rfl, by rfl, fun K hK => ?_⟩
      go_simp
      refine alloc_step HB0.out HZ0.out (fun v35 hb hs hf hk => ?_)
      have HB35 := Lib.hid hb; have HZ35 := Lib.hid (below_size hb); have HS35 := Lib.hid hs; have F4 := Lib.hid hf
      clear hb hf hs hk
      (try simp only [Act.put, List.setIfInBounds_toArray, List.set_cons_zero, List.set_cons_succ])
      refine hK.out _ _ (fun _ _ => HB35.out) (fun hHeld' => ?_)
      replace hHeld := hHeld' (by rfl) (by decide)
      clear hK hHeld'
      (try simp only [Act.put, List.setIfInBounds_toArray, List.set_cons_zero, List.set_cons_succ])
      refine E_take0 hQ (fun _ => hHeld) 5 (v := ?tv11) rfl rfl (by kernel_rfl) (by kernel_rfl) (by kernel_rfl) (by decide) (by rfl) ?ty11 ?tr11
      case ty11 => (intro w; go_simp; (try with_reducible rfl))
      (try simp only [Act.put, List.setIfInBounds_toArray, List.set_cons_zero, List.set_cons_succ])
      refine E_pick [1, 6, 7] (by kernel_rfl) (by decide) ?_
      intro i hi
      simp only [List.mem_cons, List.not_mem_nil, or_false] at hi
      rcases hi with rfl | rfl | rfl
      · refine ⟨_, rfl, by rfl, fun K hK => ?_⟩
        go_simp
        refine alloc_step HB35.out HZ35.out (fun v36 hb hs hf hk => ?_)
        have hf4 := hk _ _ F4.out; have HB36 := Lib.hid hb; have HZ36 := Lib.hid (below_size hb); have HS36 := Lib.hid hs; have F1 := Lib.hid hf
        clear F4; have F4 := Lib.hid hf4; clear hf4; clear hb hf hs hk
        (try simp only [Act.put, List.setIfInBounds_toArray, List.set_cons_zero, List.set_cons_succ])
        refine hK.out _ _ (fun _ _ => HB36.out) (fun hHeld' => ?_)
        replace hHeld := hHeld' (by rfl) (by decide)
        clear hK hHeld'
        (try simp only [Act.put, List.setIfInBounds_toArray, List.set_cons_zero, List.set_cons_succ])
        refine E_take0 hQ (fun _ => hHeld) 2 (v := ?tv12) rfl rfl (by kernel_rfl) (by kernel_rfl) (by kernel_rfl) (by decide) (by rfl) ?ty12 ?tr12
        case ty12 => (intro w; go_simp; (try with_reducible rfl))
        (try simp only [Act.put, List.setIfInBounds_toArray, List.set_cons_zero, List.set_cons_succ])
        refine E_pick [6, 7] (by kernel_rfl) (by decide) ?_
        intro i hi
        simp only [List.mem_cons, List.not_mem_nil, or_false] at hi
        rcases hi with rfl | rfl
        · refine ⟨_, rfl, by rfl, fun K hK => ?_⟩
          go_simp
          refine alloc_step HB36.out HZ36.out (fun v37 hb hs hf hk => ?_)
          have hf4 := hk _ _ F4.out; have hf1 := hk _ _ F1.out; have HB37 := Lib.hid hb; have HZ37 := Lib.hid (below_size hb); have HS37 := Lib.hid hs; have F6 := Lib.hid hf
          clear F4; have F4 := Lib.hid hf4; clear hf4; clear F1; have F1 := Lib.hid hf1; clear hf1; clear hb hf hs hk
          (try simp only [Act.put, List.setIfInBounds_toArray, List.set_cons_zero, List.set_cons_succ])
          refine hK.out _ _ (fun _ _ => HB37.out) (fun hHeld' => ?_)
          replace hHeld := hHeld' (by rfl) (by decide)
          clear hK hHeld'
          (try simp only [Act.put, List.setIfInBounds_toArray, List.set_cons_zero, List.set_cons_succ])
          refine E_one 7 (by kernel_rfl) rfl (by rfl) (fun K hK => ?_)
          go_simp
          refine alloc_step HB37.out HZ37.out (fun v38 hb hs hf hk => ?_)
          have hf4 := hk _ _ F4.out; have hf1 := hk _ _ F1.out; have hf6 := hk _ _ F6.out; have HB38 := Lib.hid hb; have HZ38 := Lib.hid (below_size hb); have HS38 := Lib.hid hs; have F7 := Lib.hid hf
          clear F4; have F4 := Lib.hid hf4; clear hf4; clear F1; have F1 := Lib.hid hf1; clear hf1; clear F6; have F6 := Lib.hid hf6; clear hf6; clear hb hf hs hk
          (try simp only [Act.put, List.setIfInBounds_toArray, List.set_cons_zero, List.set_cons_succ])
          refine hK.out _ _ (fun _ _ => HB38.out) (fun hHeld' => ?_)
          replace hHeld := hHeld' (by rfl) (by decide)
          clear hK hHeld'
          (try simp only [Act.put, List.setIfInBounds_toArray, List.set_cons_zero, List.set_cons_succ])
          refine E_one 8 (by kernel_rfl) rfl (by rfl) (fun K hK => ?_)
          obtain ⟨sc0, sc1, sc2, sf0, sf1, sf2⟩ := cells3h F6.out
          go_simp
          clear sc0 sc1 sc2 sf0 sf1 sf2
          refine store_step HB38.out HZ36.out F6.out (fun v39 hb hsz hf ho => ?_)
          have hf4 := (ho v0.heap.size (by have := HS38.out; have := HS37.out; have := HS36.out; have := HS35.out; omega)).trans F4.out; have hf1 := (ho v35.heap.size (by have := HS38.out; have := HS37.out; have := HS36.out; have := HS35.out; omega)).trans F1.out; have hf7 := (ho v37.heap.size (by have := HS38.out; have := HS37.out; have := HS36.out; have := HS35.out; omega)).trans F7.out; have HB39 := Lib.hid hb; have HZ39 := Lib.hid (below_size hb); have HS39 := Lib.hid hsz; clear F6; have F6 := Lib.hid hf
          clear F4; have F4 := Lib.hid hf4; clear hf4; clear F1; have F1 := Lib.hid hf1; clear hf1; clear F7; have F7 := Lib.hid hf7; clear hf7; clear hb hf ho hsz
          (try simp only [Act.put, List.setIfInBounds_toArray, List.set_cons_zero, List.set_cons_succ])
          refine hK.out _ _ (fun _ _ => HB39.out) (fun hHeld' => ?_)
          replace hHeld := hHeld' (by rfl) (by decide)
          clear hK hHeld'
          (try simp only [Act.put, List.setIfInBounds_toArray, List.set_cons_zero, List.set_cons_succ])
          refine E_one 9 (by kernel_rfl) rfl (by rfl) (fun K hK => ?_)
          obtain ⟨sc0, sc1, sc2, sf0, sf1, sf2⟩ := cells3h F7.out
          go_simp
          clear sc0 sc1 sc2 sf0 sf1 sf2
          refine store_step HB39.out HZ37.out F7.out (fun v40 hb hsz hf ho => ?_)
          have hf4 := (ho v0.heap.size (by have := HS39.out; have := HS38.out; have := HS37.out; have := HS36.out; have := HS35.out; omega)).trans F4.out; have hf1 := (ho v35.heap.size (by have := HS39.out; have := HS38.out; have := HS37.out; have := HS36.out; have := HS35.out; omega)).trans F1.out; have hf6 := (ho v36.heap.size (by have := HS39.out; have := HS38.out; have := HS37.out; have := HS36.out; have := HS35.out; omega)).trans F6.out; have HB40 := Lib.hid hb; have HZ40 := Lib.hid (below_size hb); have HS40 := Lib.hid hsz; clear F7; have F7 := Lib.hid hf
          clear F4; have F4 := Lib.hid hf4; clear hf4; clear F1; have F1 := Lib.hid hf1; clear hf1; clear F6; have F6 := Lib.hid hf6; clear hf6; clear hb hf ho hsz
          (try simp only [Act.put, List.setIfInBounds_toArray, List.set_cons_zero, List.set_cons_succ])
          refine hK.out _ _ (fun _ h => absurd rfl h) (fun _ => ?_)
          clear hK hHeld
          (try simp only [Act.put, List.setIfInBounds_toArray, List.set_cons_zero, List.set_cons_succ])
          refine E_done (by kernel_rfl) ?_ _
          refine hK'.out _ _ ?_
          go_wp2_with fail
          go_meet
          exact ⟨_, _, _, _, rfl, rfl, F6.out, F7.out, F1.out, F4.out, HB40.out⟩
        · refine ⟨_, rfl, by rfl, fun K hK => ?_⟩
          go_simp
          refine alloc_step HB36.out HZ36.out (fun v41 hb hs hf hk => ?_)
          have hf4 := hk _ _ F4.out; have hf1 := hk _ _ F1.out; have HB41 := Lib.hid hb; have HZ41 := Lib.hid (below_size hb); have HS41 := Lib.hid hs; have F7 := Lib.hid hf
          clear F4; have F4 := Lib.hid hf4; clear hf4; clear F1; have F1 := Lib.hid hf1; clear hf1; clear hb hf hs hk
          (try simp only [Act.put, List.setIfInBounds_toArray, List.set_cons_zero, List.set_cons_succ])
          refine hK.out _ _ (fun _ _ => HB41.out) (fun hHeld' => ?_)
          replace hHeld := hHeld' (by rfl) (by decide)
          clear hK hHeld'
          (try simp only [Act.put, List.setIfInBounds_toArray, List.set_cons_zero, List.set_cons_succ])
          refine E_one 6 (by kernel_rfl) rfl (by rfl) (fun K hK => ?_)
          go_simp
          refine alloc_step HB41.out HZ41.out (fun v42 hb hs hf hk => ?_)
          have hf4 := hk _ _ F4.out; have hf1 := hk _ _ F1.out; have hf7 := hk _ _ F7.out; have HB42 := Lib.hid hb; have HZ42 := Lib.hid (below_size hb); have HS42 := Lib.hid hs; have F6 := Lib.hid hf
          clear F4; have F4 := Lib.hid hf4; clear hf4; clear F1; have F1 := Lib.hid hf1; clear hf1; clear F7; have F7 := Lib.hid hf7; clear hf7; clear hb hf hs hk
          (try simp only [Act.put, List.setIfInBounds_toArray, List.set_cons_zero, List.set_cons_succ])
          refine hK.out _ _ (fun _ _ => HB42.out) (fun hHeld' => ?_)
          replace hHeld := hHeld' (by rfl) (by decide)
          clear hK hHeld'
          (try simp only [Act.put, List.setIfInBounds_toArray, List.set_cons_zero, List.set_cons_succ])
          refine E_one 8 (by kernel_rfl) rfl (by rfl) (fun K hK => ?_)
          obtain ⟨sc0, sc1, sc2, sf0, sf1, sf2⟩ := cells3h F6.out
          go_simp
          clear sc0 sc1 sc2 sf0 sf1 sf2
          refine store_step HB42.out HZ41.out F6.out (fun v43 hb hsz hf ho => ?_)
          have hf4 := (ho v0.heap.size (by have := HS42.out; have := HS41.out; have := HS36.out; have := HS35.out; omega)).trans F4.out; have hf1 := (ho v35.heap.size (by have := HS42.out; have := HS41.out; have := HS36.out; have := HS35.out; omega)).trans F1.out; have hf7 := (ho v36.heap.size (by have := HS42.out; have := HS41.out; have := HS36.out; have := HS35.out; omega)).trans F7.out; have HB43 := Lib.hid hb; have HZ43 := Lib.hid (below_size hb); have HS43 := Lib.hid hsz; clear F6; have F6 := Lib.hid hf
          clear F4; have F4 := Lib.hid hf4; clear hf4; clear F1; have F1 := Lib.hid hf1; clear hf1; clear F7; have F7 := Lib.hid hf7; clear hf7; clear hb hf ho hsz
          (try simp only [Act.put, List.setIfInBounds_toArray, List.set_cons_zero, List.set_cons_succ])
          refine hK.out _ _ (fun _ _ => HB43.out) (fun hHeld' => ?_)
          replace hHeld := hHeld' (by rfl) (by decide)
          clear hK hHeld'
          (try simp only [Act.put, List.setIfInBounds_toArray, List.set_cons_zero, List.set_cons_succ])
          refine E_one 9 (by kernel_rfl) rfl (by rfl) (fun K hK => ?_)
          obtain ⟨sc0, sc1, sc2, sf0, sf1, sf2⟩ := cells3h F7.out
          go_simp
          clear sc0 sc1 sc2 sf0 sf1 sf2
          refine store_step HB43.out HZ36.out F7.out (fun v44 hb hsz hf ho => ?_)
          have hf4 := (ho v0.heap.size (by have := HS43.out; have := HS42.out; have := HS41.out; have := HS36.out; have := HS35.out; omega)).trans F4.out; have hf1 := (ho v35.heap.size (by have := HS43.out; have := HS42.out; have := HS41.out; have := HS36.out; have := HS35.out; omega)).trans F1.out; have hf6 := (ho v41.heap.size (by have := HS43.out; have := HS42.out; have := HS41.out; have := HS36.out; have := HS35.out; omega)).trans F6.out; have HB44 := Lib.hid hb; have HZ44 := Lib.hid (below_size hb); have HS44 := Lib.hid hsz; clear F7; have F7 := Lib.hid hf
          clear F4; have F4 := Lib.hid hf4; clear hf4; clear F1; have F1 := Lib.hid hf1; clear hf1; clear F6; have F6 := Lib.hid hf6; clear hf6; clear hb hf ho hsz
          (try simp only [Act.put, List.setIfInBounds_toArray, List.set_cons_zero, List.set_cons_succ])
          refine hK.out _ _ (fun _ h => absurd rfl h) (fun _ => ?_)
          clear hK hHeld
          (try simp only [Act.put, List.setIfInBounds_toArray, List.set_cons_zero, List.set_cons_succ])
          refine E_done (by kernel_rfl) ?_ _
          refine hK'.out _ _ ?_
          go_wp2_with fail
          go_meet
          exact ⟨_, _, _, _, rfl, rfl, F6.out, F7.out, F1.out, F4.out, HB44.out⟩
      · refine ⟨_, rfl, by rfl, fun K hK => ?_⟩
        go_simp
        refine alloc_step HB35.out HZ35.out (fun v45 hb hs hf hk => ?_)
        have hf4 := hk _ _ F4.out; have HB45 := Lib.hid hb; have HZ45 := Lib.hid (below_size hb); have HS45 := Lib.hid hs; have F6 := Lib.hid hf
        clear F4; have F4 := Lib.hid hf4; clear hf4; clear hb hf hs hk
        (try simp only [Act.put, List.setIfInBounds_toArray, List.set_cons_zero, List.set_cons_succ])
        refine hK.out _ _ (fun _ _ => HB45.out) (fun hHeld' => ?_)
        replace hHeld := hHeld' (by rfl) (by decide)
        clear hK hHeld'
        (try simp only [Act.put, List.setIfInBounds_toArray, List.set_cons_zero, List.set_cons_succ])
        refine E_pick [1, 7] (by kernel_rfl) (by decide) ?_
        intro i hi
        simp only [List.mem_cons, List.not_mem_nil, or_false] at hi
        rcases hi with rfl | rfl
        · refine ⟨_, rfl, by rfl, fun K hK => ?_⟩
          go_simp
          refine alloc_step HB45.out HZ45.out (fun v46 hb hs hf hk => ?_)
          have hf4 := hk _ _ F4.out; have hf6 := hk _ _ F6.out; have HB46 := Lib.hid hb; have HZ46 := Lib.hid (below_size hb); have HS46 := Lib.hid hs; have F1 := Lib.hid hf
          clear F4; have F4 := Lib.hid hf4; clear hf4; clear F6; have F6 := Lib.hid hf6; clear hf6; clear hb hf hs hk
          (try simp only [Act.put, List.setIfInBounds_toArray, List.set_cons_zero, List.set_cons_succ])
          refine hK.out _ _ (fun _ _ => HB46.out) (fun hHeld' => ?_)
          replace hHeld := hHeld' (by rfl) (by decide)
          clear hK hHeld'
          (try simp only [Act.put, List.setIfInBounds_toArray, List.set_cons_zero, List.set_cons_succ])
          refine E_take0 hQ (fun _ => hHeld) 2 (v := ?tv13) rfl rfl (by kernel_rfl) (by kernel_rfl) (by kernel_rfl) (by decide) (by rfl) ?ty13 ?tr13
          case ty13 => (intro w; go_simp; (try with_reducible rfl))
          (try simp only [Act.put, List.setIfInBounds_toArray, List.set_cons_zero, List.set_cons_succ])
          refine E_one 7 (by kernel_rfl) rfl (by rfl) (fun K hK => ?_)
          go_simp
          refine alloc_step HB46.out HZ46.out (fun v47 hb hs hf hk => ?_)
          have hf4 := hk _ _ F4.out; have hf6 := hk _ _ F6.out; have hf1 := hk _ _ F1.out; have HB47 := Lib.hid hb; have HZ47 := Lib.hid (below_size hb); have HS47 := Lib.hid hs; have F7 := Lib.hid hf
          clear F4; have F4 := Lib.hid hf4; clear hf4; clear F6; have F6 := Lib.hid hf6; clear hf6; clear F1; have F1 := Lib.hid hf1; clear hf1; clear hb hf hs hk
          (try simp only [Act.put, List.setIfInBounds_toArray, List.set_cons_zero, List.set_cons_succ])
          refine hK.out _ _ (fun _ _ => HB47.out) (fun hHeld' => ?_)
          replace hHeld := hHeld' (by rfl) (by decide)
          clear hK hHeld'
          (try simp only [Act.put, List.setIfInBounds_toArray, List.set_cons_zero, List.set_cons_succ])
          refine E_one 8 (by kernel_rfl) rfl (by rfl) (fun K hK => ?_)
          obtain ⟨sc0, sc1, sc2, sf0, sf1, sf2⟩ := cells3h F6.out
          go_simp
          clear sc0 sc1 sc2 sf0 sf1 sf2
          refine store_step HB47.out HZ35.out F6.out (fun v48 hb hsz hf ho => ?_)
          have hf4 := (ho v0.heap.size (by have := HS47.out; have := HS46.out; have := HS45.out; have := HS35.out; omega)).trans F4.out; have hf1 := (ho v45.heap.size (by have := HS47.out; have := HS46.out; have := HS45.out; have := HS35.out; omega)).trans F1.out; have hf7 := (ho v46.heap.size (by have := HS47.out; have := HS46.out; have := HS45.out; have := HS35.out; omega)).trans F7.out; have HB48 := Lib.hid hb; have HZ48 := Lib.hid (below_size hb); have HS48 := Lib.hid hsz; clear F6; have F6 := Lib.hid hf
          clear F4; have F4 := Lib.hid hf4; clear hf4; clear F1; have F1 := Lib.hid hf1; clear hf1; clear F7; have F7 := Lib.hid hf7; clear hf7; clear hb hf ho hsz
          (try simp only [Act.put, List.setIfInBounds_toArray, List.set_cons_zero, List.set_cons_succ])
          refine hK.out _ _ (fun _ _ => HB48.out) (fun hHeld' => ?_)
          replace hHeld := hHeld' (by rfl) (by decide)
          clear hK hHeld'
          (try simp only [Act.put, List.setIfInBounds_toArray, List.set_cons_zero, List.set_cons_succ])
          refine E_one 9 (by kernel_rfl) rfl (by rfl) (fun K hK => ?_)
          obtain ⟨sc0, sc1, sc2, sf0, sf1, sf2⟩ := cells3h F7.out
          go_simp
          clear sc0 sc1 sc2 sf0 sf1 sf2
          refine store_step HB48.out HZ46.out F7.out (fun v49 hb hsz hf ho => ?_)
          have hf4 := (ho v0.heap.size (by have := HS48.out; have := HS47.out; have := HS46.out; have := HS45.out; have := HS35.out; omega)).trans F4.out; have hf6 := (ho v35.heap.size (by have := HS48.out; have := HS47.out; have := HS46.out; have := HS45.out; have := HS35.out; omega)).trans F6.out; have hf1 := (ho v45.heap.size (by have := HS48.out; have := HS47.out; have := HS46.out; have := HS45.out; have := HS35.out; omega)).trans F1.out; have HB49 := Lib.hid hb; have HZ49 := Lib.hid (below_size hb); have HS49 := Lib.hid hsz; clear F7; have F7 := Lib.hid hf
          clear F4; have F4 := Lib.hid hf4; clear hf4; clear F6; have F6 := Lib.hid hf6; clear hf6; clear F1; have F1 := Lib.hid hf1; clear hf1; clear hb hf ho hsz
          (try simp only [Act.put, List.setIfInBounds_toArray, List.set_cons_zero, List.set_cons_succ])
          refine hK.out _ _ (fun _ h => absurd rfl h) (fun _ => ?_)
          clear hK hHeld
          (try simp only [Act.put, List.setIfInBounds_toArray, List.set_cons_zero, List.set_cons_succ])
          refine E_done (by kernel_rfl) ?_ _
          refine hK'.out _ _ ?_
          go_wp2_with fail
          go_meet
          exact ⟨_, _, _, _, rfl, rfl, F6.out, F7.out, F1.out, F4.out, HB49.out⟩
        · refine ⟨_, rfl, by rfl, fun K hK => ?_⟩
          go_simp
          refine alloc_step HB45.out HZ45.out (fun v50 hb hs hf hk => ?_)
          have hf4 := hk _ _ F4.out; have hf6 := hk _ _ F6.out; have HB50 := Lib.hid hb; have HZ50 := Lib.hid (below_size hb); have HS50 := Lib.hid hs; have F7 := Lib.hid hf
          clear F4; have F4 := Lib.hid hf4; clear hf4; clear F6; have F6 := Lib.hid hf6; clear hf6; clear hb hf hs hk
          (try simp only [Act.put, List.setIfInBounds_toArray, List.set_cons_zero, List.set_cons_succ])
          refine hK.out _ _ (fun _ _ => HB50.out) (fun hHeld' => ?_)
          replace hHeld := hHeld' (by rfl) (by decide)
          clear hK hHeld'
          (try simp only [Act.put, List.setIfInBounds_toArray, List.set_cons_zero, List.set_cons_succ])
          refine E_one 1 (by kernel_rfl) rfl (by rfl) (fun K hK => ?_)
          go_simp
          refine alloc_step HB50.out HZ50.out (fun v51 hb hs hf hk => ?_)
          have hf4 := hk _ _ F4.out; have hf6 := hk _ _ F6.out; have hf7 := hk _ _ F7.out; have HB51 := Lib.hid hb; have HZ51 := Lib.hid (below_size hb); have HS51 := Lib.hid hs; have F1 := Lib.hid hf
          clear F4; have F4 := Lib.hid hf4; clear hf4; clear F6; have F6 := Lib.hid hf6; clear hf6; clear F7; have F7 := Lib.hid hf7; clear hf7; clear hb hf hs hk
          (try simp only [Act.put, List.setIfInBounds_toArray, List.set_cons_zero, List.set_cons_succ])
          refine hK.out _ _ (fun _ _ => HB51.out) (fun hHeld' => ?_)
          replace hHeld := hHeld' (by rfl) (by decide)
          clear hK hHeld'
          (try simp only [Act.put, List.setIfInBounds_toArray, List.set_cons_zero, List.set_cons_succ])
          refine E_take0 hQ (fun _ => hHeld) 2 (v := ?tv14) rfl rfl (by kernel_rfl) (by kernel_rfl) (by kernel_rfl) (by decide) (by rfl) ?ty14 ?tr14
          case ty14 => (intro w; go_simp; (try with_reducible rfl))
          (try simp only [Act.put, List.setIfInBounds_toArray, List.set_cons_zero, List.set_cons_succ])
          refine E_one 8 (by kernel_rfl) rfl (by rfl) (fun K hK => ?_)
          obtain ⟨sc0, sc1, sc2, sf0, sf1, sf2⟩ := cells3h F6.out
          go_simp
          clear sc0 sc1 sc2 sf0 sf1 sf2
          refine store_step HB51.out HZ35.out F6.out (fun v52 hb hsz hf ho => ?_)
          have hf4 := (ho v0.heap.size (by have := HS51.out; have := HS50.out; have := HS45.out; have := HS35.out; omega)).trans F4.out; have hf7 := (ho v45.heap.size (by have := HS51.out; have := HS50.out; have := HS45.out; have := HS35.out; omega)).trans F7.out; have hf1 := (ho v50.heap.size (by have := HS51.out; have := HS50.out; have := HS45.out; have := HS35.out; omega)).trans F1.out; have HB52 := Lib.hid hb; have HZ52 := Lib.hid (below_size hb); have HS52 := Lib.hid hsz; clear F6; have F6 := Lib.hid hf
          clear F4; have F4 := Lib.hid hf4; clear hf4; clear F7; have F7 := Lib.hid hf7; clear hf7; clear F1; have F1 := Lib.hid hf1; clear hf1; clear hb hf ho hsz
          (try simp only [Act.put, List.setIfInBounds_toArray, List.set_cons_zero, List.set_cons_succ])
          refine hK.out _ _ (fun _ _ => HB52.out) (fun hHeld' => ?_)
          replace hHeld := hHeld' (by rfl) (by decide)
          clear hK hHeld'
          (try simp only [Act.put, List.setIfInBounds_toArray, List.set_cons_zero, List.set_cons_succ])
          refine E_one 9 (by kernel_rfl) rfl (by rfl) (fun K hK => ?_)
          obtain ⟨sc0, sc1, sc2, sf0, sf1, sf2⟩ := cells3h F7.out
          go_simp
          clear sc0 sc1 sc2 sf0 sf1 sf2
          refine store_step HB52.out HZ45.out F7.out (fun v53 hb hsz hf ho => ?_)
          have hf4 := (ho v0.heap.size (by have := HS52.out; have := HS51.out; have := HS50.out; have := HS45.out; have := HS35.out; omega)).trans F4.out; have hf6 := (ho v35.heap.size (by have := HS52.out; have := HS51.out; have := HS50.out; have := HS45.out; have := HS35.out; omega)).trans F6.out; have hf1 := (ho v50.heap.size (by have := HS52.out; have := HS51.out; have := HS50.out; have := HS45.out; have := HS35.out; omega)).trans F1.out; have HB53 := Lib.hid hb; have HZ53 := Lib.hid (below_size hb); have HS53 := Lib.hid hsz; clear F7; have F7 := Lib.hid hf
          clear F4; have F4 := Lib.hid hf4; clear hf4; clear F6; have F6 := Lib.hid hf6; clear hf6; clear F1; have F1 := Lib.hid hf1; clear hf1; clear hb hf ho hsz
          (try simp only [Act.put, List.setIfInBounds_toArray, List.set_cons_zero, List.set_cons_succ])
          refine hK.out _ _ (fun _ h => absurd rfl h) (fun _ => ?_)
          clear hK hHeld
          (try simp only [Act.put, List.setIfInBounds_toArray, List.set_cons_zero, List.set_cons_succ])
          refine E_done (by kernel_rfl) ?_ _
          refine hK'.out _ _ ?_
          go_wp2_with fail
          go_meet
          exact ⟨_, _, _, _, rfl, rfl, F6.out, F7.out, F1.out, F4.out, HB53.out⟩
      · refine ⟨_, rfl, by rfl, fun K hK => ?_⟩
        go_simp
        refine alloc_step HB35.out HZ35.out (fun v54 hb hs hf hk => ?_)
        have hf4 := hk _ _ F4.out; have HB54 := Lib.hid hb; have HZ54 := Lib.hid (below_size hb); have HS54 := Lib.hid hs; have F7 := Lib.hid hf
        clear F4; have F4 := Lib.hid hf4; clear hf4; clear hb hf hs hk
        (try simp only [Act.put, List.setIfInBounds_toArray, List.set_cons_zero, List.set_cons_succ])
        refine hK.out _ _ (fun _ _ => HB54.out) (fun hHeld' => ?_)
        replace hHeld := hHeld' (by rfl) (by decide)
        clear hK hHeld'
        (try simp only [Act.put, List.setIfInBounds_toArray, List.set_cons_zero, List.set_cons_succ])
        refine E_pick [1, 6] (by kernel_rfl) (by decide) ?_
        intro i hi
        simp only [List.mem_cons, List.not_mem_nil, or_false] at hi
        rcases hi with rfl | rfl
        · refine ⟨_, rfl, by rfl, fun K hK => ?_⟩
          go_simp
          refine alloc_step HB54.out HZ54.out (fun v55 hb hs hf hk => ?_)
          have hf4 := hk _ _ F4.out; have hf7 := hk _ _ F7.out; have HB55 := Lib.hid hb; have HZ55 := Lib.hid (below_size hb); have HS55 := Lib.hid hs; have F1 := Lib.hid hf
          clear F4; have F4 := Lib.hid hf4; clear hf4; clear F7; have F7 := Lib.hid hf7; clear hf7; clear hb hf hs hk
          (try simp only [Act.put, List.setIfInBounds_toArray, List.set_cons_zero, List.set_cons_succ])
          refine hK.out _ _ (fun _ _ => HB55.out) (fun hHeld' => ?_)
          replace hHeld := hHeld' (by rfl) (by decide)
          clear hK hHeld'
          (try simp only [Act.put, List.setIfInBounds_toArray, List.set_cons_zero, List.set_cons_succ])
          refine E_take0 hQ (fun _ => hHeld) 2 (v := ?tv15) rfl rfl (by kernel_rfl) (by kernel_rfl) (by kernel_rfl) (by decide) (by rfl) ?ty15 ?tr15
          case ty15 => (intro w; go_simp; (try with_reducible rfl))
          (try simp only [Act.put, List.setIfInBounds_toArray, List.set_cons_zero, List.set_cons_succ])
          refine E_one 6 (by kernel_rfl) rfl (by rfl) (fun K hK => ?_)
          go_simp
          refine alloc_step HB55.out HZ55.out (fun v56 hb hs hf hk => ?_)
          have hf4 := hk _ _ F4.out; have hf7 := hk _ _ F7.out; have hf1 := hk _ _ F1.out; have HB56 := Lib.hid hb; have HZ56 := Lib.hid (below_size hb); have HS56 := Lib.hid hs; have F6 := Lib.hid hf
          clear F4; have F4 := Lib.hid hf4; clear hf4; clear F7; have F7 := Lib.hid hf7; clear hf7; clear F1; have F1 := Lib.hid hf1; clear hf1; clear hb hf hs hk
          (try simp only [Act.put, List.setIfInBounds_toArray, List.set_cons_zero, List.set_cons_succ])
          refine hK.out _ _ (fun _ _ => HB56.out) (fun hHeld' => ?_)
          replace hHeld := hHeld' (by rfl) (by decide)
          clear hK hHeld'
          (try simp only [Act.put, List.setIfInBounds_toArray, List.set_cons_zero, List.set_cons_succ])
          refine E_one 8 (by kernel_rfl) rfl (by rfl) (fun K hK => ?_)
          obtain ⟨sc0, sc1, sc2, sf0, sf1, sf2⟩ := cells3h F6.out
          go_simp
          clear sc0 sc1 sc2 sf0 sf1 sf2
          refine store_step HB56.out HZ55.out F6.out (fun v57 hb hsz hf ho => ?_)
          have hf4 := (ho v0.heap.size (by have := HS56.out; have := HS55.out; have := HS54.out; have := HS35.out; omega)).trans F4.out; have hf7 := (ho v35.heap.size (by have := HS56.out; have := HS55.out; have := HS54.out; have := HS35.out; omega)).trans F7.out; have hf1 := (ho v54.heap.size (by have := HS56.out; have := HS55.out; have := HS54.out; have := HS35.out; omega)).trans F1.out; have HB57 := Lib.hid hb; have HZ57 := Lib.hid (below_size hb); have HS57 := Lib.hid hsz; clear F6; have F6 := Lib.hid hf
          clear F4; have F4 := Lib.hid hf4; clear hf4; clear F7; have F7 := Lib.hid hf7; clear hf7; clear F1; have F1 := Lib.hid hf1; clear hf1; clear hb hf ho hsz
          (try simp only [Act.put, List.setIfInBounds_toArray, List.set_cons_zero, List.set_cons_succ])
          refine hK.out _ _ (fun _ _ => HB57.out) (fun hHeld' => ?_)
          replace hHeld := hHeld' (by rfl) (by decide)
          clear hK hHeld'
          (try simp only [Act.put, List.setIfInBounds_toArray, List.set_cons_zero, List.set_cons_succ])
          refine E_one 9 (by kernel_rfl) rfl (by rfl) (fun K hK => ?_)
          obtain ⟨sc0, sc1, sc2, sf0, sf1, sf2⟩ := cells3h F7.out
          go_simp
          clear sc0 sc1 sc2 sf0 sf1 sf2
          refine store_step HB57.out HZ35.out F7.out (fun v58 hb hsz hf ho => ?_)
          have hf4 := (ho v0.heap.size (by have := HS57.out; have := HS56.out; have := HS55.out; have := HS54.out; have := HS35.out; omega)).trans F4.out; have hf1 := (ho v54.heap.size (by have := HS57.out; have := HS56.out; have := HS55.out; have := HS54.out; have := HS35.out; omega)).trans F1.out; have hf6 := (ho v55.heap.size (by have := HS57.out; have := HS56.out; have := HS55.out; have := HS54.out; have := HS35.out; omega)).trans F6.out; have HB58 := Lib.hid hb; have HZ58 := Lib.hid (below_size hb); have HS58 := Lib.hid hsz; clear F7; have F7 := Lib.hid hf
          clear F4; have F4 := Lib.hid hf4; clear hf4; clear F1; have F1 := Lib.hid hf1; clear hf1; clear F6; have F6 := Lib.hid hf6; clear hf6; clear hb hf ho hsz
          (try simp only [Act.put, List.setIfInBounds_toArray, List.set_cons_zero, List.set_cons_succ])
          refine hK.out _ _ (fun _ h => absurd rfl h) (fun _ => ?_)
          clear hK hHeld
          (try simp only [Act.put, List.setIfInBounds_toArray, List.set_cons_zero, List.set_cons_succ])
          refine E_done (by kernel_rfl) ?_ _
          refine hK'.out _ _ ?_
          go_wp2_with fail
          go_meet
          exact ⟨_, _, _, _, rfl, rfl, F6.out, F7.out, F1.out, F4.out, HB58.out⟩
        · refine ⟨_, rfl, by rfl, fun K hK => ?_⟩
          go_simp
          refine alloc_step HB54.out HZ54.out (fun v59 hb hs hf hk => ?_)
          have hf4 := hk _ _ F4.out; have hf7 := hk _ _ F7.out; have HB59 := Lib.hid hb; have HZ59 := Lib.hid (below_size hb); have HS59 := Lib.hid hs; have F6 := Lib.hid hf
          clear F4; have F4 := Lib.hid hf4; clear hf4; clear F7; have F7 := Lib.hid hf7; clear hf7; clear hb hf hs hk
          (try simp only [Act.put, List.setIfInBounds_toArray, List.set_cons_zero, List.set_cons_succ])
          refine hK.out _ _ (fun _ _ => HB59.out) (fun hHeld' => ?_)
          replace hHeld := hHeld' (by rfl) (by decide)
          clear hK hHeld'
          (try simp only [Act.put, List.setIfInBounds_toArray, List.set_cons_zero, List.set_cons_succ])
          refine E_one 1 (by kernel_rfl) rfl (by rfl) (fun K hK => ?_)
          go_simp
          refine alloc_step HB59.out HZ59.out (fun v60 hb hs hf hk => ?_)
          have hf4 := hk _ _ F4.out; have hf7 := hk _ _ F7.out; have hf6 := hk _ _ F6.out; have HB60 := Lib.hid hb; have HZ60 := Lib.hid (below_size hb); have HS60 := Lib.hid hs; have F1 := Lib.hid hf
          clear F4; have F4 := Lib.hid hf4; clear hf4; clear F7; have F7 := Lib.hid hf7; clear hf7; clear F6; have F6 := Lib.hid hf6; clear hf6; clear hb hf hs hk
          (try simp only [Act.put, List.setIfInBounds_toArray, List.set_cons_zero, List.set_cons_succ])
          refine hK.out _ _ (fun _ _ => HB60.out) (fun hHeld' => ?_)
          replace hHeld := hHeld' (by rfl) (by decide)
          clear hK hHeld'
          (try simp only [Act.put, List.setIfInBounds_toArray, List.set_cons_zero, List.set_cons_succ])
          refine E_take0 hQ (fun _ => hHeld) 2 (v := ?tv16) rfl rfl (by kernel_rfl) (by kernel_rfl) (by kernel_rfl) (by decide) (by rfl) ?ty16 ?tr16
          case ty16 => (intro w; go_simp; (try with_reducible rfl))
          (try simp only [Act.put, List.setIfInBounds_toArray, List.set_cons_zero, List.set_cons_succ])
          refine E_one 8 (by kernel_rfl) rfl (by rfl) (fun K hK => ?_)
          obtain ⟨sc0, sc1, sc2, sf0, sf1, sf2⟩ := cells3h F6.out
          go_simp
          clear sc0 sc1 sc2 sf0 sf1 sf2
          refine store_step HB60.out HZ54.out F6.out (fun v61 hb hsz hf ho => ?_)
          have hf4 := (ho v0.heap.size (by have := HS60.out; have := HS59.out; have := HS54.out; have := HS35.out; omega)).trans F4.out; have hf7 := (ho v35.heap.size (by have := HS60.out; have := HS59.out; have := HS54.out; have := HS35.out; omega)).trans F7.out; have hf1 := (ho v59.heap.size (by have := HS60.out; have := HS59.out; have := HS54.out; have := HS35.out; omega)).trans F1.out; have HB61 := Lib.hid hb; have HZ61 := Lib.hid (below_size hb); have HS61 := Lib.hid hsz; clear F6; have F6 := Lib.hid hf
          clear F4; have F4 := Lib.hid hf4; clear hf4; clear F7; have F7 := Lib.hid hf7; clear hf7; clear F1; have F1 := Lib.hid hf1; clear hf1; clear hb hf ho hsz
          (try simp only [Act.put, List.setIfInBounds_toArray, List.set_cons_zero, List.set_cons_succ])
          refine hK.out _ _ (fun _ _ => HB61.out) (fun hHeld' => ?_)
          replace hHeld := hHeld' (by rfl) (by decide)
          clear hK hHeld'
          (try simp only [Act.put, List.setIfInBounds_toArray, List.set_cons_zero, List.set_cons_succ])
          refine E_one 9 (by kernel_rfl) rfl (by rfl) (fun K hK => ?_)
          obtain ⟨sc0, sc1, sc2, sf0, sf1, sf2⟩ := cells3h F7.out
          go_simp
          clear sc0 sc1 sc2 sf0 sf1 sf2
          refine store_step HB61.out HZ35.out F7.out (fun v62 hb hsz hf ho => ?_)
          have hf4 := (ho v0.heap.size (by have := HS61.out; have := HS60.out; have := HS59.out; have := HS54.out; have := HS35.out; omega)).trans F4.out; have hf6 := (ho v54.heap.size (by have := HS61.out; have := HS60.out; have := HS59.out; have := HS54.out; have := HS35.out; omega)).trans F6.out; have hf1 := (ho v59.heap.size (by have := HS61.out; have := HS60.out; have := HS59.out; have := HS54.out; have := HS35.out; omega)).trans F1.out; have HB62 := Lib.hid hb; have HZ62 := Lib.hid (below_size hb); have HS62 := Lib.hid hsz; clear F7; have F7 := Lib.hid hf
          clear F4; have F4 := Lib.hid hf4; clear hf4; clear F6; have F6 := Lib.hid hf6; clear hf6; clear F1; have F1 := Lib.hid hf1; clear hf1; clear hb hf ho hsz
          (try simp only [Act.put, List.setIfInBounds_toArray, List.set_cons_zero, List.set_cons_succ])
          refine hK.out _ _ (fun _ h => absurd rfl h) (fun _ => ?_)
          clear hK hHeld
          (try simp only [Act.put, List.setIfInBounds_toArray, List.set_cons_zero, List.set_cons_succ])
          refine E_done (by kernel_rfl) ?_ _
          refine hK'.out _ _ ?_
          go_wp2_with fail
          go_meet
          exact ⟨_, _, _, _, rfl, rfl, F6.out, F7.out, F1.out, F4.out, HB62.out⟩
    · refine ⟨_, rfl, by rfl, fun K hK => ?_⟩
      go_simp
      refine alloc_step HB0.out HZ0.out (fun v63 hb hs hf hk => ?_)
      have HB63 := Lib.hid hb; have HZ63 := Lib.hid (below_size hb); have HS63 := Lib.hid hs; have F6 := Lib.hid hf
      clear hb hf hs hk
      (try simp only [Act.put, List.setIfInBounds_toArray, List.set_cons_zero, List.set_cons_succ])
      refine hK.out _ _ (fun _ _ => HB63.out) (fun hHeld' => ?_)
      replace hHeld := hHeld' (by rfl) (by decide)
      clear hK hHeld'
      (try simp only [Act.put, List.setIfInBounds_toArray, List.set_cons_zero, List.set_cons_succ])
      refine E_pick [1, 4, 7] (by kernel_rfl) (by decide) ?_
      intro i hi
      simp only [List.mem_cons, List.not_mem_nil, or_false] at hi
      rcases hi with rfl | rfl | rfl
      · refine ⟨_, rfl, by rfl, fun K hK => ?_⟩
        go_simp
        refine alloc_step HB63.out HZ63.out (fun v64 hb hs hf hk => ?_)
        have hf6 := hk _ _ F6.out; have HB64 := Lib.hid hb; have HZ64 := Lib.hid (below_size hb); have HS64 := Lib.hid hs; have F1 := Lib.hid hf
        clear F6; have F6 := Lib.hid hf6; clear hf6; clear hb hf hs hk
        (try simp only [Act.put, List.setIfInBounds_toArray, List.set_cons_zero, List.set_cons_succ])
        refine hK.out _ _ (fun _ _ => HB64.out) (fun hHeld' => ?_)
        replace hHeld := hHeld' (by rfl) (by decide)
        clear hK hHeld'
        (try simp only [Act.put, List.setIfInBounds_toArray, List.set_cons_zero, List.set_cons_succ])
        refine E_take0 hQ (fun _ => hHeld) 2 (v := ?tv17) rfl rfl (by kernel_rfl) (by kernel_rfl) (by kernel_rfl) (by decide) (by rfl) ?ty17 ?tr17
        case ty17 => (intro w; go_simp; (try with_reducible rfl))
        (try simp only [Act.put, List.setIfInBounds_toArray, List.set_cons_zero, List.set_cons_succ])
        refine E_pick [4, 7] (by kernel_rfl) (by decide) ?_
        intro i hi
        simp only [List.mem_cons, List.not_mem_nil, or_false] at hi
        rcases hi with rfl | rfl
        · refine ⟨_, rfl, by rfl, fun K hK => ?_⟩
          go_simp
          refine alloc_step HB64.out HZ64.out (fun v65 hb hs hf hk => ?_)
          have hf6 := hk _ _ F6.out; have hf1 := hk _ _ F1.out; have HB65 := Lib.hid hb; have HZ65 := Lib.hid (below_size hb); have HS65 := Lib.hid hs; have F4 := Lib.hid hf
          clear F6; have F6 := Lib.hid hf6; clear hf6; clear F1; have F1 := Lib.hid hf1; clear hf1; clear hb hf hs hk
          (try simp only [Act.put, List.setIfInBounds_toArray, List.set_cons_zero, List.set_cons_succ])
          refine hK.out _ _ (fun _ _ => HB65.out) (fun hHeld' => ?_)
          replace hHeld := hHeld' (by rfl) (by decide)
          clear hK hHeld'
          (try simp only [Act.put, List.setIfInBounds_toArray, List.set_cons_zero, List.set_cons_succ])
          refine E_take0 hQ (fun _ => hHeld) 5 (v := ?tv18) rfl rfl (by kernel_rfl) (by kernel_rfl) (by kernel_rfl) (by decide) (by rfl) ?ty18 ?tr18
          case ty18 => (intro w; go_simp; (try with_reducible rfl))
          (try simp only [Act.put, List.setIfInBounds_toArray, List.set_cons_zero, List.set_cons_succ])
          refine E_one 7 (by kernel_rfl) rfl (by rfl) (fun K hK => ?_)
          go_simp
          refine alloc_step HB65.out HZ65.out (fun v66 hb hs hf hk => ?_)
          have hf6 := hk _ _ F6.out; have hf1 := hk _ _ F1.out; have hf4 := hk _ _ F4.out; have HB66 := Lib.hid hb; have HZ66 := Lib.hid (below_size hb); have HS66 := Lib.hid hs; have F7 := Lib.hid hf
          clear F6; have F6 := Lib.hid hf6; clear hf6; clear F1; have F1 := Lib.hid hf1; clear hf1; clear F4; have F4 := Lib.hid hf4; clear hf4; clear hb hf hs hk
          (try simp only [Act.put, List.setIfInBounds_toArray, List.set_cons_zero, List.set_cons_succ])
          refine hK.out _ _ (fun _ _ => HB66.out) (fun hHeld' => ?_)
          replace hHeld := hHeld' (by rfl) (by decide)
          clear hK hHeld'
          (try simp only [Act.put, List.setIfInBounds_toArray, List.set_cons_zero, List.set_cons_succ])
          refine E_one 8 (by kernel_rfl) rfl (by rfl) (fun K hK => ?_)
          obtain ⟨sc0, sc1, sc2, sf0, sf1, sf2⟩ := cells3h F6.out
          go_simp
          clear sc0 sc1 sc2 sf0 sf1 sf2
          refine store_step HB66.out HZ0.out F6.out (fun v67 hb hsz hf ho => ?_)
          have hf1 := (ho v63.heap.size (by have := HS66.out; have := HS65.out; have := HS64.out; have := HS63.out; omega)).trans F1.out; have hf4 := (ho v64.heap.size (by have := HS66.out; have := HS65.out; have := HS64.out; have := HS63.out; omega)).trans F4.out; have hf7 := (ho v65.heap.size (by have := HS66.out; have := HS65.out; have := HS64.out; have := HS63.out; omega)).trans F7.out; have HB67 := Lib.hid hb; have HZ67 := Lib.hid (below_size hb); have HS67 := Lib.hid hsz; clear F6; have F6 := Lib.hid hf
          clear F1; have F1 := Lib.hid hf1; clear hf1; clear F4; have F4 := Lib.hid hf4; clear hf4; clear F7; have F7 := Lib.hid hf7; clear hf7; clear hb hf ho hsz
          (try simp only [Act.put, List.setIfInBounds_toArray, List.set_cons_zero, List.set_cons_succ])
          refine hK.out _ _ (fun _ _ => HB67.out) (fun hHeld' => ?_)
          replace hHeld := hHeld' (by rfl) (by decide)
          clear hK hHeld'
          (try simp only [Act.put, List.setIfInBounds_toArray, List.set_cons_zero, List.set_cons_succ])
          refine E_one 9 (by kernel_rfl) rfl (by rfl) (fun K hK => ?_)
          obtain ⟨sc0, sc1, sc2, sf0, sf1, sf2⟩ := cells3h F7.out
          go_simp
          clear sc0 sc1 sc2 sf0 sf1 sf2
          refine store_step HB67.out HZ65.out F7.out (fun v68 hb hsz hf ho => ?_)
          have hf6 := (ho v0.heap.size (by have := HS67.out; have := HS66.out; have := HS65.out; have := HS64.out; have := HS63.out; omega)).trans F6.out; have hf1 := (ho v63.heap.size (by have := HS67.out; have := HS66.out; have := HS65.out; have := HS64.out; have := HS63.out; omega)).trans F1.out; have hf4 := (ho v64.heap.size (by have := HS67.out; have := HS66.out; have := HS65.out; have := HS64.out; have := HS63.out; omega)).trans F4.out; have HB68 := Lib.hid hb; have HZ68 := Lib.hid (below_size hb); have HS68 := Lib.hid hsz; clear F7; have F7 := Lib.hid hf
          clear F6; have F6 := Lib.hid hf6; clear hf6; clear F1; have F1 := Lib.hid hf1; clear hf1; clear F4; have F4 := Lib.hid hf4; clear hf4; clear hb hf ho hsz
          (try simp only [Act.put, List.setIfInBounds_toArray, List.set_cons_zero, List.set_cons_succ])
          refine hK.out _ _ (fun _ h => absurd rfl h) (fun _ => ?_)
          clear hK hHeld
          (try simp only [Act.put, List.setIfInBounds_toArray, List.set_cons_zero, List.set_cons_succ])
          refine E_done (by kernel_rfl) ?_ _
          refine hK'.out _ _ ?_
          go_wp2_with fail
          go_meet
          exact ⟨_, _, _, _, rfl, rfl, F6.out, F7.out, F1.out, F4.out, HB68.out⟩
        · refine ⟨_, rfl, by rfl, fun K hK => ?_⟩
          go_simp
          refine alloc_step HB64.out HZ64.out (fun v69 hb hs hf hk => ?_)
          have hf6 := hk _ _ F6.out; have hf1 := hk _ _ F1.out; have HB69 := Lib.hid hb; have HZ69 := Lib.hid (below_size hb); have HS69 := Lib.hid hs; have F7 := Lib.hid hf
          clear F6; have F6 := Lib.hid hf6; clear hf6; clear F1; have F1 := Lib.hid hf1; clear hf1; clear hb hf hs hk
          (try simp only [Act.put, List.setIfInBounds_toArray, List.set_cons_zero, List.set_cons_succ])
          refine hK.out _ _ (fun _ _ => HB69.out) (fun hHeld' => ?_)
          replace hHeld := hHeld' (by rfl) (by decide)
          clear hK hHeld'
          (try simp only [Act.put, List.setIfInBounds_toArray, List.set_cons_zero, List.set_cons_succ])
          refine E_pick [4, 8] (by kernel_rfl) (by decide) ?_
          intro i hi
          simp only [List.mem_cons, List.not_mem_nil, or_false] at hi
          rcases hi with rfl | rfl
          · refine ⟨_, rfl, by rfl, fun K hK => ?_⟩
            go_simp
            refine alloc_step HB69.out HZ69.out (fun v70 hb hs hf hk => ?_)
            have hf6 := hk _ _ F6.out; have hf1 := hk _ _ F1.out; have hf7 := hk _ _ F7.out; have HB70 := Lib.hid hb; have HZ70 := Lib.hid (below_size hb); have HS70 := Lib.hid hs; have F4 := Lib.hid hf
            clear F6; have F6 := Lib.hid hf6; clear hf6; clear F1; have F1 := Lib.hid hf1; clear hf1; clear F7; have F7 := Lib.hid hf7; clear hf7; clear hb hf hs hk
            (try simp only [Act.put, List.setIfInBounds_toArray, List.set_cons_zero, List.set_cons_succ])
            refine hK.out _ _ (fun _ _ => HB70.out) (fun hHeld' => ?_)
            replace hHeld := hHeld' (by rfl) (by decide)
            clear hK hHeld'
            (try simp only [Act.put, List.setIfInBounds_toArray, List.set_cons_zero, List.set_cons_succ])
            refine E_take0 hQ (fun _ => hHeld) 5 (v := ?tv19) rfl rfl (by kernel_rfl) (by kernel_rfl) (by kernel_rfl) (by decide) (by rfl) ?ty19 ?tr19
            case ty19 => (intro w; go_simp; (try with_reducible rfl))
            (try simp only [Act.put, List.setIfInBounds_toArray, List.set_cons_zero, List.set_cons_succ])
            refine E_one 8 (by kernel_rfl) rfl (by rfl) (fun K hK => ?_)
            obtain ⟨sc0, sc1, sc2, sf0, sf1, sf2⟩ := cells3h F6.out
            go_simp
            clear sc0 sc1 sc2 sf0 sf1 sf2
            refine store_step HB70.out HZ0.out F6.out (fun v71 hb hsz hf ho => ?_)
            have hf1 := (ho v63.heap.size (by have := HS70.out; have := HS69.out; have := HS64.out; have := HS63.out; omega)).trans F1.out; have hf7 := (ho v64.heap.size (by have := HS70.out; have := HS69.out; have := HS64.out; have := HS63.out; omega)).trans F7.out; have hf4 := (ho v69.heap.size (by have := HS70.out; have := HS69.out; have := HS64.out; have := HS63.out; omega)).trans F4.out; have HB71 := Lib.hid hb; have HZ71 := Lib.hid (below_size hb); have HS71 := Lib.hid hsz; clear F6; have F6 := Lib.hid hf
            clear F1; have F1 := Lib.hid hf1; clear hf1; clear F7; have F7 := Lib.hid hf7; clear hf7; clear F4; have F4 := Lib.hid hf4; clear hf4; clear hb hf ho hsz
            (try simp only [Act.put, List.setIfInBounds_toArray, List.set_cons_zero, List.set_cons_succ])
            refine hK.out _ _ (fun _ _ => HB71.out) (fun hHeld' => ?_)
            replace hHeld := hHeld' (by rfl) (by decide)
            clear hK hHeld'
            (try simp only [Act.put, List.setIfInBounds_toArray, List.set_cons_zero, List.set_cons_succ])
            refine E_one 9 (by kernel_rfl) rfl (by rfl) (fun K hK => ?_)
            obtain ⟨sc0, sc1, sc2, sf0, sf1, sf2⟩ := cells3h F7.out
            go_simp
            clear sc0 sc1 sc2 sf0 sf1 sf2
            refine store_step HB71.out HZ64.out F7.out (fun v72 hb hsz hf ho => ?_)
            have hf6 := (ho v0.heap.size (by have := HS71.out; have := HS70.out; have := HS69.out; have := HS64.out; have := HS63.out; omega)).trans F6.out; have hf1 := (ho v63.heap.size (by have := HS71.out; have := HS70.out; have := HS69.out; have := HS64.out; have := HS63.out; omega)).trans F1.out; have hf4 := (ho v69.heap.size (by have := HS71.out; have := HS70.out; have := HS69.out; have := HS64.out; have := HS63.out; omega)).trans F4.out; have HB72 := Lib.hid hb; have HZ72 := Lib.hid (below_size hb); have HS72 := Lib.hid hsz; clear F7; have F7 := Lib.hid hf
            clear F6; have F6 := Lib.hid hf6; clear hf6; clear F1; have F1 := Lib.hid hf1; clear hf1; clear F4; have F4 := Lib.hid hf4; clear hf4; clear hb hf ho hsz
            (try simp only [Act.put, List.setIfInBounds_toArray, List.set_cons_zero, List.set_cons_succ])
            refine hK.out _ _ (fun _ h => absurd rfl h) (fun _ => ?_)
            clear hK hHeld
            (try simp only [Act.put, List.setIfInBounds_toArray, List.set_cons_zero, List.set_cons_succ])
            refine E_done (by kernel_rfl) ?_ _
            refine hK'.out _ _ ?_
            go_wp2_with fail
            go_meet
            exact ⟨_, _, _, _, rfl, rfl, F6.out, F7.out, F1.out, F4.out, HB72.out⟩
          · refine ⟨_, rfl, by rfl, fun K hK => ?_⟩
            obtain ⟨sc0, sc1, sc2, sf0, sf1, sf2⟩ := cells3h F6.out
            go_simp
            clear sc0 sc1 sc2 sf0 sf1 sf2
            refine store_step HB69.out HZ0.out F6.out (fun v73 hb hsz hf ho => ?_)
            have hf1 := (ho v63.heap.size (by have := HS69.out; have := HS64.out; have := HS63.out; omega)).trans F1.out; have hf7 := (ho v64.heap.size (by have := HS69.out; have := HS64.out; have := HS63.out; omega)).trans F7.out; have HB73 := Lib.hid hb; have HZ73 := Lib.hid (below_size hb); have HS73 := Lib.hid hsz; clear F6; have F6 := Lib.hid hf
            clear F1; have F1 := Lib.hid hf1; clear hf1; clear F7; have F7 := Lib.hid hf7; clear hf7; clear hb hf ho hsz
            (try simp only [Act.put, List.setIfInBounds_toArray, List.set_cons_zero, List.set_cons_succ])
            refine hK.out _ _ (fun _ _ => HB73.out) (fun hHeld' => ?_)
            replace hHeld := hHeld' (by rfl) (by decide)
            clear hK hHeld'
            (try simp only [Act.put, List.setIfInBounds_toArray, List.set_cons_zero, List.set_cons_succ])
            refine E_one 4 (by kernel_rfl) rfl (by rfl) (fun K hK => ?_)
            go_simp
            refine alloc_step HB73.out HZ73.out (fun v74 hb hs hf hk => ?_)
            have hf6 := hk _ _ F6.out; have hf1 := hk _ _ F1.out; have hf7 := hk _ _ F7.out; have HB74 := Lib.hid hb; have HZ74 := Lib.hid (below_size hb); have HS74 := Lib.hid hs; have F4 := Lib.hid hf
            clear F6; have F6 := Lib.hid hf6; clear hf6; clear F1; have F1 := Lib.hid hf1; clear hf1; clear F7; have F7 := Lib.hid hf7; clear hf7; clear hb hf hs hk
            (try simp only [Act.put, List.setIfInBounds_toArray, List.set_cons_zero, List.set_cons_succ])
            refine hK.out _ _ (fun _ _ => HB74.out) (fun hHeld' => ?_)
            replace hHeld := hHeld' (by rfl) (by decide)
            clear hK hHeld'
            (try simp only [Act.put, List.setIfInBounds_toArray, List.set_cons_zero, List.set_cons_succ])
            refine E_take0 hQ (fun _ => hHeld) 5 (v := ?tv20) rfl rfl (by kernel_rfl) (by kernel_rfl) (by kernel_rfl) (by decide) (by rfl) ?ty20 ?tr20
            case ty20 => (intro w; go_simp; (try with_reducible rfl))
            (try simp only [Act.put, List.setIfInBounds_toArray, List.set_cons_zero, List.set_cons_succ])
            refine E_one 9 (by kernel_rfl) rfl (by rfl) (fun K hK => ?_)
            obtain ⟨sc0, sc1, sc2, sf0, sf1, sf2⟩ := cells3h F7.out
            go_simp
            clear sc0 sc1 sc2 sf0 sf1 sf2
            refine store_step HB74.out HZ64.out F7.out (fun v75 hb hsz hf ho => ?_)
            have hf6 := (ho v0.heap.size (by have := HS74.out; have := HS73.out; have := HS69.out; have := HS64.out; have := HS63.out; omega)).trans F6.out; have hf1 := (ho v63.heap.size (by have := HS74.out; have := HS73.out; have := HS69.out; have := HS64.out; have := HS63.out; omega)).trans F1.out; have hf4 := (ho v73.heap.size (by have := HS74.out; have := HS73.out; have := HS69.out; have := HS64.out; have := HS63.out; omega)).trans F4.out; have HB75 := Lib.hid hb; have HZ75 := Lib.hid (below_size hb); have HS75 := Lib.hid hsz; clear F7; have F7 := Lib.hid hf
            clear F6; have F6 := Lib.hid hf6; clear hf6; clear F1; have F1 := Lib.hid hf1; clear hf1; clear F4; have F4 := Lib.hid hf4; clear hf4; clear hb hf ho hsz
            (try simp only [Act.put, List.setIfInBounds_toArray, List.set_cons_zero, List.set_cons_succ])
            refine hK.out _ _ (fun _ h => absurd rfl h) (fun _ => ?_)
            clear hK hHeld
            (try simp only [Act.put, List.setIfInBounds_toArray, List.set_cons_zero, List.set_cons_succ])
            refine E_done (by kernel_rfl) ?_ _
            refine hK'.out _ _ ?_
            go_wp2_with fail
            go_meet
            exact ⟨_, _, _, _, rfl, rfl, F6.out, F7.out, F1.out, F4.out, HB75.out⟩
      · refine ⟨_, rfl, by rfl, fun K hK => ?_⟩
        go_simp
        refine alloc_step HB63.out HZ63.out (fun v76 hb hs hf hk => ?_)
        have hf6 := hk _ _ F6.out; have HB76 := Lib.hid hb; have HZ76 := Lib.hid (below_size hb); have HS76 := Lib.hid hs; have F4 := Lib.hid hf
        clear F6; have F6 := Lib.hid hf6; clear hf6; clear hb hf hs hk
        (try simp only [Act.put, List.setIfInBounds_toArray, List.set_cons_zero, List.set_cons_succ])
        refine hK.out _ _ (fun _ _ => HB76.out) (fun hHeld' => ?_)
        replace hHeld := hHeld' (by rfl) (by decide)
        clear hK hHeld'
        (try simp only [Act.put, List.setIfInBounds_toArray, List.set_cons_zero, List.set_cons_succ])
        refine E_take0 hQ (fun _ => hHeld) 5 (v := ?tv21) rfl rfl (by kernel_rfl) (by kernel_rfl) (by kernel_rfl) (by decide) (by rfl) ?ty21 ?tr21
        case ty21 => (intro w; go_simp; (try with_reducible rfl))
        (try simp only [Act.put, List.setIfInBounds_toArray, List.set_cons_zero, List.set_cons_succ])
        refine E_pick [1, 7] (by kernel_rfl) (by decide) ?_
        intro i hi
        simp only [List.mem_cons, List.not_mem_nil, or_false] at hi
        rcases hi with rfl | rfl
        · refine ⟨_, rfl, by rfl, fun K hK => ?_⟩
          go_simp
          refine alloc_step HB76.out HZ76.out (fun v77 hb hs hf hk => ?_)
          have hf6 := hk _ _ F6.out; have hf4 := hk _ _ F4.out; have HB77 := Lib.hid hb; have HZ77 := Lib.hid (below_size hb); have HS77 := Lib.hid hs; have F1 := Lib.hid hf
          clear F6; have F6 := Lib.hid hf6; clear hf6; clear F4; have F4 := Lib.hid hf4; clear hf4; clear hb hf hs hk
          (try simp only [Act.put, List.setIfInBounds_toArray, List.set_cons_zero, List.set_cons_succ])
          refine hK.out _ _ (fun _ _ => HB77.out) (fun hHeld' => ?_)
          replace hHeld := hHeld' (by rfl) (by decide)
          clear hK hHeld'
          (try simp only [Act.put, List.setIfInBounds_toArray, List.set_cons_zero, List.set_cons_succ])
          refine E_take0 hQ (fun _ => hHeld) 2 (v := ?tv22) rfl rfl (by kernel_rfl) (by kernel_rfl) (by kernel_rfl) (by decide) (by rfl) ?ty22 ?tr22
          case ty22 => (intro w; go_simp; (try with_reducible rfl))
          (try simp only [Act.put, List.setIfInBounds_toArray, List.set_cons_zero, List.set_cons_succ])
          refine E_one 7 (by kernel_rfl) rfl (by rfl) (fun K hK => ?_)
          go_simp
          refine alloc_step HB77.out HZ77.out (fun v78 hb hs hf hk => ?_)
          have hf6 := hk _ _ F6.out; have hf4 := hk _ _ F4.out; have hf1 := hk _ _ F1.out; have HB78 := Lib.hid hb; have HZ78 := Lib.hid (below_size hb); have HS78 := Lib.hid hs; have F7 := Lib.hid hf
          clear F6; have F6 := Lib.hid hf6; clear hf6; clear F4; have F4 := Lib.hid hf4; clear hf4; clear F1; have F1 := Lib.hid hf1; clear hf1; clear hb hf hs hk
          (try simp only [Act.put, List.setIfInBounds_toArray, List.set_cons_zero, List.set_cons_succ])
          refine hK.out _ _ (fun _ _ => HB78.out) (fun hHeld' => ?_)
          replace hHeld := hHeld' (by rfl) (by decide)
          clear hK hHeld'
          (try simp only [Act.put, List.setIfInBounds_toArray, List.set_cons_zero, List.set_cons_succ])
          refine E_one 8 (by kernel_rfl) rfl (by rfl) (fun K hK => ?_)
          obtain ⟨sc0, sc1, sc2, sf0, sf1, sf2⟩ := cells3h F6.out
          go_simp
          clear sc0 sc1 sc2 sf0 sf1 sf2
          refine store_step HB78.out HZ0.out F6.out (fun v79 hb hsz hf ho => ?_)
          have hf4 := (ho v63.heap.size (by have := HS78.out; have := HS77.out; have := HS76.out; have := HS63.out; omega)).trans F4.out; have hf1 := (ho v76.heap.size (by have := HS78.out; have := HS77.out; have := HS76.out; have := HS63.out; omega)).trans F1.out; have hf7 := (ho v77.heap.size (by have := HS78.out; have := HS77.out; have := HS76.out; have := HS63.out; omega)).trans F7.out; have HB79 := Lib.hid hb; have HZ79 := Lib.hid (below_size hb); have HS79 := Lib.hid hsz; clear F6; have F6 := Lib.hid hf
          clear F4; have F4 := Lib.hid hf4; clear hf4; clear F1; have F1 := Lib.hid hf1; clear hf1; clear F7; have F7 := Lib.hid hf7; clear hf7; clear hb hf ho hsz
          (try simp only [Act.put, List.setIfInBounds_toArray, List.set_cons_zero, List.set_cons_succ])
          refine hK.out _ _ (fun _ _ => HB79.out) (fun hHeld' => ?_)
          replace hHeld := hHeld' (by rfl) (by decide)
          clear hK hHeld'
          (try simp only [Act.put, List.setIfInBounds_toArray, List.set_cons_zero, List.set_cons_succ])
          refine E_one 9 (by kernel_rfl) rfl (by rfl) (fun K hK => ?_)
          obtain ⟨sc0, sc1, sc2, sf0, sf1, sf2⟩ := cells3h F7.out
          go_simp
          clear sc0 sc1 sc2 sf0 sf1 sf2
          refine store_step HB79.out HZ77.out F7.out (fun v80 hb hsz hf ho => ?_)
          have hf6 := (ho v0.heap.size (by have := HS79.out; have := HS78.out; have := HS77.out; have := HS76.out; have := HS63.out; omega)).trans F6.out; have hf4 := (ho v63.heap.size (by have := HS79.out; have := HS78.out; have := HS77.out; have := HS76.out; have := HS63.out; omega)).trans F4.out; have hf1 := (ho v76.heap.size (by have := HS79.out; have := HS78.out; have := HS77.out; have := HS76.out; have := HS63.out; omega)).trans F1.out; have HB80 := Lib.hid hb; have HZ80 := Lib.hid (below_size hb); have HS80 := Lib.hid hsz; clear F7; have F7 := Lib.hid hf
          clear F6; have F6 := Lib.hid hf6; clear hf6; clear F4; have F4 := Lib.hid hf4; clear hf4; clear F1; have F1 := Lib.hid hf1; clear hf1; clear hb hf ho hsz
          (try simp only [Act.put, List.setIfInBounds_toArray, List.set_cons_zero, List.set_cons_succ])
          refine hK.out _ _ (fun _ h => absurd rfl h) (fun _ => ?_)
          clear hK hHeld
          (try simp only [Act.put, List.setIfInBounds_toArray, List.set_cons_zero, List.set_cons_succ])
          refine E_done (by kernel_rfl) ?_ _
          refine hK'.out _ _ ?_
          go_wp2_with fail
          go_meet
          exact ⟨_, _, _, _, rfl, rfl, F6.out, F7.out, F1.out, F4.out, HB80.out⟩
        · refine ⟨_, rfl, by rfl, fun K hK => ?_⟩
          go_simp
          refine alloc_step HB76.out HZ76.out (fun v81 hb hs hf hk => ?_)
          have hf6 := hk _ _ F6.out; have hf4 := hk _ _ F4.out; have HB81 := Lib.hid hb; have HZ81 := Lib.hid (below_size hb); have HS81 := Lib.hid hs; have F7 := Lib.hid hf
          clear F6; have F6 := Lib.hid hf6; clear hf6; clear F4; have F4 := Lib.hid hf4; clear hf4; clear hb hf hs hk
          (try simp only [Act.put, List.setIfInBounds_toArray, List.set_cons_zero, List.set_cons_succ])
          refine hK.out _ _ (fun _ _ => HB81.out) (fun hHeld' => ?_)
          replace hHeld := hHeld' (by rfl) (by decide)
          clear hK hHeld'
          (try simp only [Act.put, List.setIfInBounds_toArray, List.set_cons_zero, List.set_cons_succ])
          refine E_one 1 (by kernel_rfl) rfl (by rfl) (fun K hK => ?_)
          go_simp
          refine alloc_step HB81.out HZ81.out (fun v82 hb hs hf hk => ?_)
          have hf6 := hk _ _ F6.out; have hf4 := hk _ _ F4.out; have hf7 := hk _ _ F7.out; have HB82 := Lib.hid hb; have HZ82 := Lib.hid (below_size hb); have HS82 := Lib.hid hs; have F1 := Lib.hid hf
          clear F6; have F6 := Lib.hid hf6; clear hf6; clear F4; have F4 := Lib.hid hf4; clear hf4; clear F7; have F7 := Lib.hid hf7; clear hf7; clear hb hf hs hk
          (try simp only [Act.put, List.setIfInBounds_toArray, List.set_cons_zero, List.set_cons_succ])
          refine hK.out _ _ (fun _ _ => HB82.out) (fun hHeld' => ?_)
          replace hHeld := hHeld' (by rfl) (by decide)
          clear hK hHeld'
          (try simp only [Act.put, List.setIfInBounds_toArray, List.set_cons_zero, List.set_cons_succ])
          refine E_take0 hQ (fun _ => hHeld) 2 (v := ?tv23) rfl rfl (by kernel_rfl) (by kernel_rfl) (by kernel_rfl) (by decide) (by rfl) ?ty23 ?tr23
          case ty23 => (intro w; go_simp; (try with_reducible rfl))
          (try simp only [Act.put, List.setIfInBounds_toArray, List.set_cons_zero, List.set_cons_succ])
          refine E_one 8 (by kernel_rfl) rfl (by rfl) (fun K hK => ?_)
          obtain ⟨sc0, sc1, sc2, sf0, sf1, sf2⟩ := cells3h F6.out
          go_simp
          clear sc0 sc1 sc2 sf0 sf1 sf2
          refine store_step HB82.out HZ0.out F6.out (fun v83 hb hsz hf ho => ?_)
          have hf4 := (ho v63.heap.size (by have := HS82.out; have := HS81.out; have := HS76.out; have := HS63.out; omega)).trans F4.out; have hf7 := (ho v76.heap.size (by have := HS82.out; have := HS81.out; have := HS76.out; have := HS63.out; omega)).trans F7.out; have hf1 := (ho v81.heap.size (by have := HS82.out; have := HS81.out; have := HS76.out; have := HS63.out; omega)).trans F1.out; have HB83 := Lib.hid hb; have HZ83 := Lib.hid (below_size hb); have HS83 := Lib.hid hsz; clear F6; have F6 := Lib.hid hf
          clear F4; have F4 := Lib.hid hf4; clear hf4; clear F7; have F7 := Lib.hid hf7; clear hf7; clear F1; have F1 := Lib.hid hf1; clear hf1; clear hb hf ho hsz
          (try simp only [Act.put, List.setIfInBounds_toArray, List.set_cons_zero, List.set_cons_succ])
          refine hK.out _ _ (fun _ _ => HB83.out) (fun hHeld' => ?_)
          replace hHeld := hHeld' (by rfl) (by decide)
          clear hK hHeld'
          (try simp only [Act.put, List.setIfInBounds_toArray, List.set_cons_zero, List.set_cons_succ])
          refine E_one 9 (by kernel_rfl) rfl (by rfl) (fun K hK => ?_)
          obtain ⟨sc0, sc1, sc2, sf0, sf1, sf2⟩ := cells3h F7.out
          go_simp
          clear sc0 sc1 sc2 sf0 sf1 sf2
          refine store_step HB83.out HZ76.out F7.out (fun v84 hb hsz hf ho => ?_)
          have hf6 := (ho v0.heap.size (by have := HS83.out; have := HS82.out; have := HS81.out; have := HS76.out; have := HS63.out; omega)).trans F6.out; have hf4 := (ho v63.heap.size (by have := HS83.out; have := HS82.out; have := HS81.out; have := HS76.out; have := HS63.out; omega)).trans F4.out; have hf1 := (ho v81.heap.size (by have := HS83.out; have := HS82.out; have := HS81.out; have := HS76.out; have := HS63.out; omega)).trans F1.out; have HB84 := Lib.hid hb; have HZ84 := Lib.hid (below_size hb); have HS84 := Lib.hid hsz; clear F7; have F7 := Lib.hid hf
          clear F6; have F6 := Lib.hid hf6; clear hf6; clear F4; have F4 := Lib.hid hf4; clear hf4; clear F1; have F1 := Lib.hid hf1; clear hf1; clear hb hf ho hsz
          (try simp only [Act.put, List.setIfInBounds_toArray, List.set_cons_zero, List.set_cons_succ])
          refine hK.out _ _ (fun _ h => absurd rfl h) (fun _ => ?_)
          clear hK hHeld
          (try simp only [Act.put, List.setIfInBounds_toArray, List.set_cons_zero, List.set_cons_succ])
          refine E_done (by kernel_rfl) ?_ _
          refine hK'.out _ _ ?_
          go_wp2_with fail
          go_meet
          exact ⟨_, _, _, _, rfl, rfl, F6.out, F7.out, F1.out, F4.out, HB84.out⟩
      · refine ⟨_, rfl, by rfl, fun K hK => ?_⟩
        go_simp
        refine alloc_step HB63.out HZ63.out (fun v85 hb hs hf hk => ?_)
        have hf6 := hk _ _ F6.out; have HB85 := Lib.hid hb; have HZ85 := Lib.hid (below_size hb); have HS85 := Lib.hid hs; have F7 := Lib.hid hf
        clear F6; have F6 := Lib.hid hf6; clear hf6; clear hb hf hs hk
        (try simp only [Act.put, List.setIfInBounds_toArray, List.set_cons_zero, List.set_cons_succ])
        refine hK.out _ _ (fun _ _ => HB85.out) (fun hHeld' => ?_)
        replace hHeld := hHeld' (by rfl) (by decide)
        clear hK hHeld'
        (try simp only [Act.put, List.setIfInBounds_toArray, List.set_cons_zero, List.set_cons_succ])
        refine E_pick [1, 4] (by kernel_rfl) (by decide) ?_
        intro i hi
        simp only [List.mem_cons, List.not_mem_nil, or_false] at hi
        rcases hi with rfl | rfl
        · refine ⟨_, rfl, by rfl, fun K hK => ?_⟩
          go_simp
          refine alloc_step HB85.out HZ85.out (fun v86 hb hs hf hk => ?_)
          have hf6 := hk _ _ F6.out; have hf7 := hk _ _ F7.out; have HB86 := Lib.hid hb; have HZ86 := Lib.hid (below_size hb); have HS86 := Lib.hid hs; have F1 := Lib.hid hf
          clear F6; have F6 := Lib.hid hf6; clear hf6; clear F7; have F7 := Lib.hid hf7; clear hf7; clear hb hf hs hk
          (try simp only [Act.put, List.setIfInBounds_toArray, List.set_cons_zero, List.set_cons_succ])
          refine hK.out _ _ (fun _ _ => HB86.out) (fun hHeld' => ?_)
          replace hHeld := hHeld' (by rfl) (by decide)
          clear hK hHeld'
          (try simp only [Act.put, List.setIfInBounds_toArray, List.set_cons_zero, List.set_cons_succ])
          refine E_take0 hQ (fun _ => hHeld) 2 (v := ?tv24) rfl rfl (by kernel_rfl) (by kernel_rfl) (by kernel_rfl) (by decide) (by rfl) ?ty24 ?tr24
          case ty24 => (intro w; go_simp; (try with_reducible rfl))
          (try simp only [Act.put, List.setIfInBounds_toArray, List.set_cons_zero, List.set_cons_succ])
          refine E_pick [4, 8] (by kernel_rfl) (by decide) ?_
          intro i hi
          simp only [List.mem_cons, List.not_mem_nil, or_false] at hi
          rcases hi with rfl | rfl
          · refine ⟨_, rfl, by rfl, fun K hK => ?_⟩
            go_simp
            refine alloc_step HB86.out HZ86.out (fun v87 hb hs hf hk => ?_)
            have hf6 := hk _ _ F6.out; have hf7 := hk _ _ F7.out; have hf1 := hk _ _ F1.out; have HB87 := Lib.hid hb; have HZ87 := Lib.hid (below_size hb); have HS87 := Lib.hid hs; have F4 := Lib.hid hf
            clear F6; have F6 := Lib.hid hf6; clear hf6; clear F7; have F7 := Lib.hid hf7; clear hf7; clear F1; have F1 := Lib.hid hf1; clear hf1; clear hb hf hs hk
            (try simp only [Act.put, List.setIfInBounds_toArray, List.set_cons_zero, List.set_cons_succ])
            refine hK.out _ _ (fun _ _ => HB87.out) (fun hHeld' => ?_)
            replace hHeld := hHeld' (by rfl) (by decide)
            clear hK hHeld'
            (try simp only [Act.put, List.setIfInBounds_toArray, List.set_cons_zero, List.set_cons_succ])
            refine E_take0 hQ (fun _ => hHeld) 5 (v := ?tv25) rfl rfl (by kernel_rfl) (by kernel_rfl) (by kernel_rfl) (by decide) (by rfl) ?ty25 ?tr25
            case ty25 => (intro w; go_simp; (try with_reducible rfl))
            (try simp only [Act.put, List.setIfInBounds_toArray, List.set_cons_zero, List.set_cons_succ])
            refine E_one 8 (by kernel_rfl) rfl (by rfl) (fun K hK => ?_)
            obtain ⟨sc0, sc1, sc2, sf0, sf1, sf2⟩ := cells3h F6.out
            go_simp
            clear sc0 sc1 sc2 sf0 sf1 sf2
            refine store_step HB87.out HZ0.out F6.out (fun v88 hb hsz hf ho => ?_)
            have hf7 := (ho v63.heap.size (by have := HS87.out; have := HS86.out; have := HS85.out; have := HS63.out; omega)).trans F7.out; have hf1 := (ho v85.heap.size (by have := HS87.out; have := HS86.out; have := HS85.out; have := HS63.out; omega)).trans F1.out; have hf4 := (ho v86.heap.size (by have := HS87.out; have := HS86.out; have := HS85.out; have := HS63.out; omega)).trans F4.out; have HB88 := Lib.hid hb; have HZ88 := Lib.hid (below_size hb); have HS88 := Lib.hid hsz; clear F6; have F6 := Lib.hid hf
            clear F7; have F7 := Lib.hid hf7; clear hf7; clear F1; have F1 := Lib.hid hf1; clear hf1; clear F4; have F4 := Lib.hid hf4; clear hf4; clear hb hf ho hsz
            (try simp only [Act.put, List.setIfInBounds_toArray, List.set_cons_zero, List.set_cons_succ])
            refine hK.out _ _ (fun _ _ => HB88.out) (fun hHeld' => ?_)
            replace hHeld := hHeld' (by rfl) (by decide)
            clear hK hHeld'
            (try simp only [Act.put, List.setIfInBounds_toArray, List.set_cons_zero, List.set_cons_succ])
            refine E_one 9 (by kernel_rfl) rfl (by rfl) (fun K hK => ?_)
            obtain ⟨sc0, sc1, sc2, sf0, sf1, sf2⟩ := cells3h F7.out
            go_simp
            clear sc0 sc1 sc2 sf0 sf1 sf2
            refine store_step HB88.out HZ63.out F7.out (fun v89 hb hsz hf ho => ?_)
            have hf6 := (ho v0.heap.size (by have := HS88.out; have := HS87.out; have := HS86.out; have := HS85.out; have := HS63.out; omega)).trans F6.out; have hf1 := (ho v85.heap.size (by have := HS88.out; have := HS87.out; have := HS86.out; have := HS85.out; have := HS63.out; omega)).trans F1.out; have hf4 := (ho v86.heap.size (by have := HS88.out; have := HS87.out; have := HS86.out; have := HS85.out; have := HS63.out; omega)).trans F4.out; have HB89 := Lib.hid hb; have HZ89 := Lib.hid (below_size hb); have HS89 := Lib.hid hsz; clear F7; have F7 := Lib.hid hf
            clear F6; have F6 := Lib.hid hf6; clear hf6; clear F1; have F1 := Lib.hid hf1; clear hf1; clear F4; have F4 := Lib.hid hf4; clear hf4; clear hb hf ho hsz
            (try simp only [Act.put, List.setIfInBounds_toArray, List.set_cons_zero, List.set_cons_succ])
            refine hK.out _ _ (fun _ h => absurd rfl h) (fun _ => ?_)
            clear hK hHeld
            (try simp only [Act.put, List.setIfInBounds_toArray, List.set_cons_zero, List.set_cons_succ])
            refine E_done (by kernel_rfl) ?_ _
            refine hK'.out _ _ ?_
            go_wp2_with fail
            go_meet
            exact ⟨_, _, _, _, rfl, rfl, F6.out, F7.out, F1.out, F4.out, HB89.out⟩
          · refine ⟨_, rfl, by rfl, fun K hK => ?_⟩
            obtain ⟨sc0, sc1, sc2, sf0, sf1, sf2⟩ := cells3h F6.out
            go_simp
            clear sc0 sc1 sc2 sf0 sf1 sf2
            refine store_step HB86.out HZ0.out F6.out (fun v90 hb hsz hf ho => ?_)
            have hf7 := (ho v63.heap.size (by have := HS86.out; have := HS85.out; have := HS63.out; omega)).trans F7.out; have hf1 := (ho v85.heap.size (by have := HS86.out; have := HS85.out; have := HS63.out; omega)).trans F1.out; have HB90 := Lib.hid hb; have HZ90 := Lib.hid (below_size hb); have HS90 := Lib.hid hsz; clear F6; have F6 := Lib.hid hf
            clear F7; have F7 := Lib.hid hf7; clear hf7; clear F1; have F1 := Lib.hid hf1; clear hf1; clear hb hf ho hsz
            (try simp only [Act.put, List.setIfInBounds_toArray, List.set_cons_zero, List.set_cons_succ])
            refine hK.out _ _ (fun _ _ => HB90.out) (fun hHeld' => ?_)
            replace hHeld := hHeld' (by rfl) (by decide)
            clear hK hHeld'
            (try simp only [Act.put, List.setIfInBounds_toArray, List.set_cons_zero, List.set_cons_succ])
            refine E_one 4 (by kernel_rfl) rfl (by rfl) (fun K hK => ?_)
            go_simp
            refine alloc_step HB90.out HZ90.out (fun v91 hb hs hf hk => ?_)
            have hf6 := hk _ _ F6.out; have hf7 := hk _ _ F7.out; have hf1 := hk _ _ F1.out; have HB91 := Lib.hid hb; have HZ91 := Lib.hid (below_size hb); have HS91 := Lib.hid hs; have F4 := Lib.hid hf
            clear F6; have F6 := Lib.hid hf6; clear hf6; clear F7; have F7 := Lib.hid hf7; clear hf7; clear F1; have F1 := Lib.hid hf1; clear hf1; clear hb hf hs hk
            (try simp only [Act.put, List.setIfInBounds_toArray, List.set_cons_zero, List.set_cons_succ])
            refine hK.out _ _ (fun _ _ => HB91.out) (fun hHeld' => ?_)
            replace hHeld := hHeld' (by rfl) (by decide)
            clear hK hHeld'
            (try simp only [Act.put, List.setIfInBounds_toArray, List.set_cons_zero, List.set_cons_succ])
            refine E_take0 hQ (fun _ => hHeld) 5 (v := ?tv26) rfl rfl (by kernel_rfl) (by kernel_rfl) (by kernel_rfl) (by decide) (by rfl) ?ty26 ?tr26
            case ty26 => (intro w; go_simp; (try with_reducible rfl))
            (try simp only [Act.put, List.setIfInBounds_toArray, List.set_cons_zero, List.set_cons_succ])
            refine E_one 9 (by kernel_rfl) rfl (by rfl) (fun K hK => ?_)
            obtain ⟨sc0, sc1, sc2, sf0, sf1, sf2⟩ := cells3h F7.out
            go_simp
            clear sc0 sc1 sc2 sf0 sf1 sf2
            refine store_step HB91.out HZ63.out F7.out (fun v92 hb hsz hf ho => ?_)
            have hf6 := (ho v0.heap.size (by have := HS91.out; have := HS90.out; have := HS86.out; have := HS85.out; have := HS63.out; omega)).trans F6.out; have hf1 := (ho v85.heap.size (by have := HS91.out; have := HS90.out; have := HS86.out; have := HS85.out; have := HS63.out; omega)).trans F1.out; have hf4 := (ho v90.heap.size (by have := HS91.out; have := HS90.out; have := HS86.out; have := HS85.out; have := HS63.out; omega)).trans F4.out; have HB92 := Lib.hid hb; have HZ92 := Lib.hid (below_size hb); have HS92 := Lib.hid hsz; clear F7; have F7 := Lib.hid hf
            clear F6; have F6 := Lib.hid hf6; clear hf6; clear F1; have F1 := Lib.hid hf1; clear hf1; clear F4; have F4 := Lib.hid hf4; clear hf4; clear hb hf ho hsz
            (try simp only [Act.put, List.setIfInBounds_toArray, List.set_cons_zero, List.set_cons_succ])
            refine hK.out _ _ (fun _ h => absurd rfl h) (fun _ => ?_)
            clear hK hHeld
            (try simp only [Act.put, List.setIfInBounds_toArray, List.set_cons_zero, List.set_cons_succ])
            refine E_done (by kernel_rfl) ?_ _
            refine hK'.out _ _ ?_
            go_wp2_with fail
            go_meet
            exact ⟨_, _, _, _, rfl, rfl, F6.out, F7.out, F1.out, F4.out, HB92.out⟩
        · refine ⟨_, rfl, by rfl, fun K hK => ?_⟩
          go_simp
          refine alloc_step HB85.out HZ85.out (fun v93 hb hs hf hk => ?_)
          have hf6 := hk _ _ F6.out; have hf7 := hk _ _ F7.out; have HB93 := Lib.hid hb; have HZ93 := Lib.hid (below_size hb); have HS93 := Lib.hid hs; have F4 := Lib.hid hf
          clear F6; have F6 := Lib.hid hf6; clear hf6; clear F7; have F7 := Lib.hid hf7; clear hf7; clear hb hf hs hk
          (try simp only [Act.put, List.setIfInBounds_toArray, List.set_cons_zero, List.set_cons_succ])
          refine hK.out _ _ (fun _ _ => HB93.out) (fun hHeld' => ?_)
          replace hHeld := hHeld' (by rfl) (by decide)
          clear hK hHeld'
          (try simp only [Act.put, List.setIfInBounds_toArray, List.set_cons_zero, List.set_cons_succ])
          refine E_take0 hQ (fun _ => hHeld) 5 (v := ?tv27) rfl rfl (by kernel_rfl) (by kernel_rfl) (by kernel_rfl) (by decide) (by rfl) ?ty27 ?tr27
          case ty27 => (intro w; go_simp; (try with_reducible rfl))
          (try simp only [Act.put, List.setIfInBounds_toArray, List.set_cons_zero, List.set_cons_succ])
          refine E_one 1 (by kernel_rfl) rfl (by rfl) (fun K hK => ?_)
          go_simp
          refine alloc_step HB93.out HZ93.out (fun v94 hb hs hf hk => ?_)
          have hf6 := hk _ _ F6.out; have hf7 := hk _ _ F7.out; have hf4 := hk _ _ F4.out; have HB94 := Lib.hid hb; have HZ94 := Lib.hid (below_size hb); have HS94 := Lib.hid hs; have F1 := Lib.hid hf
          clear F6; have F6 := Lib.hid hf6; clear hf6; clear F7; have F7 := Lib.hid hf7; clear hf7; clear F4; have F4 := Lib.hid hf4; clear hf4; clear hb hf hs hk
          (try simp only [Act.put, List.setIfInBounds_toArray, List.set_cons_zero, List.set_cons_succ])
          refine hK.out _ _ (fun _ _ => HB94.out) (fun hHeld' => ?_)
          replace hHeld := hHeld' (by rfl) (by decide)
          clear hK hHeld'
          (try simp only [Act.put, List.setIfInBounds_toArray, List.set_cons_zero, List.set_cons_succ])
          refine E_take0 hQ (fun _ => hHeld) 2 (v := ?tv28) rfl rfl (by kernel_rfl) (by kernel_rfl) (by kernel_rfl) (by decide) (by rfl) ?ty28 ?tr28
          case ty28 => (intro w; go_simp; (try with_reducible rfl))
          (try simp only [Act.put, List.setIfInBounds_toArray, List.set_cons_zero, List.set_cons_succ])
          refine E_one 8 (by kernel_rfl) rfl (by rfl) (fun K hK => ?_)
          obtain ⟨sc0, sc1, sc2, sf0, sf1, sf2⟩ := cells3h F6.out
          go_simp
          clear sc0 sc1 sc2 sf0 sf1 sf2
          refine store_step HB94.out HZ0.out F6.out (fun v95 hb hsz hf ho => ?_)
          have hf7 := (ho v63.heap.size (by have := HS94.out; have := HS93.out; have := HS85.out; have := HS63.out; omega)).trans F7.out; have hf4 := (ho v85.heap.size (by have := HS94.out; have := HS93.out; have := HS85.out; have := HS63.out; omega)).trans F4.out; have hf1 := (ho v93.heap.size (by have := HS94.out; have := HS93.out; have := HS85.out; have := HS63.out; omega)).trans F1.out; have HB95 := Lib.hid hb; have HZ95 := Lib.hid (below_size hb); have HS95 := Lib.hid hsz; clear F6; have F6 := Lib.hid hf
          clear F7; have F7 := Lib.hid hf7; clear hf7; clear F4; have F4 := Lib.hid hf4; clear hf4; clear F1; have F1 := Lib.hid hf1; clear hf1; clear hb hf ho hsz
          (try simp only [Act.put, List.setIfInBounds_toArray, List.set_cons_zero, List.set_cons_succ])
          refine hK.out _ _ (fun _ _ => HB95.out) (fun hHeld' => ?_)
          replace hHeld := hHeld' (by rfl) (by decide)
          clear hK hHeld'
          (try simp only [Act.put, List.setIfInBounds_toArray, List.set_cons_zero, List.set_cons_succ])
          refine E_one 9 (by kernel_rfl) rfl (by rfl) (fun K hK => ?_)
          obtain ⟨sc0, sc1, sc2, sf0, sf1, sf2⟩ := cells3h F7.out
          go_simp
          clear sc0 sc1 sc2 sf0 sf1 sf2
          refine store_step HB95.out HZ63.out F7.out (fun v96 hb hsz hf ho => ?_)
          have hf6 := (ho v0.heap.size (by have := HS95.out; have := HS94.out; have := HS93.out; have := HS85.out; have := HS63.out; omega)).trans F6.out; have hf4 := (ho v85.heap.size (by have := HS95.out; have := HS94.out; have := HS93.out; have := HS85.out; have := HS63.out; omega)).trans F4.out; have hf1 := (ho v93.heap.size (by have := HS95.out; have := HS94.out; have := HS93.out; have := HS85.out; have := HS63.out; omega)).trans F1.out; have HB96 := Lib.hid hb; have HZ96 := Lib.hid (below_size hb); have HS96 := Lib.hid hsz; clear F7; have F7 := Lib.hid hf
          clear F6; have F6 := Lib.hid hf6; clear hf6; clear F4; have F4 := Lib.hid hf4; clear hf4; clear F1; have F1 := Lib.hid hf1; clear hf1; clear hb hf ho hsz
          (try simp only [Act.put, List.setIfInBounds_toArray, List.set_cons_zero, List.set_cons_succ])
          refine hK.out _ _ (fun _ h => absurd rfl h) (fun _ => ?_)
          clear hK hHeld
          (try simp only [Act.put, List.setIfInBounds_toArray, List.set_cons_zero, List.set_cons_succ])
          refine E_done (by kernel_rfl) ?_ _
          refine hK'.out _ _ ?_
          go_wp2_with fail
          go_meet
          exact ⟨_, _, _, _, rfl, rfl, F6.out, F7.out, F1.out, F4.out, HB96.out⟩
    · refine ⟨_, rfl, by rfl, fun K hK => ?_⟩
      go_simp
      refine alloc_step HB0.out HZ0.out (fun v97 hb hs hf hk => ?_)
      have HB97 := Lib.hid hb; have HZ97 := Lib.hid (below_size hb); have HS97 := Lib.hid hs; have F7 := Lib.hid hf
      clear hb hf hs hk
      (try simp only [Act.put, List.setIfInBounds_toArray, List.set_cons_zero, List.set_cons_succ])
      refine hK.out _ _ (fun _ _ => HB97.out) (fun hHeld' => ?_)
      replace hHeld := hHeld' (by rfl) (by decide)
      clear hK hHeld'
      (try simp only [Act.put, List.setIfInBounds_toArray, List.set_cons_zero, List.set_cons_succ])
      refine E_pick [1, 4, 6] (by kernel_rfl) (by decide) ?_
      intro i hi
      simp only [List.mem_cons, List.not_mem_nil, or_false] at hi
      rcases hi with rfl | rfl | rfl
      · refine ⟨_, rfl, by rfl, fun K hK => ?_⟩
        go_simp
        refine alloc_step HB97.out HZ97.out (fun v98 hb hs hf hk => ?_)
        have hf7 := hk _ _ F7.out; have HB98 := Lib.hid hb; have HZ98 := Lib.hid (below_size hb); have HS98 := Lib.hid hs; have F1 := Lib.hid hf
        clear F7; have F7 := Lib.hid hf7; clear hf7; clear hb hf hs hk
        (try simp only [Act.put, List.setIfInBounds_toArray, List.set_cons_zero, List.set_cons_succ])
        refine hK.out _ _ (fun _ _ => HB98.out) (fun hHeld' => ?_)
        replace hHeld := hHeld' (by rfl) (by decide)
        clear hK hHeld'
        (try simp only [Act.put, List.setIfInBounds_toArray, List.set_cons_zero, List.set_cons_succ])
        refine E_take0 hQ (fun _ => hHeld) 2 (v := ?tv29) rfl rfl (by kernel_rfl) (by kernel_rfl) (by kernel_rfl) (by decide) (by rfl) ?ty29 ?tr29
        case ty29 => (intro w; go_simp; (try with_reducible rfl))
        (try simp only [Act.put, List.setIfInBounds_toArray, List.set_cons_zero, List.set_cons_succ])
        refine E_pick [4, 6] (by kernel_rfl) (by decide) ?_
        intro i hi
        simp only [List.mem_cons, List.not_mem_nil, or_false] at hi
        rcases hi with rfl | rfl
        · refine ⟨_, rfl, by rfl, fun K hK => ?_⟩
          go_simp
          refine alloc_step HB98.out HZ98.out (fun v99 hb hs hf hk => ?_)
          have hf7 := hk _ _ F7.out; have hf1 := hk _ _ F1.out; have HB99 := Lib.hid hb; have HZ99 := Lib.hid (below_size hb); have HS99 := Lib.hid hs; have F4 := Lib.hid hf
          clear F7; have F7 := Lib.hid hf7; clear hf7; clear F1; have F1 := Lib.hid hf1; clear hf1; clear hb hf hs hk
          (try simp only [Act.put, List.setIfInBounds_toArray, List.set_cons_zero, List.set_cons_succ])
          refine hK.out _ _ (fun _ _ => HB99.out) (fun hHeld' => ?_)
          replace hHeld := hHeld' (by rfl) (by decide)
          clear hK hHeld'
          (try simp only [Act.put, List.setIfInBounds_toArray, List.set_cons_zero, List.set_cons_succ])
          refine E_take0 hQ (fun _ => hHeld) 5 (v := ?tv30) rfl rfl (by kernel_rfl) (by kernel_rfl) (by kernel_rfl) (by decide) (by rfl) ?ty30 ?tr30
          case ty30 => (intro w; go_simp; (try with_reducible rfl))
          (try simp only [Act.put, List.setIfInBounds_toArray, List.set_cons_zero, List.set_cons_succ])
          refine E_one 6 (by kernel_rfl) rfl (by rfl) (fun K hK => ?_)
          go_simp
          refine alloc_step HB99.out HZ99.out (fun v100 hb hs hf hk => ?_)
          have hf7 := hk _ _ F7.out; have hf1 := hk _ _ F1.out; have hf4 := hk _ _ F4.out; have HB100 := Lib.hid hb; have HZ100 := Lib.hid (below_size hb); have HS100 := Lib.hid hs; have F6 := Lib.hid hf
          clear F7; have F7 := Lib.hid hf7; clear hf7; clear F1; have F1 := Lib.hid hf1; clear hf1; clear F4; have F4 := Lib.hid hf4; clear hf4; clear hb hf hs hk
          (try simp only [Act.put, List.setIfInBounds_toArray, List.set_cons_zero, List.set_cons_succ])
          refine hK.out _ _ (fun _ _ => HB100.out) (fun hHeld' => ?_)
          replace hHeld := hHeld' (by rfl) (by decide)
          clear hK hHeld'
          (try simp only [Act.put, List.setIfInBounds_toArray, List.set_cons_zero, List.set_cons_succ])
          refine E_one 8 (by kernel_rfl) rfl (by rfl) (fun K hK => ?_)
          obtain ⟨sc0, sc1, sc2, sf0, sf1, sf2⟩ := cells3h F6.out
          go_simp
          clear sc0 sc1 sc2 sf0 sf1 sf2
          refine store_step HB100.out HZ99.out F6.out (fun v101 hb hsz hf ho => ?_)
          have hf7 := (ho v0.heap.size (by have := HS100.out; have := HS99.out; have := HS98.out; have := HS97.out; omega)).trans F7.out; have hf1 := (ho v97.heap.size (by have := HS100.out; have := HS99.out; have := HS98.out; have := HS97.out; omega)).trans F1.out; have hf4 := (ho v98.heap.size (by have := HS100.out; have := HS99.out; have := HS98.out; have := HS97.out; omega)).trans F4.out; have HB101 := Lib.hid hb; have HZ101 := Lib.hid (below_size hb); have HS101 := Lib.hid hsz; clear F6; have F6 := Lib.hid hf
          clear F7; have F7 := Lib.hid hf7; clear hf7; clear F1; have F1 := Lib.hid hf1; clear hf1; clear F4; have F4 := Lib.hid hf4; clear hf4; clear hb hf ho hsz
          (try simp only [Act.put, List.setIfInBounds_toArray, List.set_cons_zero, List.set_cons_succ])
          refine hK.out _ _ (fun _ _ => HB101.out) (fun hHeld' => ?_)
          replace hHeld := hHeld' (by rfl) (by decide)
          clear hK hHeld'
          (try simp only [Act.put, List.setIfInBounds_toArray, List.set_cons_zero, List.set_cons_succ])
          refine E_one 9 (by kernel_rfl) rfl (by rfl) (fun K hK => ?_)
          obtain ⟨sc0, sc1, sc2, sf0, sf1, sf2⟩ := cells3h F7.out
          go_simp
          clear sc0 sc1 sc2 sf0 sf1 sf2
          refine store_step HB101.out HZ0.out F7.out (fun v102 hb hsz hf ho => ?_)
          have hf1 := (ho v97.heap.size (by have := HS101.out; have := HS100.out; have := HS99.out; have := HS98.out; have := HS97.out; omega)).trans F1.out; have hf4 := (ho v98.heap.size (by have := HS101.out; have := HS100.out; have := HS99.out; have := HS98.out; have := HS97.out; omega)).trans F4.out; have hf6 := (ho v99.heap.size (by have := HS101.out; have := HS100.out; have := HS99.out; have := HS98.out; have := HS97.out; omega)).trans F6.out; have HB102 := Lib.hid hb; have HZ102 := Lib.hid (below_size hb); have HS102 := Lib.hid hsz; clear F7; have F7 := Lib.hid hf
          clear F1; have F1 := Lib.hid hf1; clear hf1; clear F4; have F4 := Lib.hid hf4; clear hf4; clear F6; have F6 := Lib.hid hf6; clear hf6; clear hb hf ho hsz
          (try simp only [Act.put, List.setIfInBounds_toArray, List.set_cons_zero, List.set_cons_succ])
          refine hK.out _ _ (fun _ h => absurd rfl h) (fun _ => ?_)
          clear hK hHeld
          (try simp only [Act.put, List.setIfInBounds_toArray, List.set_cons_zero, List.set_cons_succ])
          refine E_done (by kernel_rfl) ?_ _
          refine hK'.out _ _ ?_
          go_wp2_with fail
          go_meet
          exact ⟨_, _, _, _, rfl, rfl, F6.out, F7.out, F1.out, F4.out, HB102.out⟩
        · refine ⟨_, rfl, by rfl, fun K hK => ?_⟩
          go_simp
          refine alloc_step HB98.out HZ98.out (fun v103 hb hs hf hk => ?_)
          have hf7 := hk _ _ F7.out; have hf1 := hk _ _ F1.out; have HB103 := Lib.hid hb; have HZ103 := Lib.hid (below_size hb); have HS103 := Lib.hid hs; have F6 := Lib.hid hf
          clear F7; have F7 := Lib.hid hf7; clear hf7; clear F1; have F1 := Lib.hid hf1; clear hf1; clear hb hf hs hk
          (try simp only [Act.put, List.setIfInBounds_toArray, List.set_cons_zero, List.set_cons_succ])
          refine hK.out _ _ (fun _ _ => HB103.out) (fun hHeld' => ?_)
          replace hHeld := hHeld' (by rfl) (by decide)
          clear hK hHeld'
          (try simp only [Act.put, List.setIfInBounds_toArray, List.set_cons_zero, List.set_cons_succ])
          refine E_pick [4, 8] (by kernel_rfl) (by decide) ?_
          intro i hi
          simp only [List.mem_cons, List.not_mem_nil, or_false] at hi
          rcases hi with rfl | rfl
          · refine ⟨_, rfl, by rfl, fun K hK => ?_⟩
            go_simp
            refine alloc_step HB103.out HZ103.out (fun v104 hb hs hf hk => ?_)
            have hf7 := hk _ _ F7.out; have hf1 := hk _ _ F1.out; have hf6 := hk _ _ F6.out; have HB104 := Lib.hid hb; have HZ104 := Lib.hid (below_size hb); have HS104 := Lib.hid hs; have F4 := Lib.hid hf
            clear F7; have F7 := Lib.hid hf7; clear hf7; clear F1; have F1 := Lib.hid hf1; clear hf1; clear F6; have F6 := Lib.hid hf6; clear hf6; clear hb hf hs hk
            (try simp only [Act.put, List.setIfInBounds_toArray, List.set_cons_zero, List.set_cons_succ])
            refine hK.out _ _ (fun _ _ => HB104.out) (fun hHeld' => ?_)
            replace hHeld := hHeld' (by rfl) (by decide)
            clear hK hHeld'
            (try simp only [Act.put, List.setIfInBounds_toArray, List.set_cons_zero, List.set_cons_succ])
            refine E_take0 hQ (fun _ => hHeld) 5 (v := ?tv31) rfl rfl (by kernel_rfl) (by kernel_rfl) (by kernel_rfl) (by decide) (by rfl) ?ty31 ?tr31
            case ty31 => (intro w; go_simp; (try with_reducible rfl))
            (try simp only [Act.put, List.setIfInBounds_toArray, List.set_cons_zero, List.set_cons_succ])
            refine E_one 8 (by kernel_rfl) rfl (by rfl) (fun K hK => ?_)
            obtain ⟨sc0, sc1, sc2, sf0, sf1, sf2⟩ := cells3h F6.out
            go_simp
            clear sc0 sc1 sc2 sf0 sf1 sf2
            refine store_step HB104.out HZ98.out F6.out (fun v105 hb hsz hf ho => ?_)
            have hf7 := (ho v0.heap.size (by have := HS104.out; have := HS103.out; have := HS98.out; have := HS97.out; omega)).trans F7.out; have hf1 := (ho v97.heap.size (by have := HS104.out; have := HS103.out; have := HS98.out; have := HS97.out; omega)).trans F1.out; have hf4 := (ho v103.heap.size (by have := HS104.out; have := HS103.out; have := HS98.out; have := HS97.out; omega)).trans F4.out; have HB105 := Lib.hid hb; have HZ105 := Lib.hid (below_size hb); have HS105 := Lib.hid hsz; clear F6; have F6 := Lib.hid hf
            clear F7; have F7 := Lib.hid hf7; clear hf7; clear F1; have F1 := Lib.hid hf1; clear hf1; clear F4; have F4 := Lib.hid hf4; clear hf4; clear hb hf ho hsz
            (try simp only [Act.put, List.setIfInBounds_toArray, List.set_cons_zero, List.set_cons_succ])
            refine hK.out _ _ (fun _ _ => HB105.out) (fun hHeld' => ?_)
            replace hHeld := hHeld' (by rfl) (by decide)
            clear hK hHeld'
            (try simp only [Act.put, List.setIfInBounds_toArray, List.set_cons_zero, List.set_cons_succ])
            refine E_one 9 (by kernel_rfl) rfl (by rfl) (fun K hK => ?_)
            obtain ⟨sc0, sc1, sc2, sf0, sf1, sf2⟩ := cells3h F7.out
            go_simp
            clear sc0 sc1 sc2 sf0 sf1 sf2
            refine store_step HB105.out HZ0.out F7.out (fun v106 hb hsz hf ho => ?_)
            have hf1 := (ho v97.heap.size (by have := HS105.out; have := HS104.out; have := HS103.out; have := HS98.out; have := HS97.out; omega)).trans F1.out; have hf6 := (ho v98.heap.size (by have := HS105.out; have := HS104.out; have := HS103.out; have := HS98.out; have := HS97.out; omega)).trans F6.out; have hf4 := (ho v103.heap.size (by have := HS105.out; have := HS104.out; have := HS103.out; have := HS98.out; have := HS97.out; omega)).trans F4.out; have HB106 := Lib.hid hb; have HZ106 := Lib.hid (below_size hb); have HS106 := Lib.hid hsz; clear F7; have F7 := Lib.hid hf
            clear F1; have F1 := Lib.hid hf1; clear hf1; clear F6; have F6 := Lib.hid hf6; clear hf6; clear F4; have F4 := Lib.hid hf4; clear hf4; clear hb hf ho hsz
            (try simp only [Act.put, List.setIfInBounds_toArray, List.set_cons_zero, List.set_cons_succ])
            refine hK.out _ _ (fun _ h => absurd rfl h) (fun _ => ?_)
            clear hK hHeld
            (try simp only [Act.put, List.setIfInBounds_toArray, List.set_cons_zero, List.set_cons_succ])
            refine E_done (by kernel_rfl) ?_ _
            refine hK'.out _ _ ?_
            go_wp2_with fail
            go_meet
            exact ⟨_, _, _, _, rfl, rfl, F6.out, F7.out, F1.out, F4.out, HB106.out⟩
          · refine ⟨_, rfl, by rfl, fun K hK => ?_⟩
            obtain ⟨sc0, sc1, sc2, sf0, sf1, sf2⟩ := cells3h F6.out
            go_simp
            clear sc0 sc1 sc2 sf0 sf1 sf2
            refine store_step HB103.out HZ98.out F6.out (fun v107 hb hsz hf ho => ?_)
            have hf7 := (ho v0.heap.size (by have := HS103.out; have := HS98.out; have := HS97.out; omega)).trans F7.out; have hf1 := (ho v97.heap.size (by have := HS103.out; have := HS98.out; have := HS97.out; omega)).trans F1.out; have HB107 := Lib.hid hb; have HZ107 := Lib.hid (below_size hb); have HS107 := Lib.hid hsz; clear F6; have F6 := Lib.hid hf
            clear F7; have F7 := Lib.hid hf7; clear hf7; clear F1; have F1 := Lib.hid hf1; clear hf1; clear hb hf ho hsz
            (try simp only [Act.put, List.setIfInBounds_toArray, List.set_cons_zero, List.set_cons_succ])
            refine hK.out _ _ (fun _ _ => HB107.out) (fun hHeld' => ?_)
            replace hHeld := hHeld' (by rfl) (by decide)
            clear hK hHeld'
            (try simp only [Act.put, List.setIfInBounds_toArray, List.set_cons_zero, List.set_cons_succ])
            refine E_one 4 (by kernel_rfl) rfl (by rfl) (fun K hK => ?_)
            go_simp
            refine alloc_step HB107.out HZ107.out (fun v108 hb hs hf hk => ?_)
            have hf7 := hk _ _ F7.out; have hf1 := hk _ _ F1.out; have hf6 := hk _ _ F6.out; have HB108 := Lib.hid hb; have HZ108 := Lib.hid (below_size hb); have HS108 := Lib.hid hs; have F4 := Lib.hid hf
            clear F7; have F7 := Lib.hid hf7; clear hf7; clear F1; have F1 := Lib.hid hf1; clear hf1; clear F6; have F6 := Lib.hid hf6; clear hf6; clear hb hf hs hk
            (try simp only [Act.put, List.setIfInBounds_toArray, List.set_cons_zero, List.set_cons_succ])
            refine hK.out _ _ (fun _ _ => HB108.out) (fun hHeld' => ?_)
            replace hHeld := hHeld' (by rfl) (by decide)
            clear hK hHeld'
            (try simp only [Act.put, List.setIfInBounds_toArray, List.set_cons_zero, List.set_cons_succ])
            refine E_take0 hQ (fun _ => hHeld) 5 (v := ?tv32) rfl rfl (by kernel_rfl) (by kernel_rfl) (by kernel_rfl) (by decide) (by rfl) ?ty32 ?tr32
            case ty32 => (intro w; go_simp; (try with_reducible rfl))
            (try simp only [Act.put, List.setIfInBounds_toArray, List.set_cons_zero, List.set_cons_succ])
            refine E_one 9 (by kernel_rfl) rfl (by rfl) (fun K hK => ?_)
            obtain ⟨sc0, sc1, sc2, sf0, sf1, sf2⟩ := cells3h F7.out
            go_simp
            clear sc0 sc1 sc2 sf0 sf1 sf2
            refine store_step HB108.out HZ0.out F7.out (fun v109 hb hsz hf ho => ?_)
            have hf1 := (ho v97.heap.size (by have := HS108.out; have := HS107.out; have := HS103.out; have := HS98.out; have := HS97.out; omega)).trans F1.out; have hf6 := (ho v98.heap.size (by have := HS108.out; have := HS107.out; have := HS103.out; have := HS98.out; have := HS97.out; omega)).trans F6.out; have hf4 := (ho v107.heap.size (by have := HS108.out; have := HS107.out; have := HS103.out; have := HS98.out; have := HS97.out; omega)).trans F4.out; have HB109 := Lib.hid hb; have HZ109 := Lib.hid (below_size hb); have HS109 := Lib.hid hsz; clear F7; have F7 := Lib.hid hf
            clear F1; have F1 := Lib.hid hf1; clear hf1; clear F6; have F6 := Lib.hid hf6; clear hf6; clear F4; have F4 := Lib.hid hf4; clear hf4; clear hb hf ho hsz
            (try simp only [Act.put, List.setIfInBounds_toArray, List.set_cons_zero, List.set_cons_succ])
            refine hK.out _ _ (fun _ h => absurd rfl h) (fun _ => ?_)
            clear hK hHeld
            (try simp only [Act.put, List.setIfInBounds_toArray, List.set_cons_zero, List.set_cons_succ])
            refine E_done (by kernel_rfl) ?_ _
            refine hK'.out _ _ ?_
            go_wp2_with fail
            go_meet
            exact ⟨_, _, _, _, rfl, rfl, F6.out, F7.out, F1.out, F4.out, HB109.out⟩
      · refine ⟨_, rfl, by rfl, fun K hK => ?_⟩
        go_simp
        refine alloc_step HB97.out HZ97.out (fun v110 hb hs hf hk => ?_)
        have hf7 := hk _ _ F7.out; have HB110 := Lib.hid hb; have HZ110 := Lib.hid (below_size hb); have HS110 := Lib.hid hs; have F4 := Lib.hid hf
        clear F7; have F7 := Lib.hid hf7; clear hf7; clear hb hf hs hk
        (try simp only [Act.put, List.setIfInBounds_toArray, List.set_cons_zero, List.set_cons_succ])
        refine hK.out _ _ (fun _ _ => HB110.out) (fun hHeld' => ?_)
        replace hHeld := hHeld' (by rfl) (by decide)
        clear hK hHeld'
        (try simp only [Act.put, List.setIfInBounds_toArray, List.set_cons_zero, List.set_cons_succ])
        refine E_take0 hQ (fun _ => hHeld) 5 (v := ?tv33) rfl rfl (by kernel_rfl) (by kernel_rfl) (by kernel_rfl) (by decide) (by rfl) ?ty33 ?tr33
        case ty33 => (intro w; go_simp; (try with_reducible rfl))
        (try simp only [Act.put, List.setIfInBounds_toArray, List.set_cons_zero, List.set_cons_succ])
        refine E_pick [1, 6] (by kernel_rfl) (by decide) ?_
        intro i hi
        simp only [List.mem_cons, List.not_mem_nil, or_false] at hi
        rcases hi with rfl | rfl
        · refine ⟨_, rfl, by rfl, fun K hK => ?_⟩
          go_simp
          refine alloc_step HB110.out HZ110.out (fun v111 hb hs hf hk => ?_)
          have hf7 := hk _ _ F7.out; have hf4 := hk _ _ F4.out; have HB111 := Lib.hid hb; have HZ111 := Lib.hid (below_size hb); have HS111 := Lib.hid hs; have F1 := Lib.hid hf
          clear F7; have F7 := Lib.hid hf7; clear hf7; clear F4; have F4 := Lib.hid hf4; clear hf4; clear hb hf hs hk
          (try simp only [Act.put, List.setIfInBounds_toArray, List.set_cons_zero, List.set_cons_succ])
          refine hK.out _ _ (fun _ _ => HB111.out) (fun hHeld' => ?_)
          replace hHeld := hHeld' (by rfl) (by decide)
          clear hK hHeld'
          (try simp only [Act.put, List.setIfInBounds_toArray, List.set_cons_zero, List.set_cons_succ])
          refine E_take0 hQ (fun _ => hHeld) 2 (v := ?tv34) rfl rfl (by kernel_rfl) (by kernel_rfl) (by kernel_rfl) (by decide) (by rfl) ?ty34 ?tr34
          case ty34 => (intro w; go_simp; (try with_reducible rfl))
          (try simp only [Act.put, List.setIfInBounds_toArray, List.set_cons_zero, List.set_cons_succ])
          refine E_one 6 (by kernel_rfl) rfl (by rfl) (fun K hK => ?_)
          go_simp
          refine alloc_step HB111.out HZ111.out (fun v112 hb hs hf hk => ?_)
          have hf7 := hk _ _ F7.out; have hf4 := hk _ _ F4.out; have hf1 := hk _ _ F1.out; have HB112 := Lib.hid hb; have HZ112 := Lib.hid (below_size hb); have HS112 := Lib.hid hs; have F6 := Lib.hid hf
          clear F7; have F7 := Lib.hid hf7; clear hf7; clear F4; have F4 := Lib.hid hf4; clear hf4; clear F1; have F1 := Lib.hid hf1; clear hf1; clear hb hf hs hk
          (try simp only [Act.put, List.setIfInBounds_toArray, List.set_cons_zero, List.set_cons_succ])
          refine hK.out _ _ (fun _ _ => HB112.out) (fun hHeld' => ?_)
          replace hHeld := hHeld' (by rfl) (by decide)
          clear hK hHeld'
          (try simp only [Act.put, List.setIfInBounds_toArray, List.set_cons_zero, List.set_cons_succ])
          refine E_one 8 (by kernel_rfl) rfl (by rfl) (fun K hK => ?_)
          obtain ⟨sc0, sc1, sc2, sf0, sf1, sf2⟩ := cells3h F6.out
          go_simp
          clear sc0 sc1 sc2 sf0 sf1 sf2
          refine store_step HB112.out HZ111.out F6.out (fun v113 hb hsz hf ho => ?_)
          have hf7 := (ho v0.heap.size (by have := HS112.out; have := HS111.out; have := HS110.out; have := HS97.out; omega)).trans F7.out; have hf4 := (ho v97.heap.size (by have := HS112.out; have := HS111.out; have := HS110.out; have := HS97.out; omega)).trans F4.out; have hf1 := (ho v110.heap.size (by have := HS112.out; have := HS111.out; have := HS110.out; have := HS97.out; omega)).trans F1.out; have HB113 := Lib.hid hb; have HZ113 := Lib.hid (below_size hb); have HS113 := Lib.hid hsz; clear F6; have F6 := Lib.hid hf
          clear F7; have F7 := Lib.hid hf7; clear hf7; clear F4; have F4 := Lib.hid hf4; clear hf4; clear F1; have F1 := Lib.hid hf1; clear hf1; clear hb hf ho hsz
          (try simp only [Act.put, List.setIfInBounds_toArray, List.set_cons_zero, List.set_cons_succ])
          refine hK.out _ _ (fun _ _ => HB113.out) (fun hHeld' => ?_)
          replace hHeld := hHeld' (by rfl) (by decide)
          clear hK hHeld'
          (try simp only [Act.put, List.setIfInBounds_toArray, List.set_cons_zero, List.set_cons_succ])
          refine E_one 9 (by kernel_rfl) rfl (by rfl) (fun K hK => ?_)
          obtain ⟨sc0, sc1, sc2, sf0, sf1, sf2⟩ := cells3h F7.out
          go_simp
          clear sc0 sc1 sc2 sf0 sf1 sf2
          refine store_step HB113.out HZ0.out F7.out (fun v114 hb hsz hf ho => ?_)
          have hf4 := (ho v97.heap.size (by have := HS113.out; have := HS112.out; have := HS111.out; have := HS110.out; have := HS97.out; omega)).trans F4.out; have hf1 := (ho v110.heap.size (by have := HS113.out; have := HS112.out; have := HS111.out; have := HS110.out; have := HS97.out; omega)).trans F1.out; have hf6 := (ho v111.heap.size (by have := HS113.out; have := HS112.out; have := HS111.out; have := HS110.out; have := HS97.out; omega)).trans F6.out; have HB114 := Lib.hid hb; have HZ114 := Lib.hid (below_size hb); have HS114 := Lib.hid hsz; clear F7; have F7 := Lib.hid hf
          clear F4; have F4 := Lib.hid hf4; clear hf4; clear F1; have F1 := Lib.hid hf1; clear hf1; clear F6; have F6 := Lib.hid hf6; clear hf6; clear hb hf ho hsz
          (try simp only [Act.put, List.setIfInBounds_toArray, List.set_cons_zero, List.set_cons_succ])
          refine hK.out _ _ (fun _ h => absurd rfl h) (fun _ => ?_)
          clear hK hHeld
          (try simp only [Act.put, List.setIfInBounds_toArray, List.set_cons_zero, List.set_cons_succ])
          refine E_done (by kernel_rfl) ?_ _
          refine hK'.out _ _ ?_
          go_wp2_with fail
          go_meet
          exact ⟨_, _, _, _, rfl, rfl, F6.out, F7.out, F1.out, F4.out, HB114.out⟩
        · refine ⟨_, rfl, by rfl, fun K hK => ?_⟩
          go_simp
          refine alloc_step HB110.out HZ110.out (fun v115 hb hs hf hk => ?_)
          have hf7 := hk _ _ F7.out; have hf4 := hk _ _ F4.out; have HB115 := Lib.hid hb; have HZ115 := Lib.hid (below_size hb); have HS115 := Lib.hid hs; have F6 := Lib.hid hf
          clear F7; have F7 := Lib.hid hf7; clear hf7; clear F4; have F4 := Lib.hid hf4; clear hf4; clear hb hf hs hk
          (try simp only [Act.put, List.setIfInBounds_toArray, List.set_cons_zero, List.set_cons_succ])
          refine hK.out _ _ (fun _ _ => HB115.out) (fun hHeld' => ?_)
          replace hHeld := hHeld' (by rfl) (by decide)
          clear hK hHeld'
          (try simp only [Act.put, List.setIfInBounds_toArray, List.set_cons_zero, List.set_cons_succ])
          refine E_one 1 (by kernel_rfl) rfl (by rfl) (fun K hK => ?_)
          go_simp
          refine alloc_step HB115.out HZ115.out (fun v116 hb hs hf hk => ?_)
          have hf7 := hk _ _ F7.out; have hf4 := hk _ _ F4.out; have hf6 := hk _ _ F6.out; have HB116 := Lib.hid hb; have HZ116 := Lib.hid (below_size hb); have HS116 := Lib.hid hs; have F1 := Lib.hid hf
          clear F7; have F7 := Lib.hid hf7; clear hf7; clear F4; have F4 := Lib.hid hf4; clear hf4; clear F6; have F6 := Lib.hid hf6; clear hf6; clear hb hf hs hk
          (try simp only [Act.put, List.setIfInBounds_toArray, List.set_cons_zero, List.set_cons_succ])
          refine hK.out _ _ (fun _ _ => HB116.out) (fun hHeld' => ?_)
          replace hHeld := hHeld' (by rfl) (by decide)
          clear hK hHeld'
          (try simp only [Act.put, List.setIfInBounds_toArray, List.set_cons_zero, List.set_cons_succ])
          refine E_take0 hQ (fun _ => hHeld) 2 (v := ?tv35) rfl rfl (by kernel_rfl) (by kernel_rfl) (by kernel_rfl) (by decide) (by rfl) ?ty35 ?tr35
          case ty35 => (intro w; go_simp; (try with_reducible rfl))
          (try simp only [Act.put, List.setIfInBounds_toArray, List.set_cons_zero, List.set_cons_succ])
          refine E_one 8 (by kernel_rfl) rfl (by rfl) (fun K hK => ?_)
          obtain ⟨sc0, sc1, sc2, sf0, sf1, sf2⟩ := cells3h F6.out
          go_simp
          clear sc0 sc1 sc2 sf0 sf1 sf2
          refine store_step HB116.out HZ110.out F6.out (fun v117 hb hsz hf ho => ?_)
          have hf7 := (ho v0.heap.size (by have := HS116.out; have := HS115.out; have := HS110.out; have := HS97.out; omega)).trans F7.out; have hf4 := (ho v97.heap.size (by have := HS116.out; have := HS115.out; have := HS110.out; have := HS97.out; omega)).trans F4.out; have hf1 := (ho v115.heap.size (by have := HS116.out; have := HS115.out; have := HS110.out; have := HS97.out; omega)).trans F1.out; have HB117 := Lib.hid hb; have HZ117 := Lib.hid (below_size hb); have HS117 := Lib.hid hsz; clear F6; have F6 := Lib.hid hf
          clear F7; have F7 := Lib.hid hf7; clear hf7; clear F4; have F4 := Lib.hid hf4; clear hf4; clear F1; have F1 := Lib.hid hf1; clear hf1; clear hb hf ho hsz
          (try simp only [Act.put, List.setIfInBounds_toArray, List.set_cons_zero, List.set_cons_succ])
          refine hK.out _ _ (fun _ _ => HB117.out) (fun hHeld' => ?_)
          replace hHeld := hHeld' (by rfl) (by decide)
          clear hK hHeld'
          (try simp only [Act.put, List.setIfInBounds_toArray, List.set_cons_zero, List.set_cons_succ])
          refine E_one 9 (by kernel_rfl) rfl (by rfl) (fun K hK => ?_)
          obtain ⟨sc0, sc1, sc2, sf0, sf1, sf2⟩ := cells3h F7.out
          go_simp
          clear sc0 sc1 sc2 sf0 sf1 sf2
          refine store_step HB117.out HZ0.out F7.out (fun v118 hb hsz hf ho => ?_)
          have hf4 := (ho v97.heap.size (by have := HS117.out; have := HS116.out; have := HS115.out; have := HS110.out; have := HS97.out; omega)).trans F4.out; have hf6 := (ho v110.heap.size (by have := HS117.out; have := HS116.out; have := HS115.out; have := HS110.out; have := HS97.out; omega)).trans F6.out; have hf1 := (ho v115.heap.size (by have := HS117.out; have := HS116.out; have := HS115.out; have := HS110.out; have := HS97.out; omega)).trans F1.out; have HB118 := Lib.hid hb; have HZ118 := Lib.hid (below_size hb); have HS118 := Lib.hid hsz; clear F7; have F7 := Lib.hid hf
          clear F4; have F4 := Lib.hid hf4; clear hf4; clear F6; have F6 := Lib.hid hf6; clear hf6; clear F1; have F1 := Lib.hid hf1; clear hf1; clear hb hf ho hsz
          (try simp only [Act.put, List.setIfInBounds_toArray, List.set_cons_zero, List.set_cons_succ])
          refine hK.out _ _ (fun _ h => absurd rfl h) (fun _ => ?_)
          clear hK hHeld
          (try simp only [Act.put, List.setIfInBounds_toArray, List.set_cons_zero, List.set_cons_succ])
          refine E_done (by kernel_rfl) ?_ _
          refine hK'.out _ _ ?_
          go_wp2_with fail
          go_meet
          exact ⟨_, _, _, _, rfl, rfl, F6.out, F7.out, F1.out, F4.out, HB118.out⟩
      · refine ⟨_, rfl, by rfl, fun K hK => ?_⟩
        go_simp
        refine alloc_step HB97.out HZ97.out (fun v119 hb hs hf hk => ?_)
        have hf7 := hk _ _ F7.out; have HB119 := Lib.hid hb; have HZ119 := Lib.hid (below_size hb); have HS119 := Lib.hid hs; have F6 := Lib.hid hf
        clear F7; have F7 := Lib.hid hf7; clear hf7; clear hb hf hs hk
        (try simp only [Act.put, List.setIfInBounds_toArray, List.set_cons_zero, List.set_cons_succ])
        refine hK.out _ _ (fun _ _ => HB119.out) (fun hHeld' => ?_)
        replace hHeld := hHeld' (by rfl) (by decide)
        clear hK hHeld'
        (try simp only [Act.put, List.setIfInBounds_toArray, List.set_cons_zero, List.set_cons_succ])
        refine E_pick [1, 4] (by kernel_rfl) (by decide) ?_
        intro i hi
        simp only [List.mem_cons, List.not_mem_nil, or_false] at hi
        rcases hi with rfl | rfl
        · refine ⟨_, rfl, by rfl, fun K hK => ?_⟩
          go_simp
          refine alloc_step HB119.out HZ119.out (fun v120 hb hs hf hk => ?_)
          have hf7 := hk _ _ F7.out; have hf6 := hk _ _ F6.out; have HB120 := Lib.hid hb; have HZ120 := Lib.hid (below_size hb); have HS120 := Lib.hid hs; have F1 := Lib.hid hf
          clear F7; have F7 := Lib.hid hf7; clear hf7; clear F6; have F6 := Lib.hid hf6; clear hf6; clear hb hf hs hk
          (try simp only [Act.put, List.setIfInBounds_toArray, List.set_cons_zero, List.set_cons_succ])
          refine hK.out _ _ (fun _ _ => HB120.out) (fun hHeld' => ?_)
          replace hHeld := hHeld' (by rfl) (by decide)
          clear hK hHeld'
          (try simp only [Act.put, List.setIfInBounds_toArray, List.set_cons_zero, List.set_cons_succ])
          refine E_take0 hQ (fun _ => hHeld) 2 (v := ?tv36) rfl rfl (by kernel_rfl) (by kernel_rfl) (by kernel_rfl) (by decide) (by rfl) ?ty36 ?tr36
          case ty36 => (intro w; go_simp; (try with_reducible rfl))
          (try simp only [Act.put, List.setIfInBounds_toArray, List.set_cons_zero, List.set_cons_succ])
          refine E_pick [4, 8] (by kernel_rfl) (by decide) ?_
          intro i hi
          simp only [List.mem_cons, List.not_mem_nil, or_false] at hi
          rcases hi with rfl | rfl
          · refine ⟨_, rfl, by rfl, fun K hK => ?_⟩
            go_simp
            refine alloc_step HB120.out HZ120.out (fun v121 hb hs hf hk => ?_)
            have hf7 := hk _ _ F7.out; have hf6 := hk _ _ F6.out; have hf1 := hk _ _ F1.out; have HB121 := Lib.hid hb; have HZ121 := Lib.hid (below_size hb); have HS121 := Lib.hid hs; have F4 := Lib.hid hf
            clear F7; have F7 := Lib.hid hf7; clear hf7; clear F6; have F6 := Lib.hid hf6; clear hf6; clear F1; have F1 := Lib.hid hf1; clear hf1; clear hb hf hs hk
            (try simp only [Act.put, List.setIfInBounds_toArray, List.set_cons_zero, List.set_cons_succ])
            refine hK.out _ _ (fun _ _ => HB121.out) (fun hHeld' => ?_)
            replace hHeld := hHeld' (by rfl) (by decide)
            clear hK hHeld'
            (try simp only [Act.put, List.setIfInBounds_toArray, List.set_cons_zero, List.set_cons_succ])
            refine E_take0 hQ (fun _ => hHeld) 5 (v := ?tv37) rfl rfl (by kernel_rfl) (by kernel_rfl) (by kernel_rfl) (by decide) (by rfl) ?ty37 ?tr37
            case ty37 => (intro w; go_simp; (try with_reducible rfl))
            (try simp only [Act.put, List.setIfInBounds_toArray, List.set_cons_zero, List.set_cons_succ])
            refine E_one 8 (by kernel_rfl) rfl (by rfl) (fun K hK => ?_)
            obtain ⟨sc0, sc1, sc2, sf0, sf1, sf2⟩ := cells3h F6.out
            go_simp
            clear sc0 sc1 sc2 sf0 sf1 sf2
            refine store_step HB121.out HZ97.out F6.out (fun v122 hb hsz hf ho => ?_)
            have hf7 := (ho v0.heap.size (by have := HS121.out; have := HS120.out; have := HS119.out; have := HS97.out; omega)).trans F7.out; have hf1 := (ho v119.heap.size (by have := HS121.out; have := HS120.out; have := HS119.out; have := HS97.out; omega)).trans F1.out; have hf4 := (ho v120.heap.size (by have := HS121.out; have := HS120.out; have := HS119.out; have := HS97.out; omega)).trans F4.out; have HB122 := Lib.hid hb; have HZ122 := Lib.hid (below_size hb); have HS122 := Lib.hid hsz; clear F6; have F6 := Lib.hid hf
            clear F7; have F7 := Lib.hid hf7; clear hf7; clear F1; have F1 := Lib.hid hf1; clear hf1; clear F4; have F4 := Lib.hid hf4; clear hf4; clear hb hf ho hsz
            (try simp only [Act.put, List.setIfInBounds_toArray, List.set_cons_zero, List.set_cons_succ])
            refine hK.out _ _ (fun _ _ => HB122.out) (fun hHeld' => ?_)
            replace hHeld := hHeld' (by rfl) (by decide)
            clear hK hHeld'
            (try simp only [Act.put, List.setIfInBounds_toArray, List.set_cons_zero, List.set_cons_succ])
            refine E_one 9 (by kernel_rfl) rfl (by rfl) (fun K hK => ?_)
            obtain ⟨sc0, sc1, sc2, sf0, sf1, sf2⟩ := cells3h F7.out
            go_simp
            clear sc0 sc1 sc2 sf0 sf1 sf2
            refine store_step HB122.out HZ0.out F7.out (fun v123 hb hsz hf ho => ?_)
            have hf6 := (ho v97.heap.size (by have := HS122.out; have := HS121.out; have := HS120.out; have := HS119.out; have := HS97.out; omega)).trans F6.out; have hf1 := (ho v119.heap.size (by have := HS122.out; have := HS121.out; have := HS120.out; have := HS119.out; have := HS97.out; omega)).trans F1.out; have hf4 := (ho v120.heap.size (by have := HS122.out; have := HS121.out; have := HS120.out; have := HS119.out; have := HS97.out; omega)).trans F4.out; have HB123 := Lib.hid hb; have HZ123 := Lib.hid (below_size hb); have HS123 := Lib.hid hsz; clear F7; have F7 := Lib.hid hf
            clear F6; have F6 := Lib.hid hf6; clear hf6; clear F1; have F1 := Lib.hid hf1; clear hf1; clear F4; have F4 := Lib.hid hf4; clear hf4; clear hb hf ho hsz
            (try simp only [Act.put, List.setIfInBounds_toArray, List.set_cons_zero, List.set_cons_succ])
            refine hK.out _ _ (fun _ h => absurd rfl h) (fun _ => ?_)
            clear hK hHeld
            (try simp only [Act.put, List.setIfInBounds_toArray, List.set_cons_zero, List.set_cons_succ])
            refine E_done (by kernel_rfl) ?_ _
            refine hK'.out _ _ ?_
            go_wp2_with fail
            go_meet
            exact ⟨_, _, _, _, rfl, rfl, F6.out, F7.out, F1.out, F4.out, HB123.out⟩
          · refine ⟨_, rfl, by rfl, fun K hK => ?_⟩
            obtain ⟨sc0, sc1, sc2, sf0, sf1, sf2⟩ := cells3h F6.out
            go_simp
            clear sc0 sc1 sc2 sf0 sf1 sf2
            refine store_step HB120.out HZ97.out F6.out (fun v124 hb hsz hf ho => ?_)
            have hf7 := (ho v0.heap.size (by have := HS120.out; have := HS119.out; have := HS97.out; omega)).trans F7.out; have hf1 := (ho v119.heap.size (by have := HS120.out; have := HS119.out; have := HS97.out; omega)).trans F1.out; have HB124 := Lib.hid hb; have HZ124 := Lib.hid (below_size hb); have HS124 := Lib.hid hsz; clear F6; have F6 := Lib.hid hf
            clear F7; have F7 := Lib.hid hf7; clear hf7; clear F1; have F1 := Lib.hid hf1; clear hf1; clear hb hf ho hsz
            (try simp only [Act.put, List.setIfInBounds_toArray, List.set_cons_zero, List.set_cons_succ])
            refine hK.out _ _ (fun _ _ => HB124.out) (fun hHeld' => ?_)
            replace hHeld := hHeld' (by rfl) (by decide)
            clear hK hHeld'
            (try simp only [Act.put, List.setIfInBounds_toArray, List.set_cons_zero, List.set_cons_succ])
            refine E_one 4 (by kernel_rfl) rfl (by rfl) (fun K hK => ?_)
            go_simp
            refine alloc_step HB124.out HZ124.out (fun v125 hb hs hf hk => ?_)
            have hf7 := hk _ _ F7.out; have hf6 := hk _ _ F6.out; have hf1 := hk _ _ F1.out; have HB125 := Lib.hid hb; have HZ125 := Lib.hid (below_size hb); have HS125 := Lib.hid hs; have F4 := Lib.hid hf
            clear F7; have F7 := Lib.hid hf7; clear hf7; clear F6; have F6 := Lib.hid hf6; clear hf6; clear F1; have F1 := Lib.hid hf1; clear hf1; clear hb hf hs hk
            (try simp only [Act.put, List.setIfInBounds_toArray, List.set_cons_zero, List.set_cons_succ])
            refine hK.out _ _ (fun _ _ => HB125.out) (fun hHeld' => ?_)
            replace hHeld := hHeld' (by rfl) (by decide)
            clear hK hHeld'
            (try simp only [Act.put, List.setIfInBounds_toArray, List.set_cons_zero, List.set_cons_succ])
            refine E_take0 hQ (fun _ => hHeld) 5 (v := ?tv38) rfl rfl (by kernel_rfl) (by kernel_rfl) (by kernel_rfl) (by decide) (by rfl) ?ty38 ?tr38
            case ty38 => (intro w; go_simp; (try with_reducible rfl))
            (try simp only [Act.put, List.setIfInBounds_toArray, List.set_cons_zero, List.set_cons_succ])
            refine E_one 9 (by kernel_rfl) rfl (by rfl) (fun K hK => ?_)
            obtain ⟨sc0, sc1, sc2, sf0, sf1, sf2⟩ := cells3h F7.out
            go_simp
            clear sc0 sc1 sc2 sf0 sf1 sf2
            refine store_step HB125.out HZ0.out F7.out (fun v126 hb hsz hf ho => ?_)
            have hf6 := (ho v97.heap.size (by have := HS125.out; have := HS124.out; have := HS120.out; have := HS119.out; have := HS97.out; omega)).trans F6.out; have hf1 := (ho v119.heap.size (by have := HS125.out; have := HS124.out; have := HS120.out; have := HS119.out; have := HS97.out; omega)).trans F1.out; have hf4 := (ho v124.heap.size (by have := HS125.out; have := HS124.out; have := HS120.out; have := HS119.out; have := HS97.out; omega)).trans F4.out; have HB126 := Lib.hid hb; have HZ126 := Lib.hid (below_size hb); have HS126 := Lib.hid hsz; clear F7; have F7 := Lib.hid hf
            clear F6; have F6 := Lib.hid hf6; clear hf6; clear F1; have F1 := Lib.hid hf1; clear hf1; clear F4; have F4 := Lib.hid hf4; clear hf4; clear hb hf ho hsz
            (try simp only [Act.put, List.setIfInBounds_toArray, List.set_cons_zero, List.set_cons_succ])
            refine hK.out _ _ (fun _ h => absurd rfl h) (fun _ => ?_)
            clear hK hHeld
            (try simp only [Act.put, List.setIfInBounds_toArray, List.set_cons_zero, List.set_cons_succ])
            refine E_done (by kernel_rfl) ?_ _
            refine hK'.out _ _ ?_
            go_wp2_with fail
            go_meet
            exact ⟨_, _, _, _, rfl, rfl, F6.out, F7.out, F1.out, F4.out, HB126.out⟩
        · refine ⟨_, rfl, by rfl, fun K hK => ?_⟩
          go_simp
          refine alloc_step HB119.out HZ119.out (fun v127 hb hs hf hk => ?_)
          have hf7 := hk _ _ F7.out; have hf6 := hk _ _ F6.out; have HB127 := Lib.hid hb; have HZ127 := Lib.hid (below_size hb); have HS127 := Lib.hid hs; have F4 := Lib.hid hf
          clear F7; have F7 := Lib.hid hf7; clear hf7; clear F6; have F6 := Lib.hid hf6; clear hf6; clear hb hf hs hk
          (try simp only [Act.put, List.setIfInBounds_toArray, List.set_cons_zero, List.set_cons_succ])
          refine hK.out _ _ (fun _ _ => HB127.out) (fun hHeld' => ?_)
          replace hHeld := hHeld' (by rfl) (by decide)
          clear hK hHeld'
          (try simp only [Act.put, List.setIfInBounds_toArray, List.set_cons_zero, List.set_cons_succ])
          refine E_take0 hQ (fun _ => hHeld) 5 (v := ?tv39) rfl rfl (by kernel_rfl) (by kernel_rfl) (by kernel_rfl) (by decide) (by rfl) ?ty39 ?tr39
          case ty39 => (intro w; go_simp; (try with_reducible rfl))
          (try simp only [Act.put, List.setIfInBounds_toArray, List.set_cons_zero, List.set_cons_succ])
          refine E_one 1 (by kernel_rfl) rfl (by rfl) (fun K hK => ?_)
          go_simp
          refine alloc_step HB127.out HZ127.out (fun v128 hb hs hf hk => ?_)
          have hf7 := hk _ _ F7.out; have hf6 := hk _ _ F6.out; have hf4 := hk _ _ F4.out; have HB128 := Lib.hid hb; have HZ128 := Lib.hid (below_size hb); have HS128 := Lib.hid hs; have F1 := Lib.hid hf
          clear F7; have F7 := Lib.hid hf7; clear hf7; clear F6; have F6 := Lib.hid hf6; clear hf6; clear F4; have F4 := Lib.hid hf4; clear hf4; clear hb hf hs hk
          (try simp only [Act.put, List.setIfInBounds_toArray, List.set_cons_zero, List.set_cons_succ])
          refine hK.out _ _ (fun _ _ => HB128.out) (fun hHeld' => ?_)
          replace hHeld := hHeld' (by rfl) (by decide)
          clear hK hHeld'
          (try simp only [Act.put, List.setIfInBounds_toArray, List.set_cons_zero, List.set_cons_succ])
          refine E_take0 hQ (fun _ => hHeld) 2 (v := ?tv40) rfl rfl (by kernel_rfl) (by kernel_rfl) (by kernel_rfl) (by decide) (by rfl) ?ty40 ?tr40
          case ty40 => (intro w; go_simp; (try with_reducible rfl))
          (try simp only [Act.put, List.setIfInBounds_toArray, List.set_cons_zero, List.set_cons_succ])
          refine E_one 8 (by kernel_rfl) rfl (by rfl) (fun K hK => ?_)
          obtain ⟨sc0, sc1, sc2, sf0, sf1, sf2⟩ := cells3h F6.out
          go_simp
          clear sc0 sc1 sc2 sf0 sf1 sf2
          refine store_step HB128.out HZ97.out F6.out (fun v129 hb hsz hf ho => ?_)
          have hf7 := (ho v0.heap.size (by have := HS128.out; have := HS127.out; have := HS119.out; have := HS97.out; omega)).trans F7.out; have hf4 := (ho v119.heap.size (by have := HS128.out; have := HS127.out; have := HS119.out; have := HS97.out; omega)).trans F4.out; have hf1 := (ho v127.heap.size (by have := HS128.out; have := HS127.out; have := HS119.out; have := HS97.out; omega)).trans F1.out; have HB129 := Lib.hid hb; have HZ129 := Lib.hid (below_size hb); have HS129 := Lib.hid hsz; clear F6; have F6 := Lib.hid hf
          clear F7; have F7 := Lib.hid hf7; clear hf7; clear F4; have F4 := Lib.hid hf4; clear hf4; clear F1; have F1 := Lib.hid hf1; clear hf1; clear hb hf ho hsz
          (try simp only [Act.put, List.setIfInBounds_toArray, List.set_cons_zero, List.set_cons_succ])
          refine hK.out _ _ (fun _ _ => HB129.out) (fun hHeld' => ?_)
          replace hHeld := hHeld' (by rfl) (by decide)
          clear hK hHeld'
          (try simp only [Act.put, List.setIfInBounds_toArray, List.set_cons_zero, List.set_cons_succ])
          refine E_one 9 (by kernel_rfl) rfl (by rfl) (fun K hK => ?_)
          obtain ⟨sc0, sc1, sc2, sf0, sf1, sf2⟩ := cells3h F7.out
          go_simp
          clear sc0 sc1 sc2 sf0 sf1 sf2
          refine store_step HB129.out HZ0.out F7.out (fun v130 hb hsz hf ho => ?_)
          have hf6 := (ho v97.heap.size (by have := HS129.out; have := HS128.out; have := HS127.out; have := HS119.out; have := HS97.out; omega)).trans F6.out; have hf4 := (ho v119.heap.size (by have := HS129.out; have := HS128.out; have := HS127.out; have := HS119.out; have := HS97.out; omega)).trans F4.out; have hf1 := (ho v127.heap.size (by have := HS129.out; have := HS128.out; have := HS127.out; have := HS119.out; have := HS97.out; omega)).trans F1.out; have HB130 := Lib.hid hb; have HZ130 := Lib.hid (below_size hb); have HS130 := Lib.hid hsz; clear F7; have F7 := Lib.hid hf
          clear F6; have F6 := Lib.hid hf6; clear hf6; clear F4; have F4 := Lib.hid hf4; clear hf4; clear F1; have F1 := Lib.hid hf1; clear hf1; clear hb hf ho hsz
          (try simp only [Act.put, List.setIfInBounds_toArray, List.set_cons_zero, List.set_cons_succ])
          refine hK.out _ _ (fun _ h => absurd rfl h) (fun _ => ?_)
          clear hK hHeld
          (try simp only [Act.put, List.setIfInBounds_toArray, List.set_cons_zero, List.set_cons_succ])
          refine E_done (by kernel_rfl) ?_ _
          refine hK'.out _ _ ?_
          go_wp2_with fail
          go_meet
          exact ⟨_, _, _, _, rfl, rfl, F6.out, F7.out, F1.out, F4.out, HB130.out⟩
  case rest =>
  obtain ⟨A, B, ga, gb, rfl, rfl, hA, hB, hga, hgb, hbc⟩ := hcut
  generalize wc = w8 at *
  have HB8 := Lib.hid (bthen HB6.out (Nat.le_refl _) hbc)
  have HD8 := Lib.hid (HD6.out.below hbc)
  have HX8 := Lib.hid ((hbc.block _ HXl.out).trans HX.out)
  have HA8 := Lib.hid hA
  have HBB8 := Lib.hid hB
  have HGA := Lib.hid hga
  have HGB := Lib.hid hgb
  have HSR : Hid (sameD ⟨{ data := #[] }, { data := #[] }, [meantS s]⟩ ⟨{ data := #[] }, { data := #[] }, [meantS s]⟩ = true) := Lib.hid (sameD_refl _)
  clear hA hB hga hgb hbc
  obtain ⟨a0, a1, a2, -, -, -⟩ := cells3h HA8.out
  obtain ⟨b0, b1, b2, -, -, -⟩ := cells3h HBB8.out
  obtain ⟨z0, z1, z2, z3, z4, z5, z6, z7, z8, z9, z10, z11, z12⟩ := cells13q HX8.out
  go_upto_region 8 with fail
  refine E_region (S := (fun W => W.cell? ⟨A, 0, none⟩ = some (.string { data := #[] }) ∧ W.cell? ⟨A, 1, none⟩ = some (.string { data := #[] }) ∧ W.cell? ⟨A, 2, none⟩ = some (.slice (some ⟨ga, 0, none⟩) 1 1) ∧ W.cell? ⟨B, 0, none⟩ = some (.string { data := #[] }) ∧ W.cell? ⟨B, 1, none⟩ = some (.string { data := #[] }) ∧ W.cell? ⟨B, 2, none⟩ = some (.slice (some ⟨gb, 0, none⟩) 1 1) ∧ W.cell? ⟨X, 0, none⟩ = some (.string s.name) ∧ W.cell? ⟨X, 1, none⟩ = some (.string s.action) ∧ W.cell? ⟨X, 2, none⟩ = some (.string s.undo) ∧ W.cell? ⟨X, 3, none⟩ = some (.slice aa s.after.length ac) ∧ W.cell? ⟨X, 4, none⟩ = some (.int .i64 m) ∧ W.cell? ⟨X, 5, none⟩ = some (.int .i64 s.first) ∧ W.cell? ⟨X, 6, none⟩ = some (.int .i64 fa) ∧ W.cell? ⟨X, 7, none⟩ = some (.int .i64 lm) ∧ W.cell? ⟨X, 8, none⟩ = some (.int .u8 (s.note.kind : Int)) ∧ W.cell? ⟨X, 9, none⟩ = some (.string s.note.text) ∧ W.cell? ⟨X, 10, none⟩ = some (.slice ka s.note.keys.length kc) ∧ W.cell? ⟨X, 11, none⟩ = some (.slice ba s.note.kids.length bc) ∧ W.cell? ⟨X, 12, none⟩ = some (.int .i64 s.note.line))) 9 (by kernel_rfl) ⟨a0, a1, a2, b0, b1, b2, z0, z1, z2, z3, z4, z5, z6, z7, z8, z9, z10, z11, z12⟩ (fun _ _ _ _ _ h => h) (fun Q' hQ hK' hHeld => ?_)
  refine E_take hQ hHeld 0 (v := ?w8v1) rfl rfl (by kernel_rfl) (by kernel_rfl) (by kernel_rfl) (by kernel_rfl) (by kernel_rfl) (by rfl) ?w8y1 ?w8r1
  case w8y1 => (intro w hSw; (try dsimp only at hSw); go_simp; (try with_reducible rfl))
  (try simp only [Act.put, List.setIfInBounds_toArray, List.set_cons_zero, List.set_cons_succ])
  refine E_take hQ hHeld 1 (v := ?w8v2) rfl rfl (by kernel_rfl) (by kernel_rfl) (by kernel_rfl) (by kernel_rfl) (by kernel_rfl) (by rfl) ?w8y2 ?w8r2
  case w8y2 => (intro w hSw; (try dsimp only at hSw); go_simp; (try with_reducible rfl))
  (try simp only [Act.put, List.setIfInBounds_toArray, List.set_cons_zero, List.set_cons_succ])
  refine E_one 2 (by kernel_rfl) rfl (by rfl) (fun K hK => ?_)
  go_simp
  refine (rdSame_any ⟨{ data := #[] }, { data := #[] }, [meantS s]⟩ ⟨{ data := #[] }, { data := #[] }, [meantS s]⟩ _ _ _ _ _ _ w8.drew (one_def HGA.out HM.out HF.out HL.out (HD8.out.below (Below.refl _ _).drew)) (one_def HGB.out HM.out HF.out HL.out (HD8.out.below (Below.refl _ _).drew))).mono ?_
  rintro e V2 ⟨rfl, hb⟩
  have HY2 := Lib.hid hb
  have HX2 : Hid (Below w8.heap.size w8 V2) := Lib.hid (((Below.refl _ w8).drew).trans hb)
  rw [HSR.out]
  clear hb
  (try simp only [Act.put, List.setIfInBounds_toArray, List.set_cons_zero, List.set_cons_succ])
  refine hK.out _ _ (fun _ _ => ⟨cellB HY2.out hHeld.1, cellB HY2.out hHeld.2.1, cellB HY2.out hHeld.2.2.1, cellB HY2.out hHeld.2.2.2.1, cellB HY2.out hHeld.2.2.2.2.1, cellB HY2.out hHeld.2.2.2.2.2.1, cellB HY2.out hHeld.2.2.2.2.2.2.1, cellB HY2.out hHeld.2.2.2.2.2.2.2.1, cellB HY2.out hHeld.2.2.2.2.2.2.2.2.1, cellB HY2.out hHeld.2.2.2.2.2.2.2.2.2.1, cellB HY2.out hHeld.2.2.2.2.2.2.2.2.2.2.1, cellB HY2.out hHeld.2.2.2.2.2.2.2.2.2.2.2.1, cellB HY2.out hHeld.2.2.2.2.2.2.2.2.2.2.2.2.1, cellB HY2.out hHeld.2.2.2.2.2.2.2.2.2.2.2.2.2.1, cellB HY2.out hHeld.2.2.2.2.2.2.2.2.2.2.2.2.2.2.1, cellB HY2.out hHeld.2.2.2.2.2.2.2.2.2.2.2.2.2.2.2.1, cellB HY2.out hHeld.2.2.2.2.2.2.2.2.2.2.2.2.2.2.2.2.1, cellB HY2.out hHeld.2.2.2.2.2.2.2.2.2.2.2.2.2.2.2.2.2.1, cellB HY2.out hHeld.2.2.2.2.2.2.2.2.2.2.2.2.2.2.2.2.2.2⟩) (fun hHeld' => ?_)
  replace hHeld := hHeld' (by rfl) (by decide)
  clear hK hHeld'
  (try simp only [Act.put, List.setIfInBounds_toArray, List.set_cons_zero, List.set_cons_succ])
  refine E_take0 hQ (fun _ => hHeld) 3 (v := ?w8v3) rfl rfl (by kernel_rfl) (by kernel_rfl) (by kernel_rfl) (by decide) (by rfl) ?w8y3 ?w8r3
  case w8y3 => (intro w; go_simp; (try with_reducible rfl))
  (try simp only [Act.put, List.setIfInBounds_toArray, List.set_cons_zero, List.set_cons_succ])
  refine E_take hQ hHeld 4 (v := ?w8v4) rfl rfl (by kernel_rfl) (by kernel_rfl) (by kernel_rfl) (by kernel_rfl) (by kernel_rfl) (by rfl) ?w8y4 ?w8r4
  case w8y4 => (intro w hSw; (try dsimp only at hSw); go_simp; (try with_reducible rfl))
  (try simp only [Act.put, List.setIfInBounds_toArray, List.set_cons_zero, List.set_cons_succ])
  refine E_take hQ hHeld 8 (v := ?w8v5) rfl rfl (by kernel_rfl) (by kernel_rfl) (by kernel_rfl) (by kernel_rfl) (by kernel_rfl) (by rfl) ?w8y5 ?w8r5
  case w8y5 => (intro w hSw; (try dsimp only at hSw); go_simp; (try with_reducible rfl))
  (try simp only [Act.put, List.setIfInBounds_toArray, List.set_cons_zero, List.set_cons_succ])
  refine E_one 5 (by kernel_rfl) rfl (by rfl) (fun K hK => ?_)
  go_simp
  refine (HR3.out _).mono ?_
  rintro e V5 ⟨rfl, hb⟩
  have HY5 := Lib.hid hb
  have HX5' : Hid (Below w8.heap.size w8 V5) := Lib.hid (bthen HX2.out (Nat.le_refl _) hb)
  clear hb
  (try simp only [Act.put, List.setIfInBounds_toArray, List.set_cons_zero, List.set_cons_succ])
  refine hK.out _ _ (fun _ _ => ⟨cellB HY5.out hHeld.1, cellB HY5.out hHeld.2.1, cellB HY5.out hHeld.2.2.1, cellB HY5.out hHeld.2.2.2.1, cellB HY5.out hHeld.2.2.2.2.1, cellB HY5.out hHeld.2.2.2.2.2.1, cellB HY5.out hHeld.2.2.2.2.2.2.1, cellB HY5.out hHeld.2.2.2.2.2.2.2.1, cellB HY5.out hHeld.2.2.2.2.2.2.2.2.1, cellB HY5.out hHeld.2.2.2.2.2.2.2.2.2.1, cellB HY5.out hHeld.2.2.2.2.2.2.2.2.2.2.1, cellB HY5.out hHeld.2.2.2.2.2.2.2.2.2.2.2.1, cellB HY5.out hHeld.2.2.2.2.2.2.2.2.2.2.2.2.1, cellB HY5.out hHeld.2.2.2.2.2.2.2.2.2.2.2.2.2.1, cellB HY5.out hHeld.2.2.2.2.2.2.2.2.2.2.2.2.2.2.1, cellB HY5.out hHeld.2.2.2.2.2.2.2.2.2.2.2.2.2.2.2.1, cellB HY5.out hHeld.2.2.2.2.2.2.2.2.2.2.2.2.2.2.2.2.1, cellB HY5.out hHeld.2.2.2.2.2.2.2.2.2.2.2.2.2.2.2.2.2.1, cellB HY5.out hHeld.2.2.2.2.2.2.2.2.2.2.2.2.2.2.2.2.2.2⟩) (fun hHeld' => ?_)
  replace hHeld := hHeld' (by rfl) (by decide)
  clear hK hHeld'
  (try simp only [Act.put, List.setIfInBounds_toArray, List.set_cons_zero, List.set_cons_succ])
  refine E_one 6 (by kernel_rfl) rfl (by rfl) (fun K hK => ?_)
  go_simp
  have hb : Below V5.heap.size V5 (V5.alloc (.cells #[.string s.name, .string s.action, .string s.undo, .slice aa s.after.length ac, .int .i64 m, .int .i64 s.first, .int .i64 fa, .int .i64 lm, .int .u8 (s.note.kind : Int), .string s.note.text, .slice ka s.note.keys.length kc, .slice ba s.note.kids.length bc, .int .i64 s.note.line] 45)) := (Below.refl _ _).alloc (Nat.le_refl _) _
  have HG6 := Lib.hid (World.alloc_heap_new V5 (.cells #[.string s.name, .string s.action, .string s.undo, .slice aa s.after.length ac, .int .i64 m, .int .i64 s.first, .int .i64 fa, .int .i64 lm, .int .u8 (s.note.kind : Int), .string s.note.text, .slice ka s.note.keys.length kc, .slice ba s.note.kids.length bc, .int .i64 s.note.line] 45))
  have HY6 := Lib.hid hb
  have HX6 : Hid (Below w8.heap.size w8 (V5.alloc (.cells #[.string s.name, .string s.action, .string s.undo, .slice aa s.after.length ac, .int .i64 m, .int .i64 s.first, .int .i64 fa, .int .i64 lm, .int .u8 (s.note.kind : Int), .string s.note.text, .slice ka s.note.keys.length kc, .slice ba s.note.kids.length bc, .int .i64 s.note.line] 45))) := Lib.hid (bthen HX5'.out (by have := HX5'.out.size; exact Nat.le_refl _) hb)
  generalize (V5.alloc (.cells #[.string s.name, .string s.action, .string s.undo, .slice aa s.after.length ac, .int .i64 m, .int .i64 s.first, .int .i64 fa, .int .i64 lm, .int .u8 (s.note.kind : Int), .string s.note.text, .slice ka s.note.keys.length kc, .slice ba s.note.kids.length bc, .int .i64 s.note.line] 45)) = V6 at *
  clear hb
  (try simp only [Act.put, List.setIfInBounds_toArray, List.set_cons_zero, List.set_cons_succ])
  refine hK.out _ _ (fun _ _ => ⟨cellB HY6.out hHeld.1, cellB HY6.out hHeld.2.1, cellB HY6.out hHeld.2.2.1, cellB HY6.out hHeld.2.2.2.1, cellB HY6.out hHeld.2.2.2.2.1, cellB HY6.out hHeld.2.2.2.2.2.1, cellB HY6.out hHeld.2.2.2.2.2.2.1, cellB HY6.out hHeld.2.2.2.2.2.2.2.1, cellB HY6.out hHeld.2.2.2.2.2.2.2.2.1, cellB HY6.out hHeld.2.2.2.2.2.2.2.2.2.1, cellB HY6.out hHeld.2.2.2.2.2.2.2.2.2.2.1, cellB HY6.out hHeld.2.2.2.2.2.2.2.2.2.2.2.1, cellB HY6.out hHeld.2.2.2.2.2.2.2.2.2.2.2.2.1, cellB HY6.out hHeld.2.2.2.2.2.2.2.2.2.2.2.2.2.1, cellB HY6.out hHeld.2.2.2.2.2.2.2.2.2.2.2.2.2.2.1, cellB HY6.out hHeld.2.2.2.2.2.2.2.2.2.2.2.2.2.2.2.1, cellB HY6.out hHeld.2.2.2.2.2.2.2.2.2.2.2.2.2.2.2.2.1, cellB HY6.out hHeld.2.2.2.2.2.2.2.2.2.2.2.2.2.2.2.2.2.1, cellB HY6.out hHeld.2.2.2.2.2.2.2.2.2.2.2.2.2.2.2.2.2.2⟩) (fun hHeld' => ?_)
  replace hHeld := hHeld' (by rfl) (by decide)
  clear hK hHeld'
  (try simp only [Act.put, List.setIfInBounds_toArray, List.set_cons_zero, List.set_cons_succ])
  refine E_take0 hQ (fun _ => hHeld) 7 (v := ?w8v6) rfl rfl (by kernel_rfl) (by kernel_rfl) (by kernel_rfl) (by decide) (by rfl) ?w8y6 ?w8r6
  case w8y6 => (intro w; go_simp; (try with_reducible rfl))
  (try simp only [Act.put, List.setIfInBounds_toArray, List.set_cons_zero, List.set_cons_succ])
  refine E_one 9 (by kernel_rfl) rfl (by rfl) (fun K hK => ?_)
  go_simp
  refine (rdSame_any ⟨{ data := #[] }, { data := #[] }, [meantS s]⟩ ⟨{ data := #[] }, { data := #[] }, [meantS s]⟩ _ _ _ _ _ _ V6 (one_def HG6.out HM.out HF.out HL.out (HD8.out.below HX6.out)) (one_def ((HX6.out.block _ (Array.getElem?_eq_some_iff.1 HGA.out).1).trans HGA.out) HM.out HF.out HL.out (HD8.out.below HX6.out))).mono ?_
  rintro e V9 ⟨rfl, hb⟩
  have HF8 : Hid (Below w8.heap.size w8 V9) := Lib.hid (bthen HX6.out (Nat.le_refl _) hb)
  rw [HSR.out]
  clear hb
  (try simp only [Act.put, List.setIfInBounds_toArray, List.set_cons_zero, List.set_cons_succ])
  refine hK.out _ _ (fun _ h => absurd rfl h) (fun _ => ?_)
  clear hK hHeld
  (try simp only [Act.put, List.setIfInBounds_toArray, List.set_cons_zero, List.set_cons_succ])
  refine E_take0 hQ (fun h => absurd h (by decide)) 10 (v := ?w8v7) rfl rfl (by kernel_rfl) (by kernel_rfl) (by kernel_rfl) (by decide) (by rfl) ?w8y7 ?w8r7
  case w8y7 => (intro w; go_simp; (try with_reducible rfl))
  (try simp only [Act.put, List.setIfInBounds_toArray, List.set_cons_zero, List.set_cons_succ])
  refine E_take0 hQ (fun h => absurd h (by decide)) 11 (v := ?w8v8) rfl rfl (by kernel_rfl) (by kernel_rfl) (by kernel_rfl) (by decide) (by rfl) ?w8y8 ?w8r8
  case w8y8 => (intro w; go_simp; (try with_reducible rfl))
  (try simp only [Act.put, List.setIfInBounds_toArray, List.set_cons_zero, List.set_cons_succ])
  refine E_done (by kernel_rfl) ?_ _
  refine hK'.out _ _ ?_
  go_wp2_with fail
  go_ret
  exact ⟨rfl, (bthen HB8.out (Nat.le_refl _) HF8.out)⟩
end Go.Proofs.Ytbnggfhofdpdcaa
