/-
  Sagas: on, asker: contracts.
-/
import Derived.Test.YtgfiogjfgbegpaaGreatBz4
import Derived.Test.YtgfiogjfgbegpaaGreatBz10
import Derived.Test.YtgfiogjfgbegpaaGreatBz38
import Derived.Test.YtgfiogjfgbegpaaGreatBz49
import Derived.Test.YtgfiogjfgbegpaaGreatBz50
import Derived.Test.YtgfiogjfgbegpaaGreatBz51
namespace Go.Proofs.YtgfiogjfgbegpaaGreat
open Go Go.RowKit Go.Maps Go.WideShapes

structure GoodS (n : Nat) (S : SagD) : Prop where
  dn : ∀ i ∈ S.done, 0 ≤ i ∧ i < (n : Int)
  dl : S.done.length ≤ n
  ul : S.undone.length ≤ n
theorem forthX_undone (l : List StepD) (rs : List (List Int)) (now : Int) (X : AskX) : (forthX l rs now X).1.undone = X.1.undone := by
  have h : ∀ j, (begsX l rs now X j).1.undone = X.1.undone := by
    intro j
    induction j with
    | zero => rfl
    | succ j ih =>
      rw [begsX_succ]
      unfold begX
      split
      · rw [putX_undone]; exact ih
      · exact ih
  unfold forthX
  split
  · rfl
  · split
    · rfl
    · exact h l.length
theorem putX_done (X : AskX) (k : WayD) (r : RunD) (h : r.1 ≠ 3) : (putX X k r).1.done = X.1.done := by
  unfold putX
  rw [if_neg (fun e => h e.1)]
  split <;> rfl
theorem begX_done (l : List StepD) (rs : List (List Int)) (now : Int) (X : AskX) (i : Nat) : (begX l rs now X i).1.done = X.1.done := by
  unfold begX
  split
  · exact putX_done _ _ _ (by unfold beginR; show (1 : Int) ≠ 3; decide)
  · rfl
theorem forthX_done (l : List StepD) (rs : List (List Int)) (now : Int) (X : AskX) : (forthX l rs now X).1.done = X.1.done := by
  have h : ∀ j, (begsX l rs now X j).1.done = X.1.done := by
    intro j
    induction j with
    | zero => rfl
    | succ j ih =>
      rw [begsX_succ, begX_done]
      exact ih
  unfold forthX
  split
  · rfl
  · split
    · rfl
    · exact h l.length
theorem forthX_out (l : List StepD) (rs : List (List Int)) (now : Int) (X : AskX) : (forthX l rs now X).2.length ≤ X.2.length + l.length := by
  unfold forthX
  split
  · exact Nat.le_add_right _ _
  · split
    · exact Nat.le_add_right _ _
    · exact (begsX_len l rs now X l.length).1
set_option maxRecDepth 100000 in
set_option maxHeartbeats 2000000 in
theorem on_any (k : SagK) (bs bo ob : Nat) (X : AskX) (now : Int) (U : Nat → Prop) (w : World) (h : AskE w U k bs bo ob X) (hf : FineK k) (hdn : ∀ i ∈ X.1.done, 0 ≤ i ∧ i < (k.d.steps.length : Int)) (hdl : X.1.done.length ≤ 800000) (hul : X.1.undone.length ≤ 800000) (hol : X.2.length ≤ 800000) : Calls Tryz.prog 45 #[.pointer (some ⟨k.p, 0, none⟩), (.func (.func 83) #[] #[.pointer (some ⟨bs, 0, none⟩), .pointer (some ⟨bo, 0, none⟩)]), .int .i64 now] w fun e w' => e = .returned (.tuple #[]) ∧ AskTo w U w' k bs bo ob (onX k.d.steps k.rs now X) := by
  have hn30 := hf.small.steps
  have HF := Lib.hid hf
  have HDN := Lib.hid hdn
  have HFO := Lib.hid (forth_any k bs bo ob X now U w h hf (by omega) (by omega))
  have hfu := forthX_undone k.d.steps k.rs now X
  have hfd := forthX_done k.d.steps k.rs now X
  have hfo := forthX_out k.d.steps k.rs now X
  have HBK := Lib.hid (fun Y V W (hY : AskE W V k bs bo ob Y) h1 h2 h3 h4 => back_any k bs bo ob Y now V W hY hf h1 h2 h3 h4)
  have HSE := Lib.hid (fun Y V W (hY : AskE W V k bs bo ob Y) => (hY : ∃ da dc ua uc va vc, AskR W V k.p k.m k.sa k.sc k.vr k.d k.rs k.N bs bo ob da dc ua uc va vc Y))
  have HH := Lib.hid h
  have HDN2 : Hid (∀ i ∈ (forthX k.d.steps k.rs now X).1.done, 0 ≤ i ∧ i < (k.d.steps.length : Int)) := Lib.hid (by rw [hfd]; exact hdn)
  have hfd2 : (forthX k.d.steps k.rs now X).1.done.length ≤ 800000 := by rw [hfd]; omega
  have hfu2 : (forthX k.d.steps k.rs now X).1.undone.length ≤ 800000 := by rw [hfu]; omega
  have hfo2 : (forthX k.d.steps k.rs now X).2.length ≤ 900000 := by omega
  clear hf hdn hfu hfd hfo
  unfold onX
  dsimp only
  by_cases h1 : X.1.status = 1
  · rw [if_pos h1]
    have d1 : (X.1.status == 1) = true := by simpa using h1
    generalize forthX k.d.steps k.rs now X = Y at *
    by_cases h2 : Y.1.status = 2
    · rw [if_pos h2]
      have d2 : (Y.1.status == 2) = true := by simpa using h2
      obtain ⟨da, dc, ua, uc, va, vc, h⟩ := h
      obtain ⟨p, m, sa, sc, vr, d, rs, N⟩ := k
      dsimp only at *
      obtain ⟨-, -, -, -, -, -, -, x7⟩ := h.sag.cells
      clear h h1 h2
      go_enter Tryz.func45, Tryz.ntmps45
      go_wp2_with fail
      refine HFO.out.mono ?_
      rintro e w1 ⟨rfl, V, hY, hG⟩
      obtain ⟨da', dc', ua', uc', va', vc', hA⟩ := HSE.out _ _ _ hY
      obtain ⟨-, -, -, -, -, -, -, y7⟩ := hA.sag.cells
      have HT := Lib.hid (HBK.out Y V w1 hY (by omega) (by omega) hfo2 HDN2.out)
      have HG := Lib.hid hG
      clear hA hY hG x7
      go_wp2_with fail
      refine HT.out.mono ?_
      rintro e w2 ⟨rfl, hT⟩
      have HFIN := Lib.hid (AskTo.trans HG.out hT)
      clear hT
      go_wp2_with fail
      go_end0
      exact ⟨rfl, HFIN.out⟩
    · rw [if_neg h2]
      have d2 : (Y.1.status == 2) = false := by simpa using h2
      obtain ⟨da, dc, ua, uc, va, vc, h⟩ := h
      obtain ⟨p, m, sa, sc, vr, d, rs, N⟩ := k
      dsimp only at *
      obtain ⟨-, -, -, -, -, -, -, x7⟩ := h.sag.cells
      clear h h1 h2
      go_enter Tryz.func45, Tryz.ntmps45
      go_wp2_with fail
      refine HFO.out.mono ?_
      rintro e w1 ⟨rfl, V, hY, hG⟩
      obtain ⟨da', dc', ua', uc', va', vc', hA⟩ := HSE.out _ _ _ hY
      obtain ⟨-, -, -, -, -, -, -, y7⟩ := hA.sag.cells
      have HFIN := Lib.hid (show AskTo w U w1 ⟨p, m, sa, sc, vr, d, rs, N⟩ bs bo ob Y from ⟨V, hY, hG⟩)
      clear hA hY hG x7
      go_wp2_with fail
      go_end0
      exact ⟨rfl, HFIN.out⟩
  · rw [if_neg h1]
    have d1 : (X.1.status == 1) = false := by simpa using h1
    have HT := Lib.hid (HBK.out X U w h (by omega) (by omega) (by omega) HDN.out)
    have HFIN := Lib.hid (HH.out.to (Below.refl _ w))
    by_cases h2 : X.1.status = 2
    · rw [if_pos h2]
      have d2 : (X.1.status == 2) = true := by simpa using h2
      obtain ⟨da, dc, ua, uc, va, vc, h⟩ := h
      obtain ⟨p, m, sa, sc, vr, d, rs, N⟩ := k
      dsimp only at *
      obtain ⟨-, -, -, -, -, -, -, x7⟩ := h.sag.cells
      clear h h1 h2
      go_enter Tryz.func45, Tryz.ntmps45
      go_wp2_with fail
      refine HT.out.mono ?_
      rintro e w2 ⟨rfl, hT⟩
      have HFIN := Lib.hid hT
      clear hT
      go_wp2_with fail
      go_end0
      exact ⟨rfl, HFIN.out⟩
    · rw [if_neg h2]
      have d2 : (X.1.status == 2) = false := by simpa using h2
      obtain ⟨da, dc, ua, uc, va, vc, h⟩ := h
      obtain ⟨p, m, sa, sc, vr, d, rs, N⟩ := k
      dsimp only at *
      obtain ⟨-, -, -, -, -, -, -, x7⟩ := h.sag.cells
      clear h h1 h2
      go_enter Tryz.func45, Tryz.ntmps45
      go_wp2_with fail
      go_end0
      exact ⟨rfl, HFIN.out⟩
theorem asker_any (k : SagK) (S : SagD) (U : Nat → Prop) (w : World) (h : SagE w U k S) (hU : ∀ j, U j → j < w.heap.size) : Calls Tryz.prog 44 #[.pointer (some ⟨k.p, 0, none⟩)] w fun e w' => ∃ bs bo ob, e = .returned (.tuple #[.pointer (some ⟨ob, 0, none⟩), (.func (.func 83) #[] #[.pointer (some ⟨bs, 0, none⟩), .pointer (some ⟨bo, 0, none⟩)])]) ∧ AskE w' (fun j => U j ∨ j = ob) k bs bo ob (S, []) ∧ Below w.heap.size w w' ∧ w.heap.size ≤ ob ∧ ob < w'.heap.size := by
  have HH := Lib.hid h
  clear h
  obtain ⟨hb1, hsz1, hf⟩ := allocF [.cells #[.pointer (some ⟨k.p, 0, none⟩)] 48, .cells #[.slice none 0 0] 52, .cells #[.pointer (some ⟨w.heap.size + 1, 0, none⟩)] 92] w
  have g0 := hf 0 _ rfl
  have g1 := hf 1 _ rfl
  have g2 := hf 2 _ rfl
  clear hf
  have e0 : w.heap.size + 0 = w.heap.size := rfl
  simp only [List.foldl_cons, List.foldl_nil, List.length_cons, List.length_nil, Nat.reduceAdd] at hb1 hsz1 g0 g1 g2
  rw [e0] at g0
  have HB := Lib.hid hb1
  have HG0 := Lib.hid g0
  have HG1 := Lib.hid g1
  have HG2 := Lib.hid g2
  have HU := Lib.hid hU
  have HS1 := Lib.hid (HH.out.below hb1)
  have HSZ := Lib.hid hsz1
  clear g0 g1 g2 hb1 hsz1 e0 hU
  go_enter Tryz.func44, Tryz.ntmps44
  go_wp2_with fail
  have HT := HSZ.out
  refine bodyPost_ret (results_tmp2 rfl _ _ _) rfl ⟨w.heap.size, w.heap.size + 1 + 1, w.heap.size + 1, rfl, ?_, HB.out, by omega, by omega⟩
  generalize ((w.alloc (.cells #[.pointer (some ⟨k.p, 0, none⟩)] 48)).alloc (.cells #[.slice none 0 0] 52)).alloc (.cells #[.pointer (some ⟨w.heap.size + 1, 0, none⟩)] 92) = w3 at *
  obtain ⟨da, dc, ua, uc, h⟩ := HH.out
  have hG : Grow U (fun j => U j ∨ j = w.heap.size + 1) w w3 := ⟨Chg.of_below HB.out, fun j hj => hj.elim .inl (fun e => .inr (by omega)), fun j hj => .inl hj⟩
  obtain ⟨L, g, q1, _⟩ := h.map
  exact ⟨da, dc, ua, uc, none, 0, ⟨h.turn hG (HB.out.block _ h.ltp) (HB.out.block _ h.ltm) (fun g e => HB.out.block _ (h.done.lt g e).2) (fun g e => HB.out.block _ (h.undone.lt g e).2), HG0.out, HG2.out, HG1.out, World.ownsRow_nil _ _ _ _, fun e => e.elim (fun e => by have := HU.out _ e; omega) (fun e => by omega), fun e => e.elim (fun e => by have := HU.out _ e; omega) (fun e => by omega), .inr rfl, fun g e => by cases e⟩⟩
def CallTo (w : World) (U : Nat → Prop) (w' : World) (k : SagK) (S : SagD) (os : List OrdD) (v : Value) : Prop :=
  ∃ (V : Nat → Prop) (va : Option Addr) (vc : Nat), v = .slice va os.length vc ∧ w'.ownsRow w.heap.size 55 4 (.slice va os.length vc) os.length (flatO os) ∧ (∀ g, (Value.slice va os.length vc).ownBlock = some g → ¬ V g) ∧ SagE w' V k S ∧ Grow U V w w' ∧ ∀ j, V j → j < w'.heap.size
theorem AskE.read {w : World} {U : Nat → Prop} {k : SagK} {bs bo ob : Nat} {X : AskX} (h : AskE w U k bs bo ob X) : ∃ va vc, w.heap[ob]? = some (.cells #[.slice va X.2.length vc] 52 (0, 0)) ∧ w.ownsRow ob 55 4 (.slice va X.2.length vc) X.2.length (flatO X.2) := by
  obtain ⟨da, dc, ua, uc, va, vc, h⟩ := h
  exact ⟨va, vc, h.hob, h.row⟩
theorem call_fin {w w1 w' : World} {U U' : Nat → Prop} {k : SagK} {bs bo ob : Nat} {X : AskX} (hU : ∀ j, U j → j < w.heap.size) (hb1 : Below w.heap.size w w1) (hob : w.heap.size ≤ ob) (hA : AskE w' U' k bs bo ob X) (hG : Grow (fun j => U j ∨ j = ob) U' w1 w') :
    ∃ va vc, w'.heap[ob]? = some (.cells #[.slice va X.2.length vc] 52 (0, 0)) ∧ CallTo w U w' k X.1 X.2 (.slice va X.2.length vc) := by
  obtain ⟨da, dc, ua, uc, va, vc, h⟩ := hA
  have hs1 := hb1.size
  have hs := hG.size
  refine ⟨va, vc, h.hob, fun j => U' j ∧ j ≠ ob ∧ (Value.slice va X.2.length vc).ownBlock ≠ some j ∧ j < w'.heap.size, va, vc, rfl, ownsRow_mono h.row hob, fun g e e2 => e2.2.2.1 e, ⟨da, dc, ua, uc, ?_⟩, ⟨?_, fun j hj => (hG.new j hj.1).elim (fun e => e.elim .inl (fun e => absurd e hj.2.1)) (fun e => .inr (by omega)), fun j hj => ?_⟩, fun j hj => hj.2.2.2⟩
  · have hp : k.p ≠ ob := fun e => by
      have h1 := h.sag.cell
      rw [e] at h1
      exact absurd (h1.symm.trans h.hob) (by simp)
    have hn : ∀ {e : TypeId} {size n : Nat} {v : Value} {xs : List Value}, w'.ownsRow 0 e size v n xs → 52 ≠ e → 55 ≠ e → ∀ g, v.ownBlock = some g → U' g → g ≠ ob ∧ (Value.slice va X.2.length vc).ownBlock ≠ some g ∧ g < w'.heap.size := fun hr he1 he2 g hg _ => ⟨fun e => row_ne hr h.hob he1 (by rw [← e]; exact hg), fun e => by
      obtain ⟨c1, k1⟩ := owns_cells h.row e
      exact row_ne hr k1 he2 hg, (hr.lt g hg).2⟩
    refine ⟨h.sag.cell, h.sag.df.less (fun j hj => hj.1), h.sag.refs.less (fun j hj => hj.1), h.sag.map, h.sag.done, h.sag.undone, h.sag.apart, ⟨h.sag.ownp, hp, row_ne h.row h.sag.cell (by decide), h.sag.ltp⟩, ⟨h.sag.ownm, fun e => h.sag.nem h.hob e.symm, row_map h.row h.sag rfl, h.sag.ltm⟩, fun g e => ⟨h.sag.ownd g e, hn h.sag.done (by decide) (by decide) g e (h.sag.ownd g e)⟩, fun g e => ⟨h.sag.ownu g e, hn h.sag.undone (by decide) (by decide) g e (h.sag.ownu g e)⟩⟩
  · exact (Chg.of_below hb1).trans hG.chg (fun j hj hl => hj.elim id (fun e => by omega))
  · have hl := hU j hj
    exact ⟨hG.old j (.inl hj), by omega, fun e => by have := (h.row.lt j e).1; omega, by omega⟩
end Go.Proofs.YtgfiogjfgbegpaaGreat

/-
  The law BoundsPoints: walk.
-/
namespace Go.Proofs.YtgfiogjfgbegpaaGreat
open Go Go.RowKit Go.WideShapes

theorem or_ge {x n : Int} {b : Bool} {y : DiagD} (h : noteL [] (!(decide (n ≤ x) && b)) y = []) : n ≤ x := by
  unfold noteL at h
  split at h
  · simp at h
  · rename_i h1
    simp at h1
    exact h1.1
theorem range_none {i : Nat} {s : StepD} (h : rangeL i s [] = []) : 1 ≤ or0 s.most 1 ∧ 0 ≤ s.first ∧ 1 ≤ or0 s.factor 1 ∧ 1 ≤ or0 s.limit 100 := by
  have key : ∀ (l : List DiagD) (b : Bool) (y : DiagD), noteL l b y = [] → l = [] ∧ noteL [] b y = [] := by
    intro l b y h
    cases b with
    | true => simp [noteL] at h
    | false => exact ⟨h, rfl⟩
  unfold rangeL at h
  obtain ⟨h3, h4⟩ := key _ _ _ h
  obtain ⟨h2, h3⟩ := key _ _ _ h3
  obtain ⟨h1, h2⟩ := key _ _ _ h2
  exact ⟨or_ge h1, or_ge h2, or_ge h3, or_ge h4⟩
theorem sort_none {l : List DiagD} (h : ¬ 0 < (sortD l).length) : l = [] := by
  cases l with
  | nil => rfl
  | cons x l =>
    have := (sortD_mem (x :: l) x).2 (by simp)
    have h0 : sortD (x :: l) = [] := List.eq_nil_of_length_eq_zero (by omega)
    rw [h0] at this
    cases this
theorem fine_nums {all : List StepD} (h : chkU all all.length (chkR 0 all []) = []) : ∀ (i : Nat) (hi : i < all.length), 1 ≤ or0 all[i].most 1 ∧ 0 ≤ all[i].first ∧ 1 ≤ or0 all[i].factor 1 ∧ 1 ≤ or0 all[i].limit 100 := by
  intro i hi
  refine range_none (i := i) (List.eq_nil_iff_forall_not_mem.2 fun y hy => ?_)
  have : y ∈ chkU all all.length (chkR 0 all []) := by
    rw [chkU_mem, chkR_mem]
    exact .inl (.inr ⟨i, all[i], List.getElem?_eq_getElem hi, by rwa [Nat.zero_add]⟩)
  rw [h] at this
  cases this
end Go.Proofs.YtgfiogjfgbegpaaGreat

/-
  What layer 25's laws ask whatever is asked.
-/
namespace Go.Proofs.YtgfiogjfgbegpaaGreat
open Go Go.RowKit Go.WideShapes

def s25a : StepD := ⟨{ data := #[97] }, { data := #[120] }, { data := #[] }, [], 0, 0, 0, 0, .mk 0 { data := #[] } [] [] 0⟩
def s25b : StepD := ⟨{ data := #[97] }, { data := #[121] }, { data := #[] }, [{ data := #[97] }, { data := #[98] }], 0, 0, 0, 0, .mk 0 { data := #[] } [] [] 0⟩
def d25 : DefD := ⟨{ data := #[115] }, { data := #[] }, [s25a, s25b]⟩
structure At25 (W : World) (g1 g2 : Nat) : Prop where
  b1 : W.heap[g1]? = some (.cells #[.string { data := #[97] }, .string { data := #[98] }] 9 (0, 0))
  b2 : W.heap[g2]? = some (.cells #[.string { data := #[97] }, .string { data := #[120] }, .string { data := #[] }, .slice none 0 0, .int .i64 0, .int .i64 0, .int .i64 0, .int .i64 0, .int .u8 0, .string { data := #[] }, .slice none 0 0, .slice none 0 0, .int .i64 0, .string { data := #[97] }, .string { data := #[121] }, .string { data := #[] }, .slice (some ⟨g1, 0, none⟩) 2 2, .int .i64 0, .int .i64 0, .int .i64 0, .int .i64 0, .int .u8 0, .string { data := #[] }, .slice none 0 0, .slice none 0 0, .int .i64 0] 47 (0, 0))
theorem At25.below {W W' : World} {g1 g2 : Nat} (h : At25 W g1 g2) (hb : Below W.heap.size W W') : At25 W' g1 g2 :=
  ⟨(hb.block _ (Array.getElem?_eq_some_iff.1 h.b1).1).trans h.b1, (hb.block _ (Array.getElem?_eq_some_iff.1 h.b2).1).trans h.b2⟩
theorem At25.toR {W : World} {g1 g2 : Nat} (h : At25 W g1 g2) : DefR W [.string { data := #[115] }, .string { data := #[] }, .slice (some ⟨g2, 0, none⟩) 2 2] d25 (some ⟨g2, 0, none⟩) 2 := by
  refine ⟨rfl, by decide, by decide, [[.string { data := #[97] }, .string { data := #[120] }, .string { data := #[] }, .slice none 0 0, .int .i64 0, .int .i64 0, .int .i64 0, .int .i64 0, .int .u8 0, .string { data := #[] }, .slice none 0 0, .slice none 0 0, .int .i64 0], [.string { data := #[97] }, .string { data := #[121] }, .string { data := #[] }, .slice (some ⟨g1, 0, none⟩) 2 2, .int .i64 0, .int .i64 0, .int .i64 0, .int .i64 0, .int .u8 0, .string { data := #[] }, .slice none 0 0, .slice none 0 0, .int .i64 0]], rfl, rds_row 2 13 h.b2 rfl (by decide), fun i r s hr hs => ?_⟩
  rcases i with _ | _ | i
  · cases hr
    cases hs
    exact ⟨none, 0, none, 0, none, 0, rfl, ⟨by decide, by decide, by decide, (fun a ha => by cases ha), by unfold I64w; decide, by unfold I64w; decide, by unfold I64w; decide, by unfold I64w; decide⟩, ⟨rfl, none, 0, rfl, Nat.le_refl _, Nat.zero_le _, .inl rfl⟩, node_none W⟩
  · cases hr
    cases hs
    exact ⟨some ⟨g1, 0, none⟩, 2, none, 0, none, 0, rfl, ⟨by decide, by decide, by decide, fun a ha => by simp only [s25b, List.mem_cons, List.not_mem_nil, or_false] at ha; rcases ha with rfl | rfl <;> decide, by unfold I64w; decide, by unfold I64w; decide, by unfold I64w; decide, by unfold I64w; decide⟩, rds_row 2 1 h.b1 rfl (by decide), node_none W⟩
  · simp at hr
end Go.Proofs.YtgfiogjfgbegpaaGreat

/-
  Sagas: Start, Answer: contracts.
-/
namespace Go.Proofs.YtgfiogjfgbegpaaGreat
open Go Go.RowKit Go.Maps Go.WideShapes

theorem CallTo.same {w w' : World} {U : Nat → Prop} {k : SagK} {S : SagD} (h : SagE w U k S) (hU : ∀ j, U j → j < w.heap.size) (hb : Below w.heap.size w w') : CallTo w U w' k S [] (.slice none 0 0) :=
  ⟨U, none, 0, rfl, World.ownsRow_nil _ _ _ _, (fun g e => by cases e), h.below hb, Grow.of_chg (Chg.of_below hb), fun j hj => Nat.lt_of_lt_of_le (hU j hj) hb.size⟩
set_option maxRecDepth 100000 in
set_option maxHeartbeats 2000000 in
theorem Start_any (k : SagK) (S : SagD) (now : Int) (U : Nat → Prop) (w : World) (h : SagE w U k S) (hU : ∀ j, U j → j < w.heap.size) (hf : FineK k) (hg : GoodS k.d.steps.length S) : Calls Tryz.prog 15 #[.pointer (some ⟨k.p, 0, none⟩), .int .i64 now] w fun e w' => ∃ v, e = .returned v ∧ CallTo w U w' k (startX k.d.steps k.rs S now).1 (startX k.d.steps k.rs S now).2 v := by
  have HM := Lib.hid (made_any k S U w h)
  have HSAME := Lib.hid (CallTo.same h hU (Below.refl _ w))
  have HAK := Lib.hid (asker_any k S U w h hU)
  have HON := Lib.hid (fun bs bo ob V W (hY : AskE W V k bs bo ob ({ S with status := 1 }, [])) => on_any k bs bo ob ({ S with status := 1 }, []) now V W hY hf hg.dn (Nat.le_trans hg.dl (by have := hf.small.steps; omega)) (Nat.le_trans hg.ul (by have := hf.small.steps; omega)) (by simp))
  have HU := Lib.hid hU
  obtain ⟨da, dc, ua, uc, hs⟩ := h
  obtain ⟨p, m, sa, sc, vr, d, rs, N⟩ := k
  dsimp only at hs HM HSAME HAK HON hf hg ⊢
  obtain ⟨-, -, -, -, -, -, -, x7⟩ := hs.cells
  clear hs hf hg hU
  unfold startX
  by_cases h0 : S.status = 0
  case neg =>
    rw [if_neg h0]
    have d0 : (S.status != 0) = true := by simpa using h0
    clear h0
    go_enter Tryz.func15, Tryz.ntmps15
    go_wp2_with fail
    refine HM.out.mono ?_
    rintro e w' ⟨rfl, rfl⟩
    go_wp2_with fail
    go_ret
    exact ⟨_, rfl, HSAME.out⟩
  rw [if_pos h0]
  have d0 : (S.status != 0) = false := by simpa using h0
  clear h0
  go_enter Tryz.func15, Tryz.ntmps15
  go_wp2_with fail
  refine HM.out.mono ?_
  rintro e w' ⟨rfl, rfl⟩
  go_wp2_with fail
  refine HAK.out.mono ?_
  rintro e w1 ⟨bs, bo, ob, rfl, ⟨da1, dc1, ua1, uc1, va1, vc1, hA⟩, hb1, hob, hol⟩
  dsimp only at hA
  have hfr := hA.sag.froz 7
  obtain ⟨-, -, -, -, -, -, -, y7⟩ := hA.sag.cells
  obtain ⟨hS, hGS⟩ := hA.status 1
  have HT := Lib.hid (HON.out bs bo ob _ _ ⟨da1, dc1, ua1, uc1, va1, vc1, hS⟩)
  have HGS := Lib.hid hGS
  have HB1 := Lib.hid hb1
  clear hA hS hGS hb1 x7
  go_upto_region 5 with fail
  generalize w1.setCell ⟨p, 7, none⟩ (.int .u8 1) = w2 at *
  clear y7 hfr
  go_wp2_with fail
  refine HT.out.mono ?_
  rintro e w3 ⟨rfl, U', hY, hG⟩
  obtain ⟨va, vc, hbk, hC⟩ := call_fin HU.out HB1.out hob hY (HGS.out.trans hG)
  have HC := Lib.hid hC
  have v0 := cell1 hbk
  clear hY hG hC hbk
  go_wp2_with fail
  go_ret
  exact ⟨_, rfl, HC.out⟩
set_option maxRecDepth 100000 in
set_option maxHeartbeats 8000000 in
theorem AnswerS_any (k : SagK) (S : SagD) (st tr o now : Int) (u : Bool) (U : Nat → Prop) (w : World) (h : SagE w U k S) (hU : ∀ j, U j → j < w.heap.size) (hf : FineK k) (hg : GoodS k.d.steps.length S) : Calls Tryz.prog 16 #[.pointer (some ⟨k.p, 0, none⟩), .agg #[.int .i64 st, .int .i64 tr, .bool u, .int .u8 o], .int .i64 now] w fun e w' => ∃ v, e = .returned (.tuple #[v, .bool (answerX k.d.steps k.rs S (st, u) tr o now).2]) ∧ CallTo w U w' k (answerX k.d.steps k.rs S (st, u) tr o now).1.1 (answerX k.d.steps k.rs S (st, u) tr o now).1.2 v := by
  have hn30 := hf.small.steps
  have HSAME := Lib.hid (fun W (hb : Below w.heap.size w W) => CallTo.same h hU hb)
  have HH := Lib.hid h
  have HU := Lib.hid hU
  have HF := Lib.hid hf
  have HGD := Lib.hid hg
  clear h hU hf hg
  obtain ⟨p, m, sa, sc, vr, d, rs, N⟩ := k
  dsimp only at HSAME HH HF HGD hn30 ⊢
  by_cases hmv : movB S = true
  case neg =>
    have hmv : movB S = false := by simpa using hmv
    have hans : answerX d.steps rs S (st, u) tr o now = ((S, []), false) := by
      unfold answerX
      rw [if_neg (fun e => by rw [hmv] at e; cases e.1)]
    rw [hans]
    clear hans
    have hb1 := (Below.refl w.heap.size w).alloc (Nat.le_refl _) (.cells #[.int .i64 st, .int .i64 tr, .bool u, .int .u8 o] 30)
    have g0 := World.alloc_heap_new w (.cells #[.int .i64 st, .int .i64 tr, .bool u, .int .u8 o] 30)
    have hsz : (w.alloc (.cells #[.int .i64 st, .int .i64 tr, .bool u, .int .u8 o] 30)).heap.size = w.heap.size + 1 := by simp
    go_enter Tryz.func16, Tryz.ntmps16
    go_upto_region 1 with fail
    generalize w.alloc (.cells #[.int .i64 st, .int .i64 tr, .bool u, .int .u8 o] 30) = w0 at *
    have HMOV := Lib.hid (moving_any ⟨p, m, sa, sc, vr, d, rs, N⟩ S U w0.drew (HH.out.below hb1.drew))
    rw [hmv] at HMOV
    have HB := Lib.hid hb1
    have HG0 := Lib.hid g0
    have HS0 := Lib.hid (HH.out.below hb1)
    have HSZ := Lib.hid hsz
    obtain ⟨a0, a1, a2, a3, -⟩ := cells4h g0
    clear hb1 g0 hsz hmv
    obtain ⟨da, dc, ua, uc, hs⟩ := HS0.out
    dsimp only at hs
    obtain ⟨-, -, x2, -, x4, -, -, -⟩ := hs.cells
    clear hs
    refine E_region (S := (fun W => W.cell? ⟨w.heap.size, 0, none⟩ = some (.int .i64 st) ∧ W.cell? ⟨p, 2, none⟩ = some (.slice sa d.steps.length sc))) 18 (by kernel_rfl) ⟨a0, x2⟩ (fun _ _ _ _ _ h => h) (fun Q' hQ hK' hHeld => ?_)
    refine E_take0 hQ (fun _ => hHeld) 0 (v := ?av1) rfl rfl (by kernel_rfl) (by kernel_rfl) (by kernel_rfl) (by decide) (by rfl) ?ay1 ?ar1
    case ay1 => (intro w; go_simp; (try with_reducible rfl))
    (try simp only [layE])
    refine E_one 1 (by kernel_rfl) rfl (by rfl) (fun K hK => ?_)
    go_simp
    refine HMOV.out.mono ?_
    rintro e w' ⟨rfl, rfl⟩
    (skip)
    refine hK.out _ _ (fun _ _ => hHeld) (fun hHeld' => ?_)
    replace hHeld := hHeld' (by rfl) (by decide)
    clear hK hHeld'
    (try simp only [layE])
    refine E_take0 hQ (fun _ => hHeld) 2 (v := ?av2) rfl rfl (by kernel_rfl) (by kernel_rfl) (by kernel_rfl) (by decide) (by rfl) ?ay2 ?ar2
    case ay2 => (intro w; go_simp; (try with_reducible rfl))
    (try simp only [layE])
    refine E_take0 hQ (fun _ => hHeld) 3 (v := ?av3) rfl rfl (by kernel_rfl) (by kernel_rfl) (by kernel_rfl) (by decide) (by rfl) ?ay3 ?ar3
    case ay3 => (intro w; go_simp; (try with_reducible rfl))
    (try simp only [layE])
    refine E_off hQ (fun _ => hHeld) 4 rfl rfl (by kernel_rfl) (by kernel_rfl) (by kernel_rfl) (by decide) (by rfl) ?_
    (try simp only [layE])
    refine E_off hQ (fun _ => hHeld) 5 rfl rfl (by kernel_rfl) (by kernel_rfl) (by kernel_rfl) (by decide) (by rfl) ?_
    (try simp only [layE])
    refine E_off hQ (fun _ => hHeld) 6 rfl rfl (by kernel_rfl) (by kernel_rfl) (by kernel_rfl) (by decide) (by rfl) ?_
    (try simp only [layE])
    refine E_take0 hQ (fun _ => hHeld) 7 (v := ?av7) rfl rfl (by kernel_rfl) (by kernel_rfl) (by kernel_rfl) (by decide) (by rfl) ?ay7 ?ar7
    case ay7 => (intro w; go_simp; (try with_reducible rfl))
    (try simp only [layE])
    refine E_take0 hQ (fun _ => hHeld) 8 (v := ?av8) rfl rfl (by kernel_rfl) (by kernel_rfl) (by kernel_rfl) (by decide) (by rfl) ?ay8 ?ar8
    case ay8 => (intro w; go_simp; (try with_reducible rfl))
    (try simp only [layE])
    refine E_off hQ (fun _ => hHeld) 9 rfl rfl (by kernel_rfl) (by kernel_rfl) (by kernel_rfl) (by decide) (by rfl) ?_
    (try simp only [layE])
    refine E_off hQ (fun _ => hHeld) 10 rfl rfl (by kernel_rfl) (by kernel_rfl) (by kernel_rfl) (by decide) (by rfl) ?_
    (try simp only [layE])
    refine E_off hQ (fun _ => hHeld) 11 rfl rfl (by kernel_rfl) (by kernel_rfl) (by kernel_rfl) (by decide) (by rfl) ?_
    (try simp only [layE])
    refine E_off hQ (fun _ => hHeld) 12 rfl rfl (by kernel_rfl) (by kernel_rfl) (by kernel_rfl) (by decide) (by rfl) ?_
    (try simp only [layE])
    refine E_off hQ (fun _ => hHeld) 13 rfl rfl (by kernel_rfl) (by kernel_rfl) (by kernel_rfl) (by decide) (by rfl) ?_
    (try simp only [layE])
    refine E_off hQ (fun _ => hHeld) 14 rfl rfl (by kernel_rfl) (by kernel_rfl) (by kernel_rfl) (by decide) (by rfl) ?_
    (try simp only [layE])
    refine E_off hQ (fun _ => hHeld) 15 rfl rfl (by kernel_rfl) (by kernel_rfl) (by kernel_rfl) (by decide) (by rfl) ?_
    (try simp only [layE])
    refine E_off hQ (fun _ => hHeld) 16 rfl rfl (by kernel_rfl) (by kernel_rfl) (by kernel_rfl) (by decide) (by rfl) ?_
    (try simp only [layE])
    refine E_off hQ (fun _ => hHeld) 17 rfl rfl (by kernel_rfl) (by kernel_rfl) (by kernel_rfl) (by decide) (by rfl) ?_
    (try simp only [layE])
    refine E_one 18 (by kernel_rfl) rfl (by rfl) (fun K hK => ?_)
    go_simp
    (try simp only [layE])
    refine hK.out _ _ (fun _ h => absurd rfl h) (fun _ => ?_)
    clear hK hHeld
    (try simp only [layE])
    refine E_done (by kernel_rfl) ?_ _
    refine hK'.out _ _ ?_
    clear hK' hQ
    go_wp2_with fail
    refine bodyPost_ret (results_tmp2 rfl _ _ _) rfl ?_
    exact ⟨_, rfl, HSAME.out _ HB.out.drew⟩
  by_cases hst0 : st < 0
  · have d0 : decide (st < 0) = true := decide_eq_true hst0
    have hans : answerX d.steps rs S (st, u) tr o now = ((S, []), false) := by
      unfold answerX
      rw [if_neg (fun e => by have := e.2.1; dsimp only at this; omega)]
    rw [hans]
    clear hans
    have hb1 := (Below.refl w.heap.size w).alloc (Nat.le_refl _) (.cells #[.int .i64 st, .int .i64 tr, .bool u, .int .u8 o] 30)
    have g0 := World.alloc_heap_new w (.cells #[.int .i64 st, .int .i64 tr, .bool u, .int .u8 o] 30)
    have hsz : (w.alloc (.cells #[.int .i64 st, .int .i64 tr, .bool u, .int .u8 o] 30)).heap.size = w.heap.size + 1 := by simp
    go_enter Tryz.func16, Tryz.ntmps16
    go_upto_region 1 with fail
    generalize w.alloc (.cells #[.int .i64 st, .int .i64 tr, .bool u, .int .u8 o] 30) = w0 at *
    have HMOV := Lib.hid (moving_any ⟨p, m, sa, sc, vr, d, rs, N⟩ S U w0.drew (HH.out.below hb1.drew))
    rw [hmv] at HMOV
    have HB := Lib.hid hb1
    have HG0 := Lib.hid g0
    have HS0 := Lib.hid (HH.out.below hb1)
    have HSZ := Lib.hid hsz
    obtain ⟨a0, a1, a2, a3, -⟩ := cells4h g0
    clear hb1 g0 hsz hmv
    obtain ⟨da, dc, ua, uc, hs⟩ := HS0.out
    dsimp only at hs
    obtain ⟨-, -, x2, -, x4, -, -, -⟩ := hs.cells
    clear hs
    refine E_region (S := (fun W => W.cell? ⟨w.heap.size, 0, none⟩ = some (.int .i64 st) ∧ W.cell? ⟨p, 2, none⟩ = some (.slice sa d.steps.length sc))) 18 (by kernel_rfl) ⟨a0, x2⟩ (fun _ _ _ _ _ h => h) (fun Q' hQ hK' hHeld => ?_)
    refine E_take0 hQ (fun _ => hHeld) 0 (v := ?bv1) rfl rfl (by kernel_rfl) (by kernel_rfl) (by kernel_rfl) (by decide) (by rfl) ?by1 ?br1
    case by1 => (intro w; go_simp; (try with_reducible rfl))
    (try simp only [layE])
    refine E_one 1 (by kernel_rfl) rfl (by rfl) (fun K hK => ?_)
    go_simp
    refine HMOV.out.mono ?_
    rintro e w' ⟨rfl, rfl⟩
    (skip)
    refine hK.out _ _ (fun _ _ => hHeld) (fun hHeld' => ?_)
    replace hHeld := hHeld' (by rfl) (by decide)
    clear hK hHeld'
    (try simp only [layE])
    refine E_take0 hQ (fun _ => hHeld) 2 (v := ?bv2) rfl rfl (by kernel_rfl) (by kernel_rfl) (by kernel_rfl) (by decide) (by rfl) ?by2 ?br2
    case by2 => (intro w; go_simp; (try with_reducible rfl))
    (try simp only [layE])
    refine E_take0 hQ (fun _ => hHeld) 3 (v := ?bv3) rfl rfl (by kernel_rfl) (by kernel_rfl) (by kernel_rfl) (by decide) (by rfl) ?by3 ?br3
    case by3 => (intro w; go_simp; (try with_reducible rfl))
    (try simp only [layE])
    refine E_take0 hQ (fun _ => hHeld) 4 (v := ?bv4) rfl rfl (by kernel_rfl) (by kernel_rfl) (by kernel_rfl) (by decide) (by rfl) ?by4 ?br4
    case by4 => (intro w; go_simp; (try with_reducible rfl))
    (try simp only [layE])
    refine E_take hQ hHeld 5 (v := ?bv5) rfl rfl (by kernel_rfl) (by kernel_rfl) (by kernel_rfl) (by kernel_rfl) (by kernel_rfl) (by rfl) ?by5 ?br5
    case by5 => (intro w hSw; (try dsimp only at hSw); go_simp; (try with_reducible rfl))
    (try simp only [layE])
    refine E_take0 hQ (fun _ => hHeld) 6 (v := ?bv6) rfl rfl (by kernel_rfl) (by kernel_rfl) (by kernel_rfl) (by decide) (by rfl) ?by6 ?br6
    case by6 => (intro w; go_simp; (try with_reducible rfl))
    (try simp only [layE])
    refine E_take0 hQ (fun _ => hHeld) 7 (v := ?bv7) rfl rfl (by kernel_rfl) (by kernel_rfl) (by kernel_rfl) (by decide) (by rfl) ?by7 ?br7
    case by7 => (intro w; go_simp; (try with_reducible rfl))
    (try simp only [layE])
    refine E_take0 hQ (fun _ => hHeld) 8 (v := ?bv8) rfl rfl (by kernel_rfl) (by kernel_rfl) (by kernel_rfl) (by decide) (by rfl) ?by8 ?br8
    case by8 => (intro w; go_simp; (try with_reducible rfl))
    (try simp only [layE])
    refine E_off hQ (fun _ => hHeld) 9 rfl rfl (by kernel_rfl) (by kernel_rfl) (by kernel_rfl) (by decide) (by rfl) ?_
    (try simp only [layE])
    refine E_off hQ (fun _ => hHeld) 10 rfl rfl (by kernel_rfl) (by kernel_rfl) (by kernel_rfl) (by decide) (by rfl) ?_
    (try simp only [layE])
    refine E_off hQ (fun _ => hHeld) 11 rfl rfl (by kernel_rfl) (by kernel_rfl) (by kernel_rfl) (by decide) (by rfl) ?_
    (try simp only [layE])
    refine E_off hQ (fun _ => hHeld) 12 rfl rfl (by kernel_rfl) (by kernel_rfl) (by kernel_rfl) (by decide) (by rfl) ?_
    (try simp only [layE])
    refine E_off hQ (fun _ => hHeld) 13 rfl rfl (by kernel_rfl) (by kernel_rfl) (by kernel_rfl) (by decide) (by rfl) ?_
    (try simp only [layE])
    refine E_off hQ (fun _ => hHeld) 14 rfl rfl (by kernel_rfl) (by kernel_rfl) (by kernel_rfl) (by decide) (by rfl) ?_
    (try simp only [layE])
    refine E_off hQ (fun _ => hHeld) 15 rfl rfl (by kernel_rfl) (by kernel_rfl) (by kernel_rfl) (by decide) (by rfl) ?_
    (try simp only [layE])
    refine E_off hQ (fun _ => hHeld) 16 rfl rfl (by kernel_rfl) (by kernel_rfl) (by kernel_rfl) (by decide) (by rfl) ?_
    (try simp only [layE])
    refine E_off hQ (fun _ => hHeld) 17 rfl rfl (by kernel_rfl) (by kernel_rfl) (by kernel_rfl) (by decide) (by rfl) ?_
    (try simp only [layE])
    refine E_one 18 (by kernel_rfl) rfl (by rfl) (fun K hK => ?_)
    go_simp
    (try simp only [layE])
    refine hK.out _ _ (fun _ h => absurd rfl h) (fun _ => ?_)
    clear hK hHeld
    (try simp only [layE])
    refine E_done (by kernel_rfl) ?_ _
    refine hK'.out _ _ ?_
    clear hK' hQ
    go_wp2_with fail
    refine bodyPost_ret (results_tmp2 rfl _ _ _) rfl ?_
    exact ⟨_, rfl, HSAME.out _ HB.out.drew⟩
  have d0 : decide (st < 0) = false := decide_eq_false hst0
  by_cases hstn : (d.steps.length : Int) ≤ st
  · have d1 : decide ((d.steps.length : Int) ≤ st) = true := decide_eq_true hstn
    have hans : answerX d.steps rs S (st, u) tr o now = ((S, []), false) := by
      unfold answerX
      rw [if_neg (fun e => by have := e.2.2; dsimp only at this; omega)]
    rw [hans]
    clear hans
    have hb1 := (Below.refl w.heap.size w).alloc (Nat.le_refl _) (.cells #[.int .i64 st, .int .i64 tr, .bool u, .int .u8 o] 30)
    have g0 := World.alloc_heap_new w (.cells #[.int .i64 st, .int .i64 tr, .bool u, .int .u8 o] 30)
    have hsz : (w.alloc (.cells #[.int .i64 st, .int .i64 tr, .bool u, .int .u8 o] 30)).heap.size = w.heap.size + 1 := by simp
    go_enter Tryz.func16, Tryz.ntmps16
    go_upto_region 1 with fail
    generalize w.alloc (.cells #[.int .i64 st, .int .i64 tr, .bool u, .int .u8 o] 30) = w0 at *
    have HMOV := Lib.hid (moving_any ⟨p, m, sa, sc, vr, d, rs, N⟩ S U w0.drew (HH.out.below hb1.drew))
    rw [hmv] at HMOV
    have HB := Lib.hid hb1
    have HG0 := Lib.hid g0
    have HS0 := Lib.hid (HH.out.below hb1)
    have HSZ := Lib.hid hsz
    obtain ⟨a0, a1, a2, a3, -⟩ := cells4h g0
    clear hb1 g0 hsz hmv
    obtain ⟨da, dc, ua, uc, hs⟩ := HS0.out
    dsimp only at hs
    obtain ⟨-, -, x2, -, x4, -, -, -⟩ := hs.cells
    clear hs
    refine E_region (S := (fun W => W.cell? ⟨w.heap.size, 0, none⟩ = some (.int .i64 st) ∧ W.cell? ⟨p, 2, none⟩ = some (.slice sa d.steps.length sc))) 18 (by kernel_rfl) ⟨a0, x2⟩ (fun _ _ _ _ _ h => h) (fun Q' hQ hK' hHeld => ?_)
    refine E_take0 hQ (fun _ => hHeld) 0 (v := ?cv1) rfl rfl (by kernel_rfl) (by kernel_rfl) (by kernel_rfl) (by decide) (by rfl) ?cy1 ?cr1
    case cy1 => (intro w; go_simp; (try with_reducible rfl))
    (try simp only [layE])
    refine E_one 1 (by kernel_rfl) rfl (by rfl) (fun K hK => ?_)
    go_simp
    refine HMOV.out.mono ?_
    rintro e w' ⟨rfl, rfl⟩
    (skip)
    refine hK.out _ _ (fun _ _ => hHeld) (fun hHeld' => ?_)
    replace hHeld := hHeld' (by rfl) (by decide)
    clear hK hHeld'
    (try simp only [layE])
    refine E_take0 hQ (fun _ => hHeld) 2 (v := ?cv2) rfl rfl (by kernel_rfl) (by kernel_rfl) (by kernel_rfl) (by decide) (by rfl) ?cy2 ?cr2
    case cy2 => (intro w; go_simp; (try with_reducible rfl))
    (try simp only [layE])
    refine E_take0 hQ (fun _ => hHeld) 3 (v := ?cv3) rfl rfl (by kernel_rfl) (by kernel_rfl) (by kernel_rfl) (by decide) (by rfl) ?cy3 ?cr3
    case cy3 => (intro w; go_simp; (try with_reducible rfl))
    (try simp only [layE])
    refine E_take0 hQ (fun _ => hHeld) 4 (v := ?cv4) rfl rfl (by kernel_rfl) (by kernel_rfl) (by kernel_rfl) (by decide) (by rfl) ?cy4 ?cr4
    case cy4 => (intro w; go_simp; (try with_reducible rfl))
    (try simp only [layE])
    refine E_take hQ hHeld 5 (v := ?cv5) rfl rfl (by kernel_rfl) (by kernel_rfl) (by kernel_rfl) (by kernel_rfl) (by kernel_rfl) (by rfl) ?cy5 ?cr5
    case cy5 => (intro w hSw; (try dsimp only at hSw); go_simp; (try with_reducible rfl))
    (try simp only [layE])
    refine E_take0 hQ (fun _ => hHeld) 6 (v := ?cv6) rfl rfl (by kernel_rfl) (by kernel_rfl) (by kernel_rfl) (by decide) (by rfl) ?cy6 ?cr6
    case cy6 => (intro w; go_simp; (try with_reducible rfl))
    (try simp only [layE])
    refine E_take0 hQ (fun _ => hHeld) 7 (v := ?cv7) rfl rfl (by kernel_rfl) (by kernel_rfl) (by kernel_rfl) (by decide) (by rfl) ?cy7 ?cr7
    case cy7 => (intro w; go_simp; (try with_reducible rfl))
    (try simp only [layE])
    refine E_take0 hQ (fun _ => hHeld) 8 (v := ?cv8) rfl rfl (by kernel_rfl) (by kernel_rfl) (by kernel_rfl) (by decide) (by rfl) ?cy8 ?cr8
    case cy8 => (intro w; go_simp; (try with_reducible rfl))
    (try simp only [layE])
    refine E_take0 hQ (fun _ => hHeld) 9 (v := ?cv9) rfl rfl (by kernel_rfl) (by kernel_rfl) (by kernel_rfl) (by decide) (by rfl) ?cy9 ?cr9
    case cy9 => (intro w; go_simp; (try with_reducible rfl))
    (try simp only [layE])
    refine E_take hQ hHeld 10 (v := ?cv10) rfl rfl (by kernel_rfl) (by kernel_rfl) (by kernel_rfl) (by kernel_rfl) (by kernel_rfl) (by rfl) ?cy10 ?cr10
    case cy10 => (intro w hSw; (try dsimp only at hSw); go_simp; (try with_reducible rfl))
    (try simp only [layE])
    refine E_take0 hQ (fun _ => hHeld) 11 (v := ?cv11) rfl rfl (by kernel_rfl) (by kernel_rfl) (by kernel_rfl) (by decide) (by rfl) ?cy11 ?cr11
    case cy11 => (intro w; go_simp; (try with_reducible rfl))
    (try simp only [layE])
    refine E_take0 hQ (fun _ => hHeld) 12 (v := ?cv12) rfl rfl (by kernel_rfl) (by kernel_rfl) (by kernel_rfl) (by decide) (by rfl) ?cy12 ?cr12
    case cy12 => (intro w; go_simp; (try with_reducible rfl))
    (try simp only [layE])
    refine E_take0 hQ (fun _ => hHeld) 13 (v := ?cv13) rfl rfl (by kernel_rfl) (by kernel_rfl) (by kernel_rfl) (by decide) (by rfl) ?cy13 ?cr13
    case cy13 => (intro w; go_simp; (try with_reducible rfl))
    (try simp only [layE])
    refine E_take0 hQ (fun _ => hHeld) 14 (v := ?cv14) rfl rfl (by kernel_rfl) (by kernel_rfl) (by kernel_rfl) (by decide) (by rfl) ?cy14 ?cr14
    case cy14 => (intro w; go_simp; (try with_reducible rfl))
    (try simp only [layE])
    refine E_take hQ hHeld 15 (v := ?cv15) rfl rfl (by kernel_rfl) (by kernel_rfl) (by kernel_rfl) (by kernel_rfl) (by kernel_rfl) (by rfl) ?cy15 ?cr15
    case cy15 => (intro w hSw; (try dsimp only at hSw); go_simp; (try with_reducible rfl))
    (try simp only [layE])
    refine E_take0 hQ (fun _ => hHeld) 16 (v := ?cv16) rfl rfl (by kernel_rfl) (by kernel_rfl) (by kernel_rfl) (by decide) (by rfl) ?cy16 ?cr16
    case cy16 => (intro w; go_simp; (try with_reducible rfl))
    (try simp only [layE])
    refine E_take0 hQ (fun _ => hHeld) 17 (v := ?cv17) rfl rfl (by kernel_rfl) (by kernel_rfl) (by kernel_rfl) (by decide) (by rfl) ?cy17 ?cr17
    case cy17 => (intro w; go_simp; (try with_reducible rfl))
    (try simp only [layE])
    refine E_one 18 (by kernel_rfl) rfl (by rfl) (fun K hK => ?_)
    go_simp
    (try simp only [layE])
    refine hK.out _ _ (fun _ h => absurd rfl h) (fun _ => ?_)
    clear hK hHeld
    (try simp only [layE])
    refine E_done (by kernel_rfl) ?_ _
    refine hK'.out _ _ ?_
    clear hK' hQ
    go_wp2_with fail
    refine bodyPost_ret (results_tmp2 rfl _ _ _) rfl ?_
    exact ⟨_, rfl, HSAME.out _ HB.out.drew⟩
  have d1 : decide ((d.steps.length : Int) ≤ st) = false := decide_eq_false hstn
  obtain ⟨jn, rfl⟩ : ∃ jn : Nat, st = (jn : Int) := ⟨st.toNat, by omega⟩
  have hjl : jn < d.steps.length := by omega
  have hans : answerX d.steps rs S ((jn : Int), u) tr o now = if (ansR d.steps[jn] (S.runs ((jn : Int), u)) now tr o).2 then (onX d.steps rs now (putX (S, []) ((jn : Int), u) (ansR d.steps[jn] (S.runs ((jn : Int), u)) now tr o).1), true) else ((S, []), false) := by
    unfold answerX
    rw [if_pos ⟨hmv, by dsimp only; omega, by dsimp only; omega⟩]
    simp only [Int.toNat_natCast, List.getElem?_eq_getElem hjl, Option.getD_some]
  obtain ⟨q0, q1, q2, q3, hq⟩ : ∃ q0 q1 q2 q3, S.runs ((jn : Int), u) = (q0, q1, q2, q3) := ⟨_, _, _, _, rfl⟩
  obtain ⟨ar, har⟩ : ∃ ar, ar = ansR d.steps[jn] (q0, q1, q2, q3) now tr o := ⟨_, rfl⟩
  rw [hans, hq, ← har]
  generalize hres : (if ar.2 = true then (onX d.steps rs now (putX (S, []) ((jn : Int), u) ar.1), true) else ((S, []), false)) = res
  have HRT : Hid (ar.2 = true → res = (onX d.steps rs now (putX (S, []) ((jn : Int), u) ar.1), true)) := Lib.hid (fun e => by rw [← hres, if_pos e])
  have HRF : Hid (ar.2 = false → res = ((S, []), false)) := Lib.hid (fun e => by rw [← hres, if_neg (fun e2 => by rw [e] at e2; cases e2)])
  clear hres
  have HQ := Lib.hid hq
  have HAR := Lib.hid har
  clear hans hst0 hstn hq har
  have hb1 := (Below.refl w.heap.size w).alloc (Nat.le_refl _) (.cells #[.int .i64 (jn : Int), .int .i64 tr, .bool u, .int .u8 o] 30)
  have g0 := World.alloc_heap_new w (.cells #[.int .i64 (jn : Int), .int .i64 tr, .bool u, .int .u8 o] 30)
  have hsz : (w.alloc (.cells #[.int .i64 (jn : Int), .int .i64 tr, .bool u, .int .u8 o] 30)).heap.size = w.heap.size + 1 := by simp
  go_enter Tryz.func16, Tryz.ntmps16
  go_upto_region 1 with fail
  generalize w.alloc (.cells #[.int .i64 (jn : Int), .int .i64 tr, .bool u, .int .u8 o] 30) = w0 at *
  have HMOV := Lib.hid (moving_any ⟨p, m, sa, sc, vr, d, rs, N⟩ S U w0.drew (HH.out.below hb1.drew))
  rw [hmv] at HMOV
  have HB := Lib.hid hb1
  have HG0 := Lib.hid g0
  have HS0 := Lib.hid (HH.out.below hb1)
  have HSZ := Lib.hid hsz
  obtain ⟨a0, a1, a2, a3, -⟩ := cells4h g0
  clear hb1 g0 hsz hmv
  obtain ⟨da, dc, ua, uc, hs⟩ := HS0.out
  dsimp only at hs
  obtain ⟨-, -, x2, -, x4, -, -, -⟩ := hs.cells
  clear hs
  go_upto_region 1 with fail
  refine E_region (S := (fun W => W.cell? ⟨w.heap.size, 0, none⟩ = some (.int .i64 (jn : Int)) ∧ W.cell? ⟨p, 2, none⟩ = some (.slice sa d.steps.length sc))) 18 (by kernel_rfl) ⟨a0, x2⟩ (fun _ _ _ _ _ h => h) (fun Q' hQ hK' hHeld => ?_)
  refine E_take0 hQ (fun _ => hHeld) 0 (v := ?gv1) rfl rfl (by kernel_rfl) (by kernel_rfl) (by kernel_rfl) (by decide) (by rfl) ?gy1 ?gr1
  case gy1 => (intro w; go_simp; (try with_reducible rfl))
  (try simp only [layE])
  refine E_one 1 (by kernel_rfl) rfl (by rfl) (fun K hK => ?_)
  go_simp
  refine HMOV.out.mono ?_
  rintro e w' ⟨rfl, rfl⟩
  (skip)
  refine hK.out _ _ (fun _ _ => hHeld) (fun hHeld' => ?_)
  replace hHeld := hHeld' (by rfl) (by decide)
  clear hK hHeld'
  (try simp only [layE])
  refine E_take0 hQ (fun _ => hHeld) 2 (v := ?gv2) rfl rfl (by kernel_rfl) (by kernel_rfl) (by kernel_rfl) (by decide) (by rfl) ?gy2 ?gr2
  case gy2 => (intro w; go_simp; (try with_reducible rfl))
  (try simp only [layE])
  refine E_take0 hQ (fun _ => hHeld) 3 (v := ?gv3) rfl rfl (by kernel_rfl) (by kernel_rfl) (by kernel_rfl) (by decide) (by rfl) ?gy3 ?gr3
  case gy3 => (intro w; go_simp; (try with_reducible rfl))
  (try simp only [layE])
  refine E_take0 hQ (fun _ => hHeld) 4 (v := ?gv4) rfl rfl (by kernel_rfl) (by kernel_rfl) (by kernel_rfl) (by decide) (by rfl) ?gy4 ?gr4
  case gy4 => (intro w; go_simp; (try with_reducible rfl))
  (try simp only [layE])
  refine E_take hQ hHeld 5 (v := ?gv5) rfl rfl (by kernel_rfl) (by kernel_rfl) (by kernel_rfl) (by kernel_rfl) (by kernel_rfl) (by rfl) ?gy5 ?gr5
  case gy5 => (intro w hSw; (try dsimp only at hSw); go_simp; (try with_reducible rfl))
  (try simp only [layE])
  refine E_take0 hQ (fun _ => hHeld) 6 (v := ?gv6) rfl rfl (by kernel_rfl) (by kernel_rfl) (by kernel_rfl) (by decide) (by rfl) ?gy6 ?gr6
  case gy6 => (intro w; go_simp; (try with_reducible rfl))
  (try simp only [layE])
  refine E_take0 hQ (fun _ => hHeld) 7 (v := ?gv7) rfl rfl (by kernel_rfl) (by kernel_rfl) (by kernel_rfl) (by decide) (by rfl) ?gy7 ?gr7
  case gy7 => (intro w; go_simp; (try with_reducible rfl))
  (try simp only [layE])
  refine E_take0 hQ (fun _ => hHeld) 8 (v := ?gv8) rfl rfl (by kernel_rfl) (by kernel_rfl) (by kernel_rfl) (by decide) (by rfl) ?gy8 ?gr8
  case gy8 => (intro w; go_simp; (try with_reducible rfl))
  (try simp only [layE])
  refine E_take0 hQ (fun _ => hHeld) 9 (v := ?gv9) rfl rfl (by kernel_rfl) (by kernel_rfl) (by kernel_rfl) (by decide) (by rfl) ?gy9 ?gr9
  case gy9 => (intro w; go_simp; (try with_reducible rfl))
  (try simp only [layE])
  refine E_take hQ hHeld 10 (v := ?gv10) rfl rfl (by kernel_rfl) (by kernel_rfl) (by kernel_rfl) (by kernel_rfl) (by kernel_rfl) (by rfl) ?gy10 ?gr10
  case gy10 => (intro w hSw; (try dsimp only at hSw); go_simp; (try with_reducible rfl))
  (try simp only [layE])
  refine E_take0 hQ (fun _ => hHeld) 11 (v := ?gv11) rfl rfl (by kernel_rfl) (by kernel_rfl) (by kernel_rfl) (by decide) (by rfl) ?gy11 ?gr11
  case gy11 => (intro w; go_simp; (try with_reducible rfl))
  (try simp only [layE])
  refine E_take0 hQ (fun _ => hHeld) 12 (v := ?gv12) rfl rfl (by kernel_rfl) (by kernel_rfl) (by kernel_rfl) (by decide) (by rfl) ?gy12 ?gr12
  case gy12 => (intro w; go_simp; (try with_reducible rfl))
  (try simp only [layE])
  refine E_take0 hQ (fun _ => hHeld) 13 (v := ?gv13) rfl rfl (by kernel_rfl) (by kernel_rfl) (by kernel_rfl) (by decide) (by rfl) ?gy13 ?gr13
  case gy13 => (intro w; go_simp; (try with_reducible rfl))
  (try simp only [layE])
  refine E_take0 hQ (fun _ => hHeld) 14 (v := ?gv14) rfl rfl (by kernel_rfl) (by kernel_rfl) (by kernel_rfl) (by decide) (by rfl) ?gy14 ?gr14
  case gy14 => (intro w; go_simp; (try with_reducible rfl))
  (try simp only [layE])
  refine E_take hQ hHeld 15 (v := ?gv15) rfl rfl (by kernel_rfl) (by kernel_rfl) (by kernel_rfl) (by kernel_rfl) (by kernel_rfl) (by rfl) ?gy15 ?gr15
  case gy15 => (intro w hSw; (try dsimp only at hSw); go_simp; (try with_reducible rfl))
  (try simp only [layE])
  refine E_take0 hQ (fun _ => hHeld) 16 (v := ?gv16) rfl rfl (by kernel_rfl) (by kernel_rfl) (by kernel_rfl) (by decide) (by rfl) ?gy16 ?gr16
  case gy16 => (intro w; go_simp; (try with_reducible rfl))
  (try simp only [layE])
  refine E_take0 hQ (fun _ => hHeld) 17 (v := ?gv17) rfl rfl (by kernel_rfl) (by kernel_rfl) (by kernel_rfl) (by decide) (by rfl) ?gy17 ?gr17
  case gy17 => (intro w; go_simp; (try with_reducible rfl))
  (try simp only [layE])
  refine E_one 18 (by kernel_rfl) rfl (by rfl) (fun K hK => ?_)
  go_simp
  (try simp only [layE])
  refine hK.out _ _ (fun _ h => absurd rfl h) (fun _ => ?_)
  clear hK hHeld
  (try simp only [layE])
  refine E_done (by kernel_rfl) ?_ _
  refine hK'.out _ _ ?_
  clear hK' hQ
  have d2 : decide (d.steps.length ≤ jn) = false := decide_eq_false (by omega)
  go_upto_region 4 with fail
  have hbw : Below w0.heap.size w0 ((w0.alloc (.cells #[.int .i64 (jn : Int), .bool u] 98)).drew) := ((Below.refl _ w0).alloc (Nat.le_refl _) _).drew
  have g1 : ((w0.alloc (.cells #[.int .i64 (jn : Int), .bool u] 98)).drew).heap[w0.heap.size]? = some (.cells #[.int .i64 (jn : Int), .bool u] 98 (0, 0)) := World.alloc_heap_new w0 _
  generalize (w0.alloc (.cells #[.int .i64 (jn : Int), .bool u] 98)).drew = w1 at *
  have HS1 := Lib.hid (HS0.out.below hbw)
  have HB1 := Lib.hid (HB.out.trans (hbw.mono (by have := HSZ.out; omega)))
  have hg0 := (hbw.block _ (Array.getElem?_eq_some_iff.1 HG0.out).1).trans HG0.out
  have HG1 := Lib.hid g1
  clear x2 x4 a0 a1 a2 a3 HG0 HS0 HMOV
  obtain ⟨a0, a1, a2, a3, -⟩ := cells4h hg0
  obtain ⟨y0, y1, -, -⟩ := cells2 g1
  obtain ⟨da, dc, ua, uc, hs⟩ := HS1.out
  dsimp only at hs
  obtain ⟨-, -, x2, -, x4, -, -, -⟩ := hs.cells
  obtain ⟨g, off, cap, aa, ac, ka, kc, ba, bc, he, -, -, -, hat⟩ := hs.df.now.steps.at hjl
  cases he
  obtain ⟨t0, t1, t2, t3, t4, t5, t6, t7, t8, t9, t10, t11, t12⟩ := hat
  have HLK : Hid (∀ W, Below w1.heap.size w1 W → (Instr.lookup 89 (.map (some m)) (.agg #[.int .i64 (jn : Int), .bool u]) false).run Tryz.prog W = .ok (.agg #[.int .u8 q0, .int .i64 q1, .int .i64 q2, .bool q3]) W) := Lib.hid (fun W hb => by
    have := (hs.below hb).look (k := ((jn : Int), u)) (by unfold I64w; dsimp only; omega)
    rw [HQ.out] at this
    exact this)
  have HANSW : Hid (∀ W, Calls Tryz.prog 47 #[.agg #[.int .u8 q0, .int .i64 q1, .int .i64 q2, .bool q3], .agg #[.string d.steps[jn].name, .string d.steps[jn].action, .string d.steps[jn].undo, .slice aa d.steps[jn].after.length ac, .int .i64 d.steps[jn].most, .int .i64 d.steps[jn].first, .int .i64 d.steps[jn].factor, .int .i64 d.steps[jn].limit, .int .u8 (d.steps[jn].note.kind : Int), .string d.steps[jn].note.text, .slice ka d.steps[jn].note.keys.length kc, .slice ba d.steps[jn].note.kids.length bc, .int .i64 d.steps[jn].note.line], .int .i64 now, .int .i64 tr, .int .u8 o] W fun e w' => e = .returned (.tuple #[.agg #[.int .u8 ar.1.1, .int .i64 ar.1.2.1, .int .i64 ar.1.2.2.1, .bool ar.1.2.2.2], .bool ar.2]) ∧ Below W.heap.size W w') := Lib.hid (fun W => by
    rw [HAR.out]
    exact Answer_any (s0 := d.steps[jn].name) (s1 := d.steps[jn].action) (s2 := d.steps[jn].undo) (af := aa) (an := d.steps[jn].after.length) (ac := ac) (m := d.steps[jn].most) (f := d.steps[jn].first) (k := d.steps[jn].factor) (l := d.steps[jn].limit) (nk := (d.steps[jn].note.kind : Int)) (nt := d.steps[jn].note.text) (ka := ka) (kn := d.steps[jn].note.keys.length) (kc := kc) (da := ba) (dn := d.steps[jn].note.kids.length) (dc := bc) (nl := d.steps[jn].note.line) q0 q1 q2 q3 now tr o W)
  have hjn0 : (0 : Int) ≤ (jn : Int) := by omega
  have hjn1 : (jn : Int) < (d.steps.length : Int) := by omega
  clear hs hbw hg0 g1
  go_cut [9, 10] (fun s9 s10 wx => ∃ R, s9 = .pointer (some ⟨R, 0, none⟩) ∧ s10 = .bool ar.2 ∧ wx.heap[R]? = some (.cells #[.int .u8 ar.1.1, .int .i64 ar.1.2.1, .int .i64 ar.1.2.2.1, .bool ar.1.2.2.2] 100 (0, 0)) ∧ Below w1.heap.size w1 wx)
  case first =>
    refine E_region (S := (fun W => W.cell? ⟨p, 4, none⟩ = some (.map (some m)) ∧ W.cell? ⟨p, 2, none⟩ = some (.slice (some ⟨g, off, none⟩) d.steps.length sc) ∧ W.cell? ⟨w0.heap.size, 0, none⟩ = some (.int .i64 (jn : Int)) ∧ W.cell? ⟨w0.heap.size, 1, none⟩ = some (.bool u) ∧ W.cell? ⟨w.heap.size, 0, none⟩ = some (.int .i64 (jn : Int)) ∧ W.cell? ⟨w.heap.size, 1, none⟩ = some (.int .i64 tr) ∧ W.cell? ⟨w.heap.size, 3, none⟩ = some (.int .u8 o) ∧ W.cell? ⟨g, off + jn * 13, none⟩ = some (.string d.steps[jn].name) ∧ W.cell? ⟨g, off + jn * 13 + 1, none⟩ = some (.string d.steps[jn].action) ∧ W.cell? ⟨g, off + jn * 13 + 2, none⟩ = some (.string d.steps[jn].undo) ∧ W.cell? ⟨g, off + jn * 13 + 3, none⟩ = some (.slice aa d.steps[jn].after.length ac) ∧ W.cell? ⟨g, off + jn * 13 + 4, none⟩ = some (.int .i64 d.steps[jn].most) ∧ W.cell? ⟨g, off + jn * 13 + 5, none⟩ = some (.int .i64 d.steps[jn].first) ∧ W.cell? ⟨g, off + jn * 13 + 6, none⟩ = some (.int .i64 d.steps[jn].factor) ∧ W.cell? ⟨g, off + jn * 13 + 7, none⟩ = some (.int .i64 d.steps[jn].limit) ∧ W.cell? ⟨g, off + jn * 13 + 8, none⟩ = some (.int .u8 (d.steps[jn].note.kind : Int)) ∧ W.cell? ⟨g, off + jn * 13 + 9, none⟩ = some (.string d.steps[jn].note.text) ∧ W.cell? ⟨g, off + jn * 13 + 10, none⟩ = some (.slice ka d.steps[jn].note.keys.length kc) ∧ W.cell? ⟨g, off + jn * 13 + 11, none⟩ = some (.slice ba d.steps[jn].note.kids.length bc) ∧ W.cell? ⟨g, off + jn * 13 + 12, none⟩ = some (.int .i64 d.steps[jn].note.line) ∧ (Instr.lookup 89 (.map (some m)) (.agg #[.int .i64 (jn : Int), .bool u]) false).run Tryz.prog W = .ok (.agg #[.int .u8 q0, .int .i64 q1, .int .i64 q2, .bool q3]) W)) 25 (by kernel_rfl) ⟨x4, x2, y0, y1, a0, a1, a3, t0, t1, t2, t3, t4, t5, t6, t7, t8, t9, t10, t11, t12, HLK.out _ (Below.refl _ _).drew⟩ (fun _ _ _ _ _ h => h) (fun Q' hQ hK' hHeld => ?_)
    refine E_take0 hQ (fun _ => hHeld) 0 (v := ?vd1) rfl rfl (by kernel_rfl) (by kernel_rfl) (by kernel_rfl) (by decide) (by rfl) ?yd1 ?rd1
    case yd1 => (intro w; go_simp; (try with_reducible rfl))
    (try simp only [layE])
    refine E_take0 hQ (fun _ => hHeld) 1 (v := ?vd2) rfl rfl (by kernel_rfl) (by kernel_rfl) (by kernel_rfl) (by decide) (by rfl) ?yd2 ?rd2
    case yd2 => (intro w; go_simp; (try with_reducible rfl))
    (try simp only [layE])
    refine E_take0 hQ (fun _ => hHeld) 2 (v := ?vd3) rfl rfl (by kernel_rfl) (by kernel_rfl) (by kernel_rfl) (by decide) (by rfl) ?yd3 ?rd3
    case yd3 => (intro w; go_simp; (try with_reducible rfl))
    (try simp only [layE])
    refine E_take hQ hHeld 3 (v := ?vd4) rfl rfl (by kernel_rfl) (by kernel_rfl) (by kernel_rfl) (by kernel_rfl) (by kernel_rfl) (by rfl) ?yd4 ?rd4
    case yd4 => (intro w hSw; (try dsimp only at hSw); go_simp; (try with_reducible rfl))
    (try simp only [layE])
    refine E_take hQ hHeld 4 (v := ?vd5) rfl rfl (by kernel_rfl) (by kernel_rfl) (by kernel_rfl) (by kernel_rfl) (by kernel_rfl) (by rfl) ?yd5 ?rd5
    case yd5 => (intro w hSw; (try dsimp only at hSw); go_simp; (try with_reducible rfl))
    (try simp only [layE])
    refine E_take hQ hHeld 5 (v := ?vd6) rfl rfl (by kernel_rfl) (by kernel_rfl) (by kernel_rfl) (by kernel_rfl) (by kernel_rfl) (by rfl) ?yd6 ?rd6
    case yd6 => (intro w hSw; (try dsimp only at hSw); go_simp; (try with_reducible rfl))
    (try simp only [layE])
    refine E_take0 hQ (fun _ => hHeld) 6 (v := ?vd7) rfl rfl (by kernel_rfl) (by kernel_rfl) (by kernel_rfl) (by decide) (by rfl) ?yd7 ?rd7
    case yd7 => (intro w; go_simp; (try with_reducible rfl))
    (try simp only [layE])
    refine E_take0 hQ (fun _ => hHeld) 7 (v := ?vd8) rfl rfl (by kernel_rfl) (by kernel_rfl) (by kernel_rfl) (by decide) (by rfl) ?yd8 ?rd8
    case yd8 => (intro w; go_simp; (try with_reducible rfl))
    (try simp only [layE])
    refine E_take0 hQ (fun _ => hHeld) 8 (v := ?vd9) rfl rfl (by kernel_rfl) (by kernel_rfl) (by kernel_rfl) (by decide) (by rfl) ?yd9 ?rd9
    case yd9 => (intro w; go_simp; (try with_reducible rfl))
    (try simp only [layE])
    refine E_take0 hQ (fun _ => hHeld) 9 (v := ?vd10) rfl rfl (by kernel_rfl) (by kernel_rfl) (by kernel_rfl) (by decide) (by rfl) ?yd10 ?rd10
    case yd10 => (intro w; go_simp; (try with_reducible rfl))
    (try simp only [layE])
    refine E_take hQ hHeld 10 (v := ?vd11) rfl rfl (by kernel_rfl) (by kernel_rfl) (by kernel_rfl) (by kernel_rfl) (by kernel_rfl) (by rfl) ?yd11 ?rd11
    case yd11 => (intro w hSw; (try dsimp only at hSw); go_simp; (try with_reducible rfl))
    (try simp only [layE])
    refine E_take0 hQ (fun _ => hHeld) 11 (v := ?vd12) rfl rfl (by kernel_rfl) (by kernel_rfl) (by kernel_rfl) (by decide) (by rfl) ?yd12 ?rd12
    case yd12 => (intro w; go_simp; (try with_reducible rfl))
    (try simp only [layE])
    refine E_take hQ hHeld 12 (v := ?vd13) rfl rfl (by kernel_rfl) (by kernel_rfl) (by kernel_rfl) (by kernel_rfl) (by kernel_rfl) (by rfl) ?yd13 ?rd13
    case yd13 => (intro w hSw; (try dsimp only at hSw); go_simp; (try with_reducible rfl))
    (try simp only [layE])
    refine E_take0 hQ (fun _ => hHeld) 13 (v := ?vd14) rfl rfl (by kernel_rfl) (by kernel_rfl) (by kernel_rfl) (by decide) (by rfl) ?yd14 ?rd14
    case yd14 => (intro w; go_simp; (try with_reducible rfl))
    (try simp only [layE])
    refine E_take hQ hHeld 14 (v := ?vd15) rfl rfl (by kernel_rfl) (by kernel_rfl) (by kernel_rfl) (by kernel_rfl) (by kernel_rfl) (by rfl) ?yd15 ?rd15
    case yd15 => (intro w hSw; (try dsimp only at hSw); go_simp; (try with_reducible rfl))
    (try simp only [layE])
    refine E_take0 hQ (fun _ => hHeld) 15 (v := ?vd16) rfl rfl (by kernel_rfl) (by kernel_rfl) (by kernel_rfl) (by decide) (by rfl) ?yd16 ?rd16
    case yd16 => (intro w; go_simp; (try with_reducible rfl))
    (try simp only [layE])
    refine E_take0 hQ (fun _ => hHeld) 16 (v := ?vd17) rfl rfl (by kernel_rfl) (by kernel_rfl) (by kernel_rfl) (by decide) (by rfl) ?yd17 ?rd17
    case yd17 => (intro w; go_simp; (try with_reducible rfl))
    (try simp only [layE])
    refine E_take hQ hHeld 17 (v := ?vd18) rfl rfl (by kernel_rfl) (by kernel_rfl) (by kernel_rfl) (by kernel_rfl) (by kernel_rfl) (by rfl) ?yd18 ?rd18
    case yd18 => (intro w hSw; (try dsimp only at hSw); go_simp; (try with_reducible rfl))
    (try simp only [layE])
    refine E_take0 hQ (fun _ => hHeld) 18 (v := ?vd19) rfl rfl (by kernel_rfl) (by kernel_rfl) (by kernel_rfl) (by decide) (by rfl) ?yd19 ?rd19
    case yd19 => (intro w; go_simp; (try with_reducible rfl))
    (try simp only [layE])
    refine E_take hQ hHeld 19 (v := ?vd20) rfl rfl (by kernel_rfl) (by kernel_rfl) (by kernel_rfl) (by kernel_rfl) (by kernel_rfl) (by rfl) ?yd20 ?rd20
    case yd20 => (intro w hSw; (try dsimp only at hSw); go_simp; (try with_reducible rfl))
    (try simp only [layE])
    refine E_twoS 20 24 (by kernel_rfl) rfl rfl (by rfl) (by rfl) (fun K hK => ?_) (fun K hK => ?_)
    · skip
      go_simp
      refine (HANSW.out _).mono ?_
      rintro e v1 ⟨rfl, hbv1⟩
      have hbv1 : Below w1.heap.size w1 v1 := bthen (Below.refl w1.heap.size w1).drew (Nat.le_refl _) hbv1
      (skip)
      refine hK.out _ _ (fun _ _ => ⟨cellB hbv1 hHeld.1, cellB hbv1 hHeld.2.1, cellB hbv1 hHeld.2.2.1, cellB hbv1 hHeld.2.2.2.1, cellB hbv1 hHeld.2.2.2.2.1, cellB hbv1 hHeld.2.2.2.2.2.1, cellB hbv1 hHeld.2.2.2.2.2.2.1, cellB hbv1 hHeld.2.2.2.2.2.2.2.1, cellB hbv1 hHeld.2.2.2.2.2.2.2.2.1, cellB hbv1 hHeld.2.2.2.2.2.2.2.2.2.1, cellB hbv1 hHeld.2.2.2.2.2.2.2.2.2.2.1, cellB hbv1 hHeld.2.2.2.2.2.2.2.2.2.2.2.1, cellB hbv1 hHeld.2.2.2.2.2.2.2.2.2.2.2.2.1, cellB hbv1 hHeld.2.2.2.2.2.2.2.2.2.2.2.2.2.1, cellB hbv1 hHeld.2.2.2.2.2.2.2.2.2.2.2.2.2.2.1, cellB hbv1 hHeld.2.2.2.2.2.2.2.2.2.2.2.2.2.2.2.1, cellB hbv1 hHeld.2.2.2.2.2.2.2.2.2.2.2.2.2.2.2.2.1, cellB hbv1 hHeld.2.2.2.2.2.2.2.2.2.2.2.2.2.2.2.2.2.1, cellB hbv1 hHeld.2.2.2.2.2.2.2.2.2.2.2.2.2.2.2.2.2.2.1, cellB hbv1 hHeld.2.2.2.2.2.2.2.2.2.2.2.2.2.2.2.2.2.2.2.1, HLK.out _ hbv1⟩) (fun hHeld' => ?_)
      replace hHeld := hHeld' (by rfl) (by decide)
      clear hK hHeld'
      (try simp only [layE])
      refine E_take0 hQ (fun _ => hHeld) 21 (v := ?vd21) rfl rfl (by kernel_rfl) (by kernel_rfl) (by kernel_rfl) (by decide) (by rfl) ?yd21 ?rd21
      case yd21 => (intro w; go_simp; (try with_reducible rfl))
      (try simp only [layE])
      refine E_take0 hQ (fun _ => hHeld) 22 (v := ?vd22) rfl rfl (by kernel_rfl) (by kernel_rfl) (by kernel_rfl) (by decide) (by rfl) ?yd22 ?rd22
      case yd22 => (intro w; go_simp; (try with_reducible rfl))
      (try simp only [layE])
      refine E_take0 hQ (fun _ => hHeld) 23 (v := ?vd23) rfl rfl (by kernel_rfl) (by kernel_rfl) (by kernel_rfl) (by decide) (by rfl) ?yd23 ?rd23
      case yd23 => (intro w; go_simp; (try with_reducible rfl))
      (try simp only [layE])
      refine E_one 24 (by kernel_rfl) rfl (by rfl) (fun K hK => ?_)
      go_simp
      have hbv2 : Below v1.heap.size v1 (v1.alloc (.cells #[.int .u8 0, .int .i64 0, .int .i64 0, .bool false] 100)) := (Below.refl _ v1).alloc (Nat.le_refl _) _
      have hn := World.alloc_heap_new v1 (.cells #[.int .u8 0, .int .i64 0, .int .i64 0, .bool false] 100)
      generalize v1.alloc (.cells #[.int .u8 0, .int .i64 0, .int .i64 0, .bool false] 100) = v2 at *
      (try simp only [layE])
      refine hK.out _ _ (fun _ _ => ⟨cellB hbv2 hHeld.1, cellB hbv2 hHeld.2.1, cellB hbv2 hHeld.2.2.1, cellB hbv2 hHeld.2.2.2.1, cellB hbv2 hHeld.2.2.2.2.1, cellB hbv2 hHeld.2.2.2.2.2.1, cellB hbv2 hHeld.2.2.2.2.2.2.1, cellB hbv2 hHeld.2.2.2.2.2.2.2.1, cellB hbv2 hHeld.2.2.2.2.2.2.2.2.1, cellB hbv2 hHeld.2.2.2.2.2.2.2.2.2.1, cellB hbv2 hHeld.2.2.2.2.2.2.2.2.2.2.1, cellB hbv2 hHeld.2.2.2.2.2.2.2.2.2.2.2.1, cellB hbv2 hHeld.2.2.2.2.2.2.2.2.2.2.2.2.1, cellB hbv2 hHeld.2.2.2.2.2.2.2.2.2.2.2.2.2.1, cellB hbv2 hHeld.2.2.2.2.2.2.2.2.2.2.2.2.2.2.1, cellB hbv2 hHeld.2.2.2.2.2.2.2.2.2.2.2.2.2.2.2.1, cellB hbv2 hHeld.2.2.2.2.2.2.2.2.2.2.2.2.2.2.2.2.1, cellB hbv2 hHeld.2.2.2.2.2.2.2.2.2.2.2.2.2.2.2.2.2.1, cellB hbv2 hHeld.2.2.2.2.2.2.2.2.2.2.2.2.2.2.2.2.2.2.1, cellB hbv2 hHeld.2.2.2.2.2.2.2.2.2.2.2.2.2.2.2.2.2.2.2.1, HLK.out _ (bthen hbv1 (Nat.le_refl _) hbv2)⟩) (fun hHeld' => ?_)
      replace hHeld := hHeld' (by rfl) (by decide)
      clear hK hHeld'
      (try simp only [layE])
      refine E_one 25 (by kernel_rfl) rfl (by rfl) (fun K hK => ?_)
      obtain ⟨c0, c1, c2, c3, f0, f1, f2, f3⟩ := cells4h hn
      go_simp
      (try simp only [layE])
      refine hK.out _ _ (fun _ h => absurd rfl h) (fun _ => ?_)
      clear hK hHeld
      (try simp only [layE])
      refine E_take0 hQ (fun h => absurd h (by decide)) 26 (v := ?vd24) rfl rfl (by kernel_rfl) (by kernel_rfl) (by kernel_rfl) (by decide) (by rfl) ?yd24 ?rd24
      case yd24 => (intro w; go_simp; (try with_reducible rfl))
      (try simp only [layE])
      refine E_done (by kernel_rfl) ?_ _
      refine hK'.out _ _ ?_
      have hfin : Below w1.heap.size w1 v2 := bthen hbv1 (Nat.le_refl _) hbv2
      have hset := set4 (.int .u8 ar.1.1) (.int .i64 ar.1.2.1) (.int .i64 ar.1.2.2.1) (.bool ar.1.2.2.2) hn
      clear hK' hQ
      go_wp2_with fail
      go_meet
      exact ⟨v1.heap.size, rfl, rfl, hset, bset (bset (bset (bset hfin hbv1.size) hbv1.size) hbv1.size) hbv1.size⟩
    · skip
      go_simp
      have hbv1 : Below w1.heap.size w1 ((w1.alloc (.cells #[.int .u8 0, .int .i64 0, .int .i64 0, .bool false] 100)).drew) := ((Below.refl _ w1).alloc (Nat.le_refl _) _).drew
      have hn : ((w1.alloc (.cells #[.int .u8 0, .int .i64 0, .int .i64 0, .bool false] 100)).drew).heap[w1.heap.size]? = some (.cells #[.int .u8 0, .int .i64 0, .int .i64 0, .bool false] 100 (0, 0)) := World.alloc_heap_new w1 _
      generalize (w1.alloc (.cells #[.int .u8 0, .int .i64 0, .int .i64 0, .bool false] 100)).drew = v1 at *
      (try simp only [layE])
      refine hK.out _ _ (fun _ _ => ⟨cellB hbv1 hHeld.1, cellB hbv1 hHeld.2.1, cellB hbv1 hHeld.2.2.1, cellB hbv1 hHeld.2.2.2.1, cellB hbv1 hHeld.2.2.2.2.1, cellB hbv1 hHeld.2.2.2.2.2.1, cellB hbv1 hHeld.2.2.2.2.2.2.1, cellB hbv1 hHeld.2.2.2.2.2.2.2.1, cellB hbv1 hHeld.2.2.2.2.2.2.2.2.1, cellB hbv1 hHeld.2.2.2.2.2.2.2.2.2.1, cellB hbv1 hHeld.2.2.2.2.2.2.2.2.2.2.1, cellB hbv1 hHeld.2.2.2.2.2.2.2.2.2.2.2.1, cellB hbv1 hHeld.2.2.2.2.2.2.2.2.2.2.2.2.1, cellB hbv1 hHeld.2.2.2.2.2.2.2.2.2.2.2.2.2.1, cellB hbv1 hHeld.2.2.2.2.2.2.2.2.2.2.2.2.2.2.1, cellB hbv1 hHeld.2.2.2.2.2.2.2.2.2.2.2.2.2.2.2.1, cellB hbv1 hHeld.2.2.2.2.2.2.2.2.2.2.2.2.2.2.2.2.1, cellB hbv1 hHeld.2.2.2.2.2.2.2.2.2.2.2.2.2.2.2.2.2.1, cellB hbv1 hHeld.2.2.2.2.2.2.2.2.2.2.2.2.2.2.2.2.2.2.1, cellB hbv1 hHeld.2.2.2.2.2.2.2.2.2.2.2.2.2.2.2.2.2.2.2.1, HLK.out _ hbv1⟩) (fun hHeld' => ?_)
      replace hHeld := hHeld' (by rfl) (by decide)
      clear hK hHeld'
      (try simp only [layE])
      refine E_one 20 (by kernel_rfl) rfl (by rfl) (fun K hK => ?_)
      go_simp
      refine (HANSW.out _).mono ?_
      rintro e v2 ⟨rfl, hbv2⟩
      (skip)
      refine hK.out _ _ (fun _ _ => ⟨cellB hbv2 hHeld.1, cellB hbv2 hHeld.2.1, cellB hbv2 hHeld.2.2.1, cellB hbv2 hHeld.2.2.2.1, cellB hbv2 hHeld.2.2.2.2.1, cellB hbv2 hHeld.2.2.2.2.2.1, cellB hbv2 hHeld.2.2.2.2.2.2.1, cellB hbv2 hHeld.2.2.2.2.2.2.2.1, cellB hbv2 hHeld.2.2.2.2.2.2.2.2.1, cellB hbv2 hHeld.2.2.2.2.2.2.2.2.2.1, cellB hbv2 hHeld.2.2.2.2.2.2.2.2.2.2.1, cellB hbv2 hHeld.2.2.2.2.2.2.2.2.2.2.2.1, cellB hbv2 hHeld.2.2.2.2.2.2.2.2.2.2.2.2.1, cellB hbv2 hHeld.2.2.2.2.2.2.2.2.2.2.2.2.2.1, cellB hbv2 hHeld.2.2.2.2.2.2.2.2.2.2.2.2.2.2.1, cellB hbv2 hHeld.2.2.2.2.2.2.2.2.2.2.2.2.2.2.2.1, cellB hbv2 hHeld.2.2.2.2.2.2.2.2.2.2.2.2.2.2.2.2.1, cellB hbv2 hHeld.2.2.2.2.2.2.2.2.2.2.2.2.2.2.2.2.2.1, cellB hbv2 hHeld.2.2.2.2.2.2.2.2.2.2.2.2.2.2.2.2.2.2.1, cellB hbv2 hHeld.2.2.2.2.2.2.2.2.2.2.2.2.2.2.2.2.2.2.2.1, HLK.out _ (bthen hbv1 (Nat.le_refl _) hbv2)⟩) (fun hHeld' => ?_)
      replace hHeld := hHeld' (by rfl) (by decide)
      clear hK hHeld'
      (try simp only [layE])
      refine E_take0 hQ (fun _ => hHeld) 21 (v := ?vd25) rfl rfl (by kernel_rfl) (by kernel_rfl) (by kernel_rfl) (by decide) (by rfl) ?yd25 ?rd25
      case yd25 => (intro w; go_simp; (try with_reducible rfl))
      (try simp only [layE])
      refine E_take0 hQ (fun _ => hHeld) 22 (v := ?vd26) rfl rfl (by kernel_rfl) (by kernel_rfl) (by kernel_rfl) (by decide) (by rfl) ?yd26 ?rd26
      case yd26 => (intro w; go_simp; (try with_reducible rfl))
      (try simp only [layE])
      refine E_take0 hQ (fun _ => hHeld) 23 (v := ?vd27) rfl rfl (by kernel_rfl) (by kernel_rfl) (by kernel_rfl) (by decide) (by rfl) ?yd27 ?rd27
      case yd27 => (intro w; go_simp; (try with_reducible rfl))
      (try simp only [layE])
      refine E_one 25 (by kernel_rfl) rfl (by rfl) (fun K hK => ?_)
      have hn := (hbv2.block _ (Array.getElem?_eq_some_iff.1 hn).1).trans hn
      obtain ⟨c0, c1, c2, c3, f0, f1, f2, f3⟩ := cells4h hn
      go_simp
      (try simp only [layE])
      refine hK.out _ _ (fun _ h => absurd rfl h) (fun _ => ?_)
      clear hK hHeld
      (try simp only [layE])
      refine E_take0 hQ (fun h => absurd h (by decide)) 26 (v := ?vd28) rfl rfl (by kernel_rfl) (by kernel_rfl) (by kernel_rfl) (by decide) (by rfl) ?yd28 ?rd28
      case yd28 => (intro w; go_simp; (try with_reducible rfl))
      (try simp only [layE])
      refine E_done (by kernel_rfl) ?_ _
      refine hK'.out _ _ ?_
      have hfin : Below w1.heap.size w1 v2 := bthen hbv1 (Nat.le_refl _) hbv2
      have hset := set4 (.int .u8 ar.1.1) (.int .i64 ar.1.2.1) (.int .i64 ar.1.2.2.1) (.bool ar.1.2.2.2) hn
      clear hK' hQ
      go_wp2_with fail
      go_meet
      exact ⟨w1.heap.size, rfl, rfl, hset, bset (bset (bset (bset hfin (Nat.le_refl _)) (Nat.le_refl _)) (Nat.le_refl _)) (Nat.le_refl _)⟩
  case rest =>
    obtain ⟨R, rfl, rfl, hR, hbx⟩ := hcut
    rename World => w4
    have HB4 := Lib.hid (HB1.out.trans (hbx.mono HB1.out.size))
    have HS4 := Lib.hid (HS1.out.below hbx)
    have HG4 := Lib.hid ((hbx.block _ (Array.getElem?_eq_some_iff.1 HG1.out).1).trans HG1.out)
    have HR4 := Lib.hid hR
    clear hbx hR a0 a1 a2 a3 y0 y1 x2 x4 t0 t1 t2 t3 t4 t5 t6 t7 t8 t9 t10 t11 t12 HS1 HG1 HB1 HLK HANSW
    rcases hb2 : ar.2 with _ | _
    · have HB2 := Lib.hid hb2
      go_wp2_with fail
      refine bodyPost_ret (results_tmp2 rfl _ _ _) rfl ?_
      exact ⟨_, by rw [HRF.out HB2.out]; rfl, by rw [HRF.out HB2.out]; exact HSAME.out _ HB4.out⟩
    · have HB2 := Lib.hid hb2
      have HAK := Lib.hid (asker_any ⟨p, m, _, sc, vr, d, rs, N⟩ S U w4 HS4.out (fun j hj => Nat.lt_of_lt_of_le (HU.out j hj) HB4.out.size))
      dsimp only at HAK
      go_wp2_with fail
      refine HAK.out.mono ?_
      rintro e w5 ⟨bs, bo, ob, rfl, hA0, hb5, hob, hol⟩
      obtain ⟨da1, dc1, ua1, uc1, va1, vc1, hA⟩ := hA0
      dsimp only at hA
      have HA5 := Lib.hid hA
      obtain ⟨z0, z1, -, -⟩ := cells2 ((hb5.block _ (Array.getElem?_eq_some_iff.1 HG4.out).1).trans HG4.out)
      obtain ⟨c0, c1, c2, c3, -⟩ := cells4h ((hb5.block _ (Array.getElem?_eq_some_iff.1 HR4.out).1).trans HR4.out)
      have HB5 := Lib.hid (HB4.out.trans (hb5.mono HB4.out.size))
      have hwk : ((jn : Int), u) ∈ waysD d.steps.length := by
        cases u with
        | false => exact ways_f hjl
        | true => exact ways_t hjl
      have HWK := Lib.hid hwk
      have hdl := HGD.out.dl
      have hul := HGD.out.ul
      clear hA hb5 hwk
      go_wp2_with fail
      refine (sagPut_any (jn : Int) u ar.1.1 ar.1.2.1 ar.1.2.2.1 ar.1.2.2.2 (S, []) w5 _ p m _ sc vr d rs N bs bo ob da1 dc1 ua1 uc1 va1 vc1 HA5.out HWK.out (by omega) (by dsimp only; omega) (by simp)).mono ?_
      rintro e w6 ⟨rfl, V6, hY6, hG6⟩
      have HPL := putX_len (S, []) ((jn : Int), u) (ar.1.1, ar.1.2.1, ar.1.2.2.1, ar.1.2.2.2)
      have hpu := putX_undone (S, []) ((jn : Int), u) (ar.1.1, ar.1.2.1, ar.1.2.2.1, ar.1.2.2.2)
      have hpd : ∀ i ∈ (putX (S, []) ((jn : Int), u) (ar.1.1, ar.1.2.1, ar.1.2.2.1, ar.1.2.2.2)).1.done, 0 ≤ i ∧ i < (d.steps.length : Int) := by
        intro i hi
        unfold putX at hi
        split at hi
        · rcases List.mem_append.1 hi with h | h
          · exact HGD.out.dn i h
          · simp only [List.mem_singleton] at h
            subst h
            exact ⟨by (try dsimp only); omega, by (try dsimp only); omega⟩
        · split at hi
          · exact HGD.out.dn i hi
          · exact HGD.out.dn i hi
      have HON := Lib.hid (on_any ⟨p, m, _, sc, vr, d, rs, N⟩ bs bo ob (putX (S, []) ((jn : Int), u) (ar.1.1, ar.1.2.1, ar.1.2.2.1, ar.1.2.2.2)) now V6 w6 hY6 HF.out hpd (by have := HPL.2; dsimp only at this; omega) (by rw [hpu]; dsimp only; omega) (by have := HPL.1; simp only [List.length_nil] at this; omega))
      dsimp only at HON
      have HG6 := Lib.hid hG6
      clear hY6 hG6 HPL hpu hpd z0 z1 c0 c1 c2 c3
      go_wp2_with fail
      refine HON.out.mono ?_
      rintro e w7 ⟨rfl, V7, hY7, hG7⟩
      obtain ⟨va, vc, hbk, hC⟩ := call_fin (fun j hj => HU.out j hj) HB5.out (Nat.le_trans HB4.out.size hob) hY7 (HG6.out.trans hG7)
      have HC := Lib.hid hC
      have v0 := cell1 hbk
      clear hY7 hG7 hC hbk
      go_wp2_with fail
      refine bodyPost_ret (results_tmp2 rfl _ _ _) rfl ?_
      exact ⟨_, by rw [HRT.out HB2.out]; rfl, by rw [HRT.out HB2.out]; exact HC.out⟩
end Go.Proofs.YtgfiogjfgbegpaaGreat

/-
  Sagas: the iterator over all ways: contract.
-/
namespace Go.Proofs.YtgfiogjfgbegpaaGreat
open Go Go.RowKit Go.Maps Go.WideShapes
attribute [local go_sem] Oper.semAt_some wide_fn wide_depth wide_fn' wide_depth'

theorem waysD_len (n : Nat) : (waysD n).length = n + n := by
  unfold waysD
  simp
theorem waysD_get {n b i : Nat} (hb : b < 2) (hi : i < n) : (waysD n)[b * n + i]? = some ((i : Int), decide (b = 1)) := by
  unfold waysD
  rcases (by omega : b = 0 ∨ b = 1) with rfl | rfl
  · rw [List.getElem?_append_left (by simp; omega)]
    simp [hi]
  · rw [List.getElem?_append_right (by simp)]
    simp [hi]
theorem waysD_take {n b i : Nat} (hb : b < 2) (hi : i < n) : (waysD n).take (b * n + i + 1) = (waysD n).take (b * n + i) ++ [((i : Int), decide (b = 1))] := by
  rw [List.take_add_one, waysD_get hb hi]
  rfl
def encWs (k : WayD) : Array Value := #[encW k]
theorem ways_any (p : Nat) (w : World) : Calls Tryz.prog 66 #[.pointer (some ⟨p, 0, none⟩)] w fun e w' => e = .returned (.func (.func 93) #[] #[.pointer (some ⟨w.heap.size, 0, none⟩)]) ∧ w.alloc (.cells #[.pointer (some ⟨p, 0, none⟩)] 48) = w' := by
  go_enter Tryz.func66, Tryz.ntmps66
  go_wp2
  go_ret
  exact ⟨rfl, rfl⟩
set_option maxRecDepth 100000 in
set_option maxHeartbeats 4000000 in
theorem ways_iter (p n X sc : Nat) (sa : Option Addr) (w : World) (hbX : w.heap[X]? = some (.cells #[.pointer (some ⟨p, 0, none⟩)] 48 (0, 0))) (hn : n ≤ 1000000) :
    IterAtR Tryz.prog 0 93 #[.pointer (some ⟨X, 0, none⟩)] encWs (waysD n) True (fun j => j = X) (fun W => W.cell? ⟨p, 2, none⟩ = some (.slice sa n sc)) w := by
  intro l J Jx W _ hR hS hn0 hbl hJ hJx hY h0
  have hltX := (Array.getElem?_eq_some_iff.1 hbX).1
  have hbX' := (hbl.block X hltX).trans hbX
  have HJ := Lib.hid hJ
  have HY := Lib.hid hY
  have HR := Lib.hid hR
  have hb1 : Below W.heap.size W (W.alloc (.cells #[.bool false, .bool true] 4)) := (Below.refl _ _).alloc (Nat.le_refl _) _
  have hst : Step 0 (fun j => j = X) (fun j => j = X ∨ j = W.heap.size) W (W.alloc (.cells #[.bool false, .bool true] 4)) := Step.alloc (Nat.zero_le _) _
  have hS1 : ∀ k, (k = X ∨ k = W.heap.size) → 0 ≤ k ∧ k < (W.alloc (.cells #[.bool false, .bool true] 4)).heap.size := fun k hk => ⟨Nat.zero_le _, by have := hbl.size; simp; omega⟩
  have hJ1 := hJ _ _ _ _ _ (fun k hk => ⟨Nat.zero_le _, (hS k hk).2⟩) h0 hst
  have g0 := World.alloc_heap_new W (.cells #[.bool false, .bool true] 4)
  have hX1 := (hb1.block _ (Array.getElem?_eq_some_iff.1 hbX').1).trans hbX'
  have HJ1 := Lib.hid hJ1
  have HS1 := Lib.hid hS1
  have HG := Lib.hid g0
  have HX := Lib.hid hX1
  clear hY hS hbX hbX' hbl hltX hJ hJx h0 hst hb1 hS1 hJ1 g0 hX1 hR hn0
  refine callsIn_of_wp Tryz.func93 rfl trivial ?_ rfl
  simp only [Tryz.ntmps93, List.size_toArray, List.length_cons, List.length_nil, Nat.reduceAdd, Nat.reduceSub, Array.replicate_succ, Array.replicate_zero, List.push_toArray, List.append_toArray, List.nil_append, List.cons_append]
  gi_wp2_with fail
  generalize hQ : W.heap.size = Q at *
  generalize W.alloc (.cells #[.bool false, .bool true] 4) = W1 at *
  gi_loopg [8] 3 (fun gk i wr => ∃ (S : Nat → Prop) (k : Nat), k + gk = 3 ∧ k ≤ 2 ∧ i = .int .i64 k ∧ Hid (∀ j, S j → 0 ≤ j ∧ j < wr.heap.size) ∧ S X ∧ S Q ∧ J S ((waysD n).take (k * n)) wr ∧ Hid (wr.heap[X]? = some (.cells #[.pointer (some ⟨p, 0, none⟩)] 48 (0, 0))) ∧ Hid (wr.heap[Q]? = some (.cells #[.bool false, .bool true] 4 (0, 0))))
  case atStart => exact ⟨_, 0, by omega, by omega, rfl, HS1, .inl rfl, .inr rfl, by simpa using HJ1.out, HX, HG⟩
  case round =>
    obtain ⟨S, k, hgk, hk, rfl, HSb, hSX, hSQ, hJs, HXr, HQr⟩ := hrel
    have hg : gk = 3 - k := by omega
    subst hg
    by_cases hkl : k < 2
    · have hk1 : (k : Int) < 2 := by omega
      have hk0 : (0 : Int) ≤ (k : Int) := by omega
      have x2 := HR.out _ _ _ hJs
      have xX := cell1 HXr.out
      have xQ : wr.cell? ⟨Q, k, none⟩ = some (.bool (decide (k = 1))) := by
        rcases (by omega : k = 0 ∨ k = 1) with rfl | rfl
        · exact (cells2 HQr.out).1
        · exact (cells2 HQr.out).2.1
      have HJs := Lib.hid hJs
      clear hJs
      generalize hbk : decide (k = 1) = bk at *
      gi_wp2_with fail
      clear x2 xX xQ
      gi_loopg [18] (n + 1) (fun gk i wi => ∃ (S : Nat → Prop) (j : Nat), j + gk = n + 1 ∧ j ≤ n ∧ i = .int .i64 j ∧ Hid (∀ j, S j → 0 ≤ j ∧ j < wi.heap.size) ∧ S X ∧ S Q ∧ J S ((waysD n).take (k * n + j)) wi ∧ Hid (wi.heap[X]? = some (.cells #[.pointer (some ⟨p, 0, none⟩)] 48 (0, 0))) ∧ Hid (wi.heap[Q]? = some (.cells #[.bool false, .bool true] 4 (0, 0))))
      case atStart => exact ⟨S, 0, by omega, by omega, rfl, HSb, hSX, hSQ, HJs.out, HXr, HQr⟩
      case round =>
        obtain ⟨S, j, hgj, hj, rfl, HSb, hSX, hSQ, hJs, HXi, HQi⟩ := hrel
        rename World => wi
        have hg : gk = n + 1 - j := by omega
        subst hg
        by_cases hja : j < n
        · have d2 : decide ((j : Int) < (n : Int)) = true := decide_eq_true (by omega)
          have hj1 : (j : Int) < (n : Int) := by omega
          have hT := waysD_take hkl hja
          have hpx : (waysD n).take (k * n + j) ++ [((j : Int), bk)] <+: waysD n := by
            rw [← hbk, ← hT]
            exact List.take_prefix _ _
          rw [hbk] at hT
          obtain ⟨fn, tmps, assign, body, hy, hRr⟩ := HY.out S _ ((j : Int), bk) wi HSb.out hJs hpx
          rw [← hT] at hRr
          unfold encWs encW at hy
          dsimp only at hy
          have HPX := Lib.hid hpx
          have HRr := Lib.hid hRr
          have HYY := Lib.hid hy
          have HT := Lib.hid hT
          clear hpx hRr hy hT
          gi_upto_region 6 with fail
          have hy := HYY.out
          gi_wp2_with fail
          refine HRr.out.mono ?_
          rintro e W' (⟨rfl, hJ', hk'⟩ | ⟨rfl, hJ', hk'⟩)
          · clear hy
            have hsz' := hk'.below.size
            gi_wp2_with fail
            gi_roundg (n + 1 - (j + 1))
            case measure => omega
            case rel => exact ⟨S, j + 1, by omega, by omega, by go_num, Lib.hid (fun i hi => ⟨Nat.zero_le _, Nat.lt_of_lt_of_le (HSb.out i hi).2 hsz'⟩), hSX, hSQ, hJ', Lib.hid ((hk'.same X hSX).trans HXi.out), Lib.hid ((hk'.same Q hSQ).trans HQi.out)⟩
          · clear hy
            have hsz' := hk'.below.size
            gi_wp2_with fail
            refine bodyPost_ret (results_none rfl _ _ _) rfl ?_
            exact ⟨⟨_, rfl⟩, S, (fun i hi => ⟨Nat.zero_le _, Nat.lt_of_lt_of_le (HSb.out i hi).2 hsz'⟩), .inr ⟨_, (by rw [HT.out]; exact HPX.out), hJ'⟩⟩
        · have d2 : decide ((j : Int) < (n : Int)) = false := decide_eq_false (by omega)
          have hj1 : ¬ (j : Int) < (n : Int) := by omega
          obtain rfl : j = n := by omega
          gi_wp2_with fail
          gi_roundg (3 - (k + 1))
          case measure => omega
          case rel => exact ⟨S, k + 1, by omega, by omega, by go_num, HSb, hSX, hSQ, by rw [Nat.add_mul, Nat.one_mul]; exact hJs, HXi, HQi⟩
    · have hk1 : ¬ (k : Int) < 2 := by omega
      obtain rfl : k = 2 := by omega
      have hE : (waysD n).take (2 * n) = waysD n := List.take_of_length_le (by rw [waysD_len]; omega)
      rw [hE] at hJs
      gi_wp2_with fail
      go_end0
      exact ⟨⟨_, rfl⟩, S, fun j hj => (HSb.out j hj).2, .inl hJs⟩
end Go.Proofs.YtgfiogjfgbegpaaGreat

/-
  A saga of one step is that step: the plain law.
-/
namespace Go.Proofs.YtgfiogjfgbegpaaGreat
open Go Go.RowKit

structure OneR (S : SagD) (r : RunD) : Prop where
  run : S.runs (0, false) = r
  und : S.runs (0, true) = idleR
  done : S.done = if r.1 = 3 then [0] else []
  undone : S.undone = []
  st : S.status = if r.1 = 3 then 3 else if r.1 = 4 then 4 else 1
  ph : r.1 = 1 ∨ r.1 = 2 ∨ r.1 = 3 ∨ r.1 = 4
theorem tickR_no {s : StepD} {r : RunD} {now : Int} (h : (tickR s r now).2 = false) : (tickR s r now).1 = r := by
  unfold tickR tickT at h ⊢
  split
  · rename_i h1
    rw [if_pos h1] at h
    split
    · rename_i h2; rw [if_pos h2] at h; cases h
    · rename_i h2
      rw [if_neg h2] at h
      split
      · rename_i h3; rw [if_pos h3] at h; cases h
      · rfl
  · rfl
theorem tickR_over {s : StepD} {r : RunD} {now : Int} (h : r.1 ≠ 1) (h2 : r.1 ≠ 2) : tickR s r now = (r, false) := by
  unfold tickR tickT
  split
  · simp
  · rfl
theorem inc_zero : inc 0 = 1 := by decide +kernel
end Go.Proofs.YtgfiogjfgbegpaaGreat

/-
  The law NamesRefs: walk; definitions' lists are right.
-/
namespace Go.Proofs.YtgfiogjfgbegpaaGreat
open Go Go.RowKit Go.WideShapes

theorem names_ok {d : DefD} (hs : SmallD d) : ∀ x ∈ rChkN d.steps 0 d.steps (headN d), OkG x := by
  have hn : ∀ (l : List DiagD) (b : Bool) (x : DiagD), (∀ y ∈ l, OkG y) → OkG x → ∀ y ∈ noteL l b x, OkG y := fun l b x h1 h2 y hy => by
    rcases (noteL_mem l b x y).1 hy with h | ⟨-, rfl⟩
    · exact h1 y h
    · exact h2
  have ok : ∀ (st er : Int) (tx : ByteArray), I64w st → I64w er → tx.size ≤ 200 → OkG (st, er, tx) := fun st er tx h1 h2 h3 => ⟨h1, h2, by show tx.size ≤ maxLen; unfold maxLen; omega⟩
  have hrows : ∀ (i : Nat) (s : StepD), i ≤ 30 → s.name.size ≤ 200 → ∀ (r seen : List ByteArray) (l : List DiagD), (∀ a ∈ r, a.size ≤ 200) → (∀ y ∈ l, OkG y) → ∀ y ∈ rowsN d.steps i s seen r l, OkG y := by
    intro i s hi hn1 r
    induction r with
    | nil => intro seen l _ h; exact h
    | cons a r ih =>
      intro seen l ha h
      have ha0 := ha a (by simp)
      refine ih _ _ (fun b hb => ha b (by simp [hb])) ?_
      unfold rowN
      exact hn _ _ _ (hn _ _ _ (hn _ _ _ h (ok _ _ _ (by unfold I64w; omega) (by unfold I64w; omega) ha0)) (ok _ _ _ (by unfold I64w; omega) (by unfold I64w; omega) hn1)) (ok _ _ _ (by unfold I64w; omega) (by unfold I64w; omega) ha0)
  have hall : ∀ (r : List StepD) (i : Nat) (l : List DiagD), i + r.length ≤ 30 → (∀ s ∈ r, SmallS s) → (∀ y ∈ l, OkG y) → ∀ y ∈ rChkN d.steps i r l, OkG y := by
    intro r
    induction r with
    | nil => intro i l _ _ h; exact h
    | cons s r ih =>
      intro i l hi hs h
      rw [List.length_cons] at hi
      have hs0 := hs s (by simp)
      refine ih _ _ (by omega) (fun t ht => hs t (by simp [ht])) (hrows i s (by omega) hs0.name _ _ _ hs0.aft ?_)
      unfold stepN
      exact hn _ _ _ (hn _ _ _ (hn _ _ _ (hn _ _ _ h (ok _ _ _ (by unfold I64w; omega) (by unfold I64w; omega) hs0.name)) (ok _ _ _ (by unfold I64w; omega) (by unfold I64w; omega) hs0.action)) (ok _ _ _ (by unfold I64w; omega) (by unfold I64w; omega) hs0.undo)) (ok _ _ _ (by unfold I64w; omega) (by unfold I64w; omega) hs0.name)
  refine hall d.steps 0 _ (by have := hs.steps; omega) hs.each ?_
  unfold headN
  exact hn _ _ _ (hn _ _ _ (fun y hy => by cases hy) (ok _ _ _ (by unfold I64w; omega) (by unfold I64w; omega) (by decide))) (ok _ _ _ (by unfold I64w; omega) (by unfold I64w; omega) hs.name)
theorem chkN_ok {d : DefD} (hs : SmallD d) : ∀ x ∈ chkN d, OkG x := by
  intro x hx
  have := (sortD_mem _ x).2 hx
  rw [← names_alike] at this
  exact names_ok hs x ((sortD_mem _ x).1 this)
theorem refs_few {d : DefD} (hs : SmallD d) : (refsF d.steps 0 d.steps).length ≤ 10000 := by
  have h1 := refsF_len d.steps (m := 70) d.steps 0 (fun s h => (hs.each s h).after)
  have h2 : d.steps.length * 70 ≤ 30 * 70 := Nat.mul_le_mul_right _ hs.steps
  omega
theorem chkN_few {d : DefD} (hs : SmallD d) : (chkN d).length ≤ 100000 := by
  unfold chkN
  have h1 := refsN_len d.steps (refsF d.steps 0 d.steps) [] (stepsN d.steps 0 d.steps (headN d))
  have h2 := stepsN_len d.steps d.steps 0 (headN d)
  have h3 := headN_len d
  have h4 := refs_few hs
  have h5 := hs.steps
  omega

end Go.Proofs.YtgfiogjfgbegpaaGreat

/-
  Sagas: Tick: contract.
-/
namespace Go.Proofs.YtgfiogjfgbegpaaGreat
open Go Go.RowKit Go.Maps Go.WideShapes
attribute [local go_sem] Oper.semAt_some wide_fn wide_depth wide_fn' wide_depth'

theorem failT_ne (m f k l p t u : Int) (b : Bool) (now : Int) : (failT m f k l p t u b now).1 ≠ 3 := by
  unfold failT
  split
  · show (4 : Int) ≠ 3; decide
  · split
    · show (1 : Int) ≠ 3; decide
    · show (2 : Int) ≠ 3; decide
theorem tickR_ne {s : StepD} {r : RunD} {now : Int} (h : (tickR s r now).2 = true) : (tickR s r now).1.1 ≠ 3 := by
  unfold tickR tickT at h ⊢
  split
  · rename_i h1
    rw [if_pos h1] at h
    split
    · exact failT_ne s.most s.first s.factor s.limit r.1 r.2.1 r.2.2.1 r.2.2.2 now
    · rename_i h2
      rw [if_neg h2] at h
      split
      · show (1 : Int) ≠ 3; decide
      · rename_i h3
        rw [if_neg h3] at h
        cases h
  · rename_i h1
    rw [if_neg h1] at h
    cases h
theorem tkX_done (l : List StepD) (now : Int) (X : AskX) (k : WayD) : (tkX l now X k).1.done = X.1.done := by
  unfold tkX
  dsimp only
  split
  · rename_i h
    exact putX_done _ _ _ (tickR_ne h)
  · rfl
theorem tkX_undone (l : List StepD) (now : Int) (X : AskX) (k : WayD) : (tkX l now X k).1.undone = X.1.undone := by
  unfold tkX
  dsimp only
  split
  · exact putX_undone _ _ _
  · rfl
theorem tkX_out (l : List StepD) (now : Int) (X : AskX) (k : WayD) : (tkX l now X k).2.length ≤ X.2.length + 1 := by
  unfold tkX
  dsimp only
  split
  · exact (putX_len _ _ _).1
  · omega
theorem tksX_facts (l : List StepD) (now : Int) : ∀ (ks : List WayD) (X : AskX), (ks.foldl (tkX l now) X).1.done = X.1.done ∧ (ks.foldl (tkX l now) X).1.undone = X.1.undone ∧ (ks.foldl (tkX l now) X).2.length ≤ X.2.length + ks.length
  | [], X => ⟨rfl, rfl, Nat.le_refl _⟩
  | k :: ks, X => by
    have := tksX_facts l now ks (tkX l now X k)
    rw [List.foldl_cons]
    refine ⟨this.1.trans (tkX_done l now X k), this.2.1.trans (tkX_undone l now X k), ?_⟩
    have h1 := this.2.2
    have h2 := tkX_out l now X k
    rw [List.length_cons]
    omega
theorem AskE.moved {w w' : World} {V : Nat → Prop} {k : SagK} {bs bo ob : Nat} {X : AskX} (h : AskE w V k bs bo ob X) (hs : w.heap.size ≤ w'.heap.size) (hN : ∀ j, j < k.N → ¬ V j → w'.heap[j]? = w.heap[j]?) (hV : ∀ j, V j → j < w.heap.size → w'.heap[j]? = w.heap[j]?) (hbs : w'.heap[bs]? = w.heap[bs]?) (hbo : w'.heap[bo]? = w.heap[bo]?) : AskE w' V k bs bo ob X := by
  obtain ⟨da, dc, ua, uc, va, vc, h⟩ := h
  obtain ⟨L, g, q1, q2⟩ := h.sag.map
  refine ⟨da, dc, ua, uc, va, vc, ⟨⟨(hV _ h.sag.ownp h.sag.ltp).trans h.sag.cell, h.sag.df.same hs hN, h.sag.refs.same hs hN, ⟨L, g, q1.block (hV _ h.sag.ownm q1.lt), q2⟩, ownsRow_keepB h.sag.done (fun g e => hV g (h.sag.ownd g e) (h.sag.done.lt g e).2), ownsRow_keepB h.sag.undone (fun g e => hV g (h.sag.ownu g e) (h.sag.undone.lt g e).2), h.sag.apart, h.sag.ownp, h.sag.ownm, h.sag.ownd, h.sag.ownu⟩, hbs.trans h.hbs, hbo.trans h.hbo, (hV _ h.uob (Array.getElem?_eq_some_iff.1 h.hob).1).trans h.hob, ownsRow_keepB h.row (fun g e => hV g (h.urow g e) (h.row.lt g e).2), h.nbs, h.nbo, h.uob, h.urow⟩⟩
theorem AskE.bound {w : World} {V : Nat → Prop} {k : SagK} {bs bo ob : Nat} {X : AskX} (h : AskE w V k bs bo ob X) : k.N ≤ w.heap.size ∧ bs < w.heap.size ∧ bo < w.heap.size ∧ ¬ V bs ∧ ¬ V bo := by
  obtain ⟨da, dc, ua, uc, va, vc, h⟩ := h
  exact ⟨h.sag.df.1, (Array.getElem?_eq_some_iff.1 h.hbs).1, (Array.getElem?_eq_some_iff.1 h.hbo).1, h.nbs, h.nbo⟩
theorem AskE.trim {w : World} {V : Nat → Prop} {k : SagK} {bs bo ob : Nat} {X : AskX} (h : AskE w V k bs bo ob X) : AskE w (fun j => V j ∧ j < w.heap.size) k bs bo ob X := by
  obtain ⟨da, dc, ua, uc, va, vc, h⟩ := h
  refine ⟨da, dc, ua, uc, va, vc, ⟨⟨h.sag.cell, h.sag.df.less (fun j hj => hj.1), h.sag.refs.less (fun j hj => hj.1), h.sag.map, h.sag.done, h.sag.undone, h.sag.apart, ⟨h.sag.ownp, h.sag.ltp⟩, ⟨h.sag.ownm, h.sag.ltm⟩, fun g e => ⟨h.sag.ownd g e, (h.sag.done.lt g e).2⟩, fun g e => ⟨h.sag.ownu g e, (h.sag.undone.lt g e).2⟩⟩, h.hbs, h.hbo, h.hob, h.row, fun e => h.nbs e.1, fun e => h.nbo e.1, ⟨h.uob, (Array.getElem?_eq_some_iff.1 h.hob).1⟩, fun g e => ⟨h.urow g e, (h.row.lt g e).2⟩⟩⟩
def TkJ (l : List StepD) (now : Int) (S0 : SagD) (U1 : Nat → Prop) (w2 : World) (k : SagK) (bs bo ob : Nat) (S : Nat → Prop) (pre : List WayD) (W : World) : Prop :=
  ∃ V, AskE W V k bs bo ob (pre.foldl (tkX l now) (S0, [])) ∧ Grow U1 V w2 W ∧ (∀ j, V j → j < W.heap.size ∧ ¬ S j) ∧ ∀ j, S j → w2.heap.size ≤ j
theorem TkJ_stable (l : List StepD) (now : Int) (S0 : SagD) (U1 : Nat → Prop) (w2 : World) (k : SagK) (bs bo ob : Nat) (hN : k.N ≤ w2.heap.size) (hbs : bs < w2.heap.size) (hbo : bo < w2.heap.size) : Stable 0 (TkJ l now S0 U1 w2 k bs bo ob) := by
  rintro S S' pre A B hS ⟨V, hA, hG, hV, hS2⟩ hs
  have hsz := hG.size
  have hsz2 := hs.below.size
  have same : ∀ j, j < w2.heap.size → B.heap[j]? = A.heap[j]? := fun j hj => hs.same j (by omega) (fun e => by have := hS2 j e; omega)
  refine ⟨V, hA.moved hsz2 (fun j hj _ => same j (by omega)) (fun j hj hl => hs.same j hl (hV j hj).2) (same bs hbs) (same bo hbo), ⟨⟨⟨hs.below.os.trans hG.chg.low.os, hs.below.tape.trans hG.chg.low.tape, hs.below.output.trans hG.chg.low.output, Nat.le_trans hG.chg.low.size hsz2, fun i hi => absurd hi (Nat.not_lt_zero i)⟩, fun j hj hU => (same j hj).trans (hG.chg.block j hj hU)⟩, hG.new, hG.old⟩, fun j hj => ⟨Nat.lt_of_lt_of_le (hV j hj).1 hsz2, fun e => ?_⟩, fun j hj => ?_⟩
  · rcases hs.new j e with h1 | h1
    · exact (hV j hj).2 h1
    · have := (hV j hj).1; omega
  · rcases hs.new j hj with h1 | h1
    · exact hS2 j h1
    · omega
set_option maxRecDepth 100000 in
set_option maxHeartbeats 8000000 in
theorem TickS_any (k : SagK) (S : SagD) (now : Int) (U : Nat → Prop) (w : World) (h : SagE w U k S) (hU : ∀ j, U j → j < w.heap.size) (hf : FineK k) (hg : GoodS k.d.steps.length S) : Calls Tryz.prog 33 #[.pointer (some ⟨k.p, 0, none⟩), .int .i64 now] w fun e w' => ∃ v, e = .returned v ∧ CallTo w U w' k (tickX k.d.steps k.rs S now).1 (tickX k.d.steps k.rs S now).2 v := by
  have hn30 := hf.small.steps
  have HSAME := Lib.hid (fun W (hb : Below w.heap.size w W) => CallTo.same h hU hb)
  have hb0 : Below w.heap.size w ((w.alloc (.cells #[.pointer (some ⟨k.p, 0, none⟩)] 48)).alloc (.cells #[.int .i64 now] 2)) := ((Below.refl _ w).alloc (Nat.le_refl _) _).alloc (by simp) _
  have g0 : ((w.alloc (.cells #[.pointer (some ⟨k.p, 0, none⟩)] 48)).alloc (.cells #[.int .i64 now] 2)).heap[w.heap.size]? = some (.cells #[.pointer (some ⟨k.p, 0, none⟩)] 48 (0, 0)) := (Below.heap_alloc _ _ _ (by simp)).trans (World.alloc_heap_new w _)
  have g1 : ((w.alloc (.cells #[.pointer (some ⟨k.p, 0, none⟩)] 48)).alloc (.cells #[.int .i64 now] 2)).heap[w.heap.size + 1]? = some (.cells #[.int .i64 now] 2 (0, 0)) := by
    have := World.alloc_heap_new (w.alloc (.cells #[.pointer (some ⟨k.p, 0, none⟩)] 48)) (.cells #[.int .i64 now] 2)
    rwa [World.size_alloc] at this
  have hsz0 : ((w.alloc (.cells #[.pointer (some ⟨k.p, 0, none⟩)] 48)).alloc (.cells #[.int .i64 now] 2)).heap.size = w.heap.size + 2 := by simp
  have HH := Lib.hid h
  have HU := Lib.hid hU
  have HF := Lib.hid hf
  have HGD := Lib.hid hg
  clear h hU hf hg
  unfold tickX
  generalize hres : (if movB S = true then onX k.d.steps k.rs now (List.foldl (tkX k.d.steps now) (S, []) (waysD k.d.steps.length)) else (S, [])) = res
  have HRT : Hid (movB S = true → res = onX k.d.steps k.rs now (List.foldl (tkX k.d.steps now) (S, []) (waysD k.d.steps.length))) := Lib.hid (fun e => by rw [← hres, if_pos e])
  have HRF : Hid (movB S = false → res = (S, [])) := Lib.hid (fun e => by rw [← hres, if_neg (fun e2 => by rw [e] at e2; cases e2)])
  clear hres
  refine (callsIn_wide (n := 0)).1 ?_
  refine callsIn_of_wp_marks Tryz.func33 rfl trivial ?_ rfl
  simp only [Tryz.ntmps33, List.size_toArray, List.length_cons, List.length_nil, Nat.reduceAdd, Nat.reduceSub, Array.replicate_succ, Array.replicate_zero, List.push_toArray, List.append_toArray, List.nil_append, List.cons_append]
  gi_upto_region 1 with fail
  generalize (w.alloc (.cells #[.pointer (some ⟨k.p, 0, none⟩)] 48)).alloc (.cells #[.int .i64 now] 2) = w0 at *
  have HMOV := Lib.hid (moving_any k S U w0 (HH.out.below hb0))
  have HAK := Lib.hid (asker_any k S U w0 (HH.out.below hb0) (fun j hj => Nat.lt_of_lt_of_le (HU.out j hj) hb0.size))
  have HB0 := Lib.hid hb0
  have HG0 := Lib.hid g0
  have HG1 := Lib.hid g1
  have s0 := cell1 g0
  clear hb0 g0 g1
  gi_wp2_with fail
  refine (callsIn_wide.2 HMOV.out).mono ?_
  rintro e w' ⟨rfl, rfl⟩
  rcases hmv : movB S with _ | _
  · have HR := Lib.hid (HRF.out hmv)
    clear hmv
    gi_wp2_with fail
    exact ⟨_, results_tmp rfl _ _ _, _, rfl, by rw [HR.out]; exact HSAME.out _ HB0.out⟩
  have HR := Lib.hid (HRT.out hmv)
  clear hmv HRT HRF
  gi_wp2_with fail
  refine (callsIn_wide.2 HAK.out).mono ?_
  rintro e w1 ⟨bs, bo, ob, rfl, hA, hb1, hob, hol⟩
  have hg0 := (hb1.block _ (by omega)).trans HG0.out
  have hg1 := (hb1.block _ (by omega)).trans HG1.out
  clear s0
  have s0 := cell1 hg0
  have HG0' := Lib.hid hg0
  have HG1' := Lib.hid hg1
  have HA1 := Lib.hid hA
  have HB1 := Lib.hid hb1
  clear hA hb1 hg0 hg1
  gi_upto_region 4 with fail
  have hb2 : Below w1.heap.size w1 (w1.alloc (.cells #[(.func (.func 83) #[] #[.pointer (some ⟨bs, 0, none⟩), .pointer (some ⟨bo, 0, none⟩)])] 93)) := (Below.refl _ _).alloc (Nat.le_refl _) _
  have g2 := World.alloc_heap_new w1 (.cells #[(.func (.func 83) #[] #[.pointer (some ⟨bs, 0, none⟩), .pointer (some ⟨bo, 0, none⟩)])] 93)
  generalize hP : w1.heap.size = eP at *
  generalize w1.alloc (.cells #[(.func (.func 83) #[] #[.pointer (some ⟨bs, 0, none⟩), .pointer (some ⟨bo, 0, none⟩)])] 93) = w2 at *
  have HB2 := Lib.hid (HB0.out.trans ((bthen HB1.out (Nat.le_refl _) (hP ▸ hb2)).mono HB0.out.size))
  have HA2 := Lib.hid (HA1.out.below (hP ▸ hb2))
  have hsz2 := hb2.size
  have hg0 := (hb2.block _ (by have := (Array.getElem?_eq_some_iff.1 HG0'.out).1; omega)).trans HG0'.out
  have hg1 := (hb2.block _ (by have := (Array.getElem?_eq_some_iff.1 HG1'.out).1; omega)).trans HG1'.out
  have HL0 := Lib.hid hg0
  have HL1 := Lib.hid hg1
  have HL2 := Lib.hid g2
  have hl2 := (Array.getElem?_eq_some_iff.1 g2).1
  clear s0
  have s0 := cell1 hg0
  clear hg0 hg1 g2 hb2 HG0' HG1' HG0 HG1 HA1 HAK HMOV
  gi_wp2_with fail
  refine (callsIn_wide.2 (ways_any k.p w2)).mono ?_
  rintro e w3 ⟨rfl, rfl⟩
  clear s0
  gi_wp2_with fail
  have hbX : Below w2.heap.size w2 (w2.alloc (.cells #[.pointer (some ⟨k.p, 0, none⟩)] 48)) := (Below.refl _ _).alloc (Nat.le_refl _) _
  have gX := World.alloc_heap_new w2 (.cells #[.pointer (some ⟨k.p, 0, none⟩)] 48)
  have hszX : (w2.alloc (.cells #[.pointer (some ⟨k.p, 0, none⟩)] 48)).heap.size = w2.heap.size + 1 := by simp
  obtain ⟨hN2, hbs2, hbo2, -, -⟩ := HA2.out.bound
  have HB0s := HB0.out.size
  have hU1 : ∀ j, (U j ∨ j = ob) → j < w2.heap.size := fun j hj => hj.elim (fun e => by have := HU.out j e; omega) (fun e => by omega)
  have HX := Lib.hid gX
  have HBX := Lib.hid hbX
  refine' wpIn_rfR rfl (enters_of Tryz.func93 (by kernel_rfl) rfl) (ways_iter k.p k.d.steps.length w2.heap.size k.sc k.sa _ gX (by omega)) (Nat.zero_le _) (fun j hj => ⟨Nat.zero_le _, by rw [hj, hszX]; omega⟩) (fun _ => rfl)
    (TkJ k.d.steps now S (fun j => U j ∨ j = ob) w2 k bs bo ob) (fun _ => fun _ _ _ => False) ?hfin ?hR ?hJ ?hJx ?h0 ?Ax ?hAx ?assign ?body ?done ?stop
  case hfin => exact fun h => absurd trivial h
  case hR =>
    rintro S' pre W ⟨V, ⟨da, dc, ua, uc, va, vc, hA⟩, -⟩
    exact hA.sag.cells.2.2.1
  case hJ => exact TkJ_stable _ _ _ _ _ _ _ _ _ hN2 hbs2 hbo2
  case hJx => exact fun _ _ _ _ _ _ _ h _ => h
  case h0 => exact ⟨_, HA2.out.below hbX, Grow.of_chg (Chg.of_below hbX), fun j hj => ⟨by have := hU1 j hj; omega, fun e => by have := hU1 j hj; omega⟩, fun j hj => by omega⟩
  case Ax => exact fun y a' W => ∃ b, a' = { tmps := #[.pointer (some ⟨k.p, 0, none⟩), .int .i64 now, .pointer (some ⟨w.heap.size, 0, none⟩), .pointer (some ⟨w.heap.size + 1, 0, none⟩), .slice none 0 0, .pointer (some ⟨ob, 0, none⟩), .pointer (some ⟨eP, 0, none⟩), .pointer (some ⟨b, 0, none⟩), undef, undef, .pointer (some ⟨k.p, 0, none⟩), .bool true, .bool false, .tuple #[.pointer (some ⟨ob, 0, none⟩), (.func (.func 83) #[] #[.pointer (some ⟨bs, 0, none⟩), .pointer (some ⟨bo, 0, none⟩)])], .pointer (some ⟨k.p, 0, none⟩), .tuple #[.pointer (some ⟨ob, 0, none⟩), (.func (.func 83) #[] #[.pointer (some ⟨bs, 0, none⟩), .pointer (some ⟨bo, 0, none⟩)])], .pointer (some ⟨ob, 0, none⟩), (.func (.func 83) #[] #[.pointer (some ⟨bs, 0, none⟩), .pointer (some ⟨bo, 0, none⟩)]), .pointer (some ⟨k.p, 0, none⟩), .func (.func 93) #[] #[.pointer (some ⟨w2.heap.size, 0, none⟩)], .agg #[.int .i64 y.1, .bool y.2], undef, undef, undef, undef, undef, undef, undef, undef, undef, undef, undef, undef, undef, undef, undef, undef, undef, undef, undef, undef, undef, undef, undef, undef, undef, undef, undef, undef, undef, undef, undef, undef], defers := [] } ∧ W.heap[b]? = some (.cells #[.int .i64 y.1, .bool y.2] 98 (0, 0))
  case hAx =>
    rintro y a' l W W' hl hlt ⟨b, rfl, hb⟩ hs ⟨r, hr⟩
    have hne : b ≠ l := by rintro rfl; rw [hr] at hb; cases hb
    exact ⟨b, rfl, (hs.same b (Array.getElem?_eq_some_iff.1 hb).1 hne).trans hb⟩
  case assign =>
    rintro l S' pre ⟨i, u⟩ W K hS hw hj hpre hK
    unfold encWs encW
    dsimp only
    have HS := Lib.hid hS
    have HK := Lib.hid hK
    have HJ := Lib.hid hj
    clear hS hK hj
    gi_wp2_with fail
    have hal : Below W.heap.size W (W.alloc (.cells #[.int .i64 i, .bool u] 98)) := (Below.refl _ _).alloc (Nat.le_refl _) _
    exact HK.out _ _ ⟨hal.mono (Nat.zero_le _), fun j hj => hal.block j (HS.out j hj).2⟩ (TkJ_stable _ _ _ _ _ _ _ _ _ hN2 hbs2 hbo2 S' S' _ _ _ HS.out HJ.out (Step.of_below (Nat.zero_le _) hal)) ⟨W.heap.size, rfl, World.alloc_heap_new W _⟩
  case stop => exact fun _ _ _ _ _ _ _ _ _ h => h.elim
  case done =>
    rintro D S' W hD hS hSD ⟨V, hA, hG, hV, hSw⟩ hKD
    have hfx := tksX_facts k.d.steps now (waysD k.d.steps.length) (S, [])
    rw [waysD_len] at hfx
    obtain ⟨hf1, hf2, hf3⟩ := hfx
    dsimp only at hf1 hf2 hf3
    have hdl := HGD.out.dl
    have hul := HGD.out.ul
    have HON := Lib.hid (on_any k bs bo ob (List.foldl (tkX k.d.steps now) (S, []) (waysD k.d.steps.length)) now V W hA HF.out (by rw [hf1]; exact HGD.out.dn) (by rw [hf1]; omega) (by rw [hf2]; omega) (by simp only [List.length_nil] at hf3; omega))
    have s0 := cell1 ((hG.chg.block w.heap.size (by omega) (fun e => e.elim (fun e => by have := HU.out _ e; omega) (fun e => by omega))).trans HL0.out)
    have n0 := cell1 ((hG.chg.block (w.heap.size + 1) (by omega) (fun e => e.elim (fun e => by have := HU.out _ e; omega) (fun e => by omega))).trans HL1.out)
    have p0 := cell1 ((hG.chg.block eP (by omega) (fun e => e.elim (fun e => by have := HU.out _ e; omega) (fun e => by omega))).trans HL2.out)
    have HA := Lib.hid hA
    have HG := Lib.hid hG
    have HV := Lib.hid hV
    have HSD := Lib.hid hSD
    have HKD := Lib.hid hKD
    have HSB := Lib.hid hS
    clear hA hG hV hSw hS hSD hf1 hf2 hf3 hKD
    gi_wp2_with fail
    refine (callsIn_wide.2 HON.out).mono ?_
    rintro e w9 ⟨rfl, V9, hY, hG9⟩
    have hDl := (HSB.out D HSD.out).2
    have hnD : ¬ V D := fun e => (HV.out D e).2 HSD.out
    obtain ⟨hD9, hnD9⟩ := hG9.stays hDl hnD
    obtain ⟨va, vc, hbk, -⟩ := call_fin (fun j hj => HU.out j hj) HB2.out (by omega) hY (HG.out.trans hG9)
    have v0 := cell1 hbk
    have hs9 := hG9.size
    have hoth : ∀ j, j ≠ D → (w9.putObj D (.deferred none)).heap[j]? = w9.heap[j]? := fun j hj => World.putObj_heap_other hj
    have hDX : w2.heap.size < D := by rw [hszX] at hD; omega
    have hY2 : AskE (w9.putObj D (.deferred none)) V9 k bs bo ob (onX k.d.steps k.rs now (List.foldl (tkX k.d.steps now) (S, []) (waysD k.d.steps.length))) := hY.moved (by simp) (fun j hj _ => hoth j (by omega)) (fun j hj _ => hoth j (fun e => hnD9 (e ▸ hj))) (hoth bs (by omega)) (hoth bo (by omega))
    have hG2 : Grow (fun j => U j ∨ j = ob) V9 w2 (w9.putObj D (.deferred none)) := by
      have h := HG.out.trans hG9
      exact ⟨⟨⟨h.chg.low.os, h.chg.low.tape, h.chg.low.output, by simpa using h.chg.low.size, fun i hi => absurd hi (Nat.not_lt_zero i)⟩, fun j hj hU => (hoth j (by omega)).trans (h.chg.block j hj hU)⟩, h.new, h.old⟩
    obtain ⟨va2, vc2, hbk2, hC⟩ := call_fin (fun j hj => HU.out j hj) HB2.out (by omega) hY2 hG2
    rw [hoth ob (by omega), hbk] at hbk2
    simp only [Option.some.injEq, Obj.cells.injEq, Array.mk.injEq, List.cons.injEq, Value.slice.injEq, and_true, true_and] at hbk2
    obtain ⟨rfl, rfl⟩ := hbk2
    have HC := Lib.hid hC
    have HKD9 := Lib.hid (hD9.trans HKD.out)
    clear hY hG9 hbk hY2 hG2 hC hoth hD9 hnD9 hnD s0 n0 p0
    gi_wp2_with fail
    refine ⟨by simp, .inl ⟨_, _, rfl, run_takeDeferred HKD9.out, ?_⟩⟩
    exact ⟨_, results_tmp rfl _ _ _, _, rfl, by rw [HR.out]; exact HC.out⟩
  case body =>
    rintro l S' pre ⟨i, u⟩ a' W hS hw hSl - ⟨V, hA, hG, hV, hSw⟩ ⟨b, rfl, hb⟩ hpre
    dsimp only
    have hmem : ((i, u) : WayD) ∈ waysD k.d.steps.length := hpre.subset (by simp)
    have hpl := hpre.length_le
    rw [waysD_len, List.length_append, List.length_singleton] at hpl
    obtain ⟨jn, rfl, hjl⟩ : ∃ jn : Nat, i = (jn : Int) ∧ jn < k.d.steps.length := by
      unfold waysD at hmem
      simp only [List.mem_append, List.mem_map, List.mem_range, Prod.mk.injEq] at hmem
      rcases hmem with ⟨a, ha, rfl, _⟩ | ⟨a, ha, rfl, _⟩ <;> exact ⟨a, rfl, ha⟩
    obtain ⟨hf1, hf2, hf3⟩ := tksX_facts k.d.steps now pre (S, [])
    dsimp only at hf1 hf2 hf3
    have hdl := HGD.out.dl
    have hsnoc : (pre ++ [((jn : Int), u)]).foldl (tkX k.d.steps now) (S, []) = tkX k.d.steps now (pre.foldl (tkX k.d.steps now) (S, [])) ((jn : Int), u) := by rw [List.foldl_append]; rfl
    have s0 := cell1 ((hG.chg.block w.heap.size (by omega) (fun e => e.elim (fun e => by have := HU.out _ e; omega) (fun e => by omega))).trans HL0.out)
    have n0 := cell1 ((hG.chg.block (w.heap.size + 1) (by omega) (fun e => e.elim (fun e => by have := HU.out _ e; omega) (fun e => by omega))).trans HL1.out)
    have hp0 := (hG.chg.block eP (by omega) (fun e => e.elim (fun e => by have := HU.out _ e; omega) (fun e => by omega))).trans HL2.out
    generalize hYY : pre.foldl (tkX k.d.steps now) (S, []) = Y at *
    obtain ⟨q0, q1, q2, q3, hq⟩ : ∃ q0 q1 q2 q3, Y.1.runs ((jn : Int), u) = (q0, q1, q2, q3) := ⟨_, _, _, _, rfl⟩
    obtain ⟨ar, har⟩ : ∃ ar, ar = tickR k.d.steps[jn] (q0, q1, q2, q3) now := ⟨_, rfl⟩
    have htk : tkX k.d.steps now Y ((jn : Int), u) = if ar.2 then putX Y ((jn : Int), u) ar.1 else Y := by
      unfold tkX
      simp only [Int.toNat_natCast, List.getElem?_eq_getElem hjl, Option.getD_some]
      rw [hq, ← har]
    have HTX : Hid ((pre ++ [((jn : Int), u)]).foldl (tkX k.d.steps now) (S, []) = if ar.2 then putX Y ((jn : Int), u) ar.1 else Y) := Lib.hid (hsnoc.trans htk)
    obtain ⟨da, dc, ua, uc, va, vc, hA'⟩ := hA
    obtain ⟨-, -, x2, -, x4, -, -, -⟩ := hA'.sag.cells
    obtain ⟨y0, y1, -, -⟩ := cells2 hb
    obtain ⟨g, off, cap, aa, ac, ka, kc, ba, bc, he, -, -, -, hat⟩ := hA'.sag.df.now.steps.at hjl
    rw [he] at x2
    have hsc : cap = k.sc := by injection he with _ _ e3; exact e3.symm
    subst hsc
    obtain ⟨t0, t1, t2, t3, t4, t5, t6, t7, t8, t9, t10, t11, t12⟩ := hat
    have HLK : Hid (∀ W', Below W.heap.size W W' → (Instr.lookup 89 (.map (some k.m)) (.agg #[.int .i64 (jn : Int), .bool u]) false).run Tryz.prog W' = .ok (.agg #[.int .u8 q0, .int .i64 q1, .int .i64 q2, .bool q3]) W') := Lib.hid (fun W' hb => by
      have := (hA'.sag.below hb).look (k := ((jn : Int), u)) (by unfold I64w; dsimp only; omega)
      rw [hq] at this
      exact this)
    have HTK : Hid (∀ W', Calls Tryz.prog 67 #[.agg #[.int .u8 q0, .int .i64 q1, .int .i64 q2, .bool q3], .agg #[.string k.d.steps[jn].name, .string k.d.steps[jn].action, .string k.d.steps[jn].undo, .slice aa k.d.steps[jn].after.length ac, .int .i64 k.d.steps[jn].most, .int .i64 k.d.steps[jn].first, .int .i64 k.d.steps[jn].factor, .int .i64 k.d.steps[jn].limit, .int .u8 (k.d.steps[jn].note.kind : Int), .string k.d.steps[jn].note.text, .slice ka k.d.steps[jn].note.keys.length kc, .slice ba k.d.steps[jn].note.kids.length bc, .int .i64 k.d.steps[jn].note.line], .int .i64 now] W' fun e w' => e = .returned (.tuple #[.agg #[.int .u8 ar.1.1, .int .i64 ar.1.2.1, .int .i64 ar.1.2.2.1, .bool ar.1.2.2.2], .bool ar.2]) ∧ Below W'.heap.size W' w') := Lib.hid (fun W' => by
      rw [har]
      exact Tick_any (s0 := k.d.steps[jn].name) (s1 := k.d.steps[jn].action) (s2 := k.d.steps[jn].undo) (af := aa) (an := k.d.steps[jn].after.length) (ac := ac) (m := k.d.steps[jn].most) (f := k.d.steps[jn].first) (k := k.d.steps[jn].factor) (l := k.d.steps[jn].limit) (nk := (k.d.steps[jn].note.kind : Int)) (nt := k.d.steps[jn].note.text) (ka := ka) (kn := k.d.steps[jn].note.keys.length) (kc := kc) (da := ba) (dn := k.d.steps[jn].note.kids.length) (dc := bc) (nl := k.d.steps[jn].note.line) q0 q1 q2 q3 now W')
    have hjn0 : (0 : Int) ≤ (jn : Int) := by omega
    have hjn1 : (jn : Int) < (k.d.steps.length : Int) := by omega
    have HA := Lib.hid (show AskE W V k bs bo ob Y from ⟨da, dc, ua, uc, va, vc, hA'⟩)
    have HG := Lib.hid hG
    have HV := Lib.hid hV
    have HSW := Lib.hid hSw
    have HSB := Lib.hid hS
    have HB := Lib.hid hb
    have HP0 := Lib.hid hp0
    have HMEM := Lib.hid hmem
    have HYL : Hid (Y.1.done.length ≤ 30 ∧ Y.2.length ≤ 60) := Lib.hid ⟨by rw [hf1]; omega, by simp only [List.length_nil] at hf3; omega⟩
    clear hA' hG hV hSw hS hb hp0 hsnoc htk hq har hmem hpre hf1 hf2 hf3 hYY hpl
    gi_upto_region 6 with fail
    gi_cut [8, 9] from 21 (fun s8 s9 wx => ∃ R, s8 = .pointer (some ⟨R, 0, none⟩) ∧ s9 = .bool ar.2 ∧ wx.heap[R]? = some (.cells #[.int .u8 ar.1.1, .int .i64 ar.1.2.1, .int .i64 ar.1.2.2.1, .bool ar.1.2.2.2] 100 (0, 0)) ∧ Below W.heap.size W wx)
    case first =>
      refine E_regionR (S := (fun W => W.cell? ⟨w.heap.size, 0, none⟩ = some (.pointer (some ⟨k.p, 0, none⟩)) ∧ W.cell? ⟨k.p, 4, none⟩ = some (.map (some k.m)) ∧ W.cell? ⟨k.p, 2, none⟩ = some (.slice (some ⟨g, off, none⟩) k.d.steps.length k.sc) ∧ W.cell? ⟨b, 0, none⟩ = some (.int .i64 (jn : Int)) ∧ W.cell? ⟨b, 1, none⟩ = some (.bool u) ∧ W.cell? ⟨(w.heap.size + 1), 0, none⟩ = some (.int .i64 now) ∧ W.cell? ⟨g, off + jn * 13, none⟩ = some (.string k.d.steps[jn].name) ∧ W.cell? ⟨g, off + jn * 13 + 1, none⟩ = some (.string k.d.steps[jn].action) ∧ W.cell? ⟨g, off + jn * 13 + 2, none⟩ = some (.string k.d.steps[jn].undo) ∧ W.cell? ⟨g, off + jn * 13 + 3, none⟩ = some (.slice aa k.d.steps[jn].after.length ac) ∧ W.cell? ⟨g, off + jn * 13 + 4, none⟩ = some (.int .i64 k.d.steps[jn].most) ∧ W.cell? ⟨g, off + jn * 13 + 5, none⟩ = some (.int .i64 k.d.steps[jn].first) ∧ W.cell? ⟨g, off + jn * 13 + 6, none⟩ = some (.int .i64 k.d.steps[jn].factor) ∧ W.cell? ⟨g, off + jn * 13 + 7, none⟩ = some (.int .i64 k.d.steps[jn].limit) ∧ W.cell? ⟨g, off + jn * 13 + 8, none⟩ = some (.int .u8 (k.d.steps[jn].note.kind : Int)) ∧ W.cell? ⟨g, off + jn * 13 + 9, none⟩ = some (.string k.d.steps[jn].note.text) ∧ W.cell? ⟨g, off + jn * 13 + 10, none⟩ = some (.slice ka k.d.steps[jn].note.keys.length kc) ∧ W.cell? ⟨g, off + jn * 13 + 11, none⟩ = some (.slice ba k.d.steps[jn].note.kids.length bc) ∧ W.cell? ⟨g, off + jn * 13 + 12, none⟩ = some (.int .i64 k.d.steps[jn].note.line) ∧ (Instr.lookup 89 (.map (some k.m)) (.agg #[.int .i64 (jn : Int), .bool u]) false).run Tryz.prog W = .ok (.agg #[.int .u8 q0, .int .i64 q1, .int .i64 q2, .bool q3]) W)) 21 (by kernel_rfl) (by kernel_rfl) ⟨s0, x4, x2, y0, y1, n0, t0, t1, t2, t3, t4, t5, t6, t7, t8, t9, t10, t11, t12, HLK.out _ (Below.refl _ _).drew⟩ (fun Q' hQ hK' hHeld => ?_)
      refine E_take hQ hHeld 0 (v := ?vd1) rfl rfl (by kernel_rfl) (by kernel_rfl) (by kernel_rfl) (by kernel_rfl) (by kernel_rfl) (by rfl) ?yd1 ?rd1
      case yd1 => (intro w hSw; (try dsimp only at hSw); go_simp; (try with_reducible rfl))
      (try simp only [layE])
      refine E_take0 hQ (fun _ => hHeld) 1 (v := ?vd2) rfl rfl (by kernel_rfl) (by kernel_rfl) (by kernel_rfl) (by decide) (by rfl) ?yd2 ?rd2
      case yd2 => (intro w; go_simp; (try with_reducible rfl))
      (try simp only [layE])
      refine E_take0 hQ (fun _ => hHeld) 2 (v := ?vd3) rfl rfl (by kernel_rfl) (by kernel_rfl) (by kernel_rfl) (by decide) (by rfl) ?yd3 ?rd3
      case yd3 => (intro w; go_simp; (try with_reducible rfl))
      (try simp only [layE])
      refine E_take hQ hHeld 3 (v := ?vd4) rfl rfl (by kernel_rfl) (by kernel_rfl) (by kernel_rfl) (by kernel_rfl) (by kernel_rfl) (by rfl) ?yd4 ?rd4
      case yd4 => (intro w hSw; (try dsimp only at hSw); go_simp; (try with_reducible rfl))
      (try simp only [layE])
      refine E_take hQ hHeld 4 (v := ?vd5) rfl rfl (by kernel_rfl) (by kernel_rfl) (by kernel_rfl) (by kernel_rfl) (by kernel_rfl) (by rfl) ?yd5 ?rd5
      case yd5 => (intro w hSw; (try dsimp only at hSw); go_simp; (try with_reducible rfl))
      (try simp only [layE])
      refine E_take hQ hHeld 5 (v := ?vd6) rfl rfl (by kernel_rfl) (by kernel_rfl) (by kernel_rfl) (by kernel_rfl) (by kernel_rfl) (by rfl) ?yd6 ?rd6
      case yd6 => (intro w hSw; (try dsimp only at hSw); go_simp; (try with_reducible rfl))
      (try simp only [layE])
      refine E_takeP hQ hHeld [16, 14, 13, 10, 9, 8, 7] 6 (v := ?vd7) rfl rfl (by kernel_rfl) (by kernel_rfl) (by kernel_rfl) (by kernel_rfl) (by kernel_rfl) (by rfl) ?yd7 ?rd7
      case yd7 => (intro w hSw; (try dsimp only at hSw); go_simp; (try with_reducible rfl))
      (try simp only [layE])
      refine E_take0 hQ (fun _ => hHeld) 7 (v := ?vd8) rfl rfl (by kernel_rfl) (by kernel_rfl) (by kernel_rfl) (by decide) (by rfl) ?yd8 ?rd8
      case yd8 => (intro w; go_simp; (try with_reducible rfl))
      (try simp only [layE])
      refine E_take0 hQ (fun _ => hHeld) 8 (v := ?vd9) rfl rfl (by kernel_rfl) (by kernel_rfl) (by kernel_rfl) (by decide) (by rfl) ?yd9 ?rd9
      case yd9 => (intro w; go_simp; (try with_reducible rfl))
      (try simp only [layE])
      refine E_take0 hQ (fun _ => hHeld) 9 (v := ?vd10) rfl rfl (by kernel_rfl) (by kernel_rfl) (by kernel_rfl) (by decide) (by rfl) ?yd10 ?rd10
      case yd10 => (intro w; go_simp; (try with_reducible rfl))
      (try simp only [layE])
      refine E_take hQ hHeld 10 (v := ?vd11) rfl rfl (by kernel_rfl) (by kernel_rfl) (by kernel_rfl) (by kernel_rfl) (by kernel_rfl) (by rfl) ?yd11 ?rd11
      case yd11 => (intro w hSw; (try dsimp only at hSw); go_simp; (try with_reducible rfl))
      (try simp only [layE])
      refine E_take0 hQ (fun _ => hHeld) 11 (v := ?vd12) rfl rfl (by kernel_rfl) (by kernel_rfl) (by kernel_rfl) (by decide) (by rfl) ?yd12 ?rd12
      case yd12 => (intro w; go_simp; (try with_reducible rfl))
      (try simp only [layE])
      refine E_take hQ hHeld 12 (v := ?vd13) rfl rfl (by kernel_rfl) (by kernel_rfl) (by kernel_rfl) (by kernel_rfl) (by kernel_rfl) (by rfl) ?yd13 ?rd13
      case yd13 => (intro w hSw; (try dsimp only at hSw); go_simp; (try with_reducible rfl))
      (try simp only [layE])
      refine E_take0 hQ (fun _ => hHeld) 13 (v := ?vd14) rfl rfl (by kernel_rfl) (by kernel_rfl) (by kernel_rfl) (by decide) (by rfl) ?yd14 ?rd14
      case yd14 => (intro w; go_simp; (try with_reducible rfl))
      (try simp only [layE])
      refine E_take hQ hHeld 14 (v := ?vd15) rfl rfl (by kernel_rfl) (by kernel_rfl) (by kernel_rfl) (by kernel_rfl) (by kernel_rfl) (by rfl) ?yd15 ?rd15
      case yd15 => (intro w hSw; (try dsimp only at hSw); go_simp; (try with_reducible rfl))
      (try simp only [layE])
      refine E_take hQ hHeld 15 (v := ?vd16) rfl rfl (by kernel_rfl) (by kernel_rfl) (by kernel_rfl) (by kernel_rfl) (by kernel_rfl) (by rfl) ?yd16 ?rd16
      case yd16 => (intro w hSw; (try dsimp only at hSw); go_simp; (try with_reducible rfl))
      (try simp only [layE])
      refine E_twoS 16 20 (by kernel_rfl) rfl rfl (by rfl) (by rfl) (fun K hK => ?_) (fun K hK => ?_)
      · skip
        go_simp
        refine (HTK.out _).mono ?_
        rintro e v1 ⟨rfl, hbv1⟩
        have hbv1 : Below W.heap.size W v1 := bthen (Below.refl W.heap.size W).drew (Nat.le_refl _) hbv1
        (skip)
        refine hK.out _ _ (fun _ _ => ⟨cellB hbv1 hHeld.1, cellB hbv1 hHeld.2.1, cellB hbv1 hHeld.2.2.1, cellB hbv1 hHeld.2.2.2.1, cellB hbv1 hHeld.2.2.2.2.1, cellB hbv1 hHeld.2.2.2.2.2.1, cellB hbv1 hHeld.2.2.2.2.2.2.1, cellB hbv1 hHeld.2.2.2.2.2.2.2.1, cellB hbv1 hHeld.2.2.2.2.2.2.2.2.1, cellB hbv1 hHeld.2.2.2.2.2.2.2.2.2.1, cellB hbv1 hHeld.2.2.2.2.2.2.2.2.2.2.1, cellB hbv1 hHeld.2.2.2.2.2.2.2.2.2.2.2.1, cellB hbv1 hHeld.2.2.2.2.2.2.2.2.2.2.2.2.1, cellB hbv1 hHeld.2.2.2.2.2.2.2.2.2.2.2.2.2.1, cellB hbv1 hHeld.2.2.2.2.2.2.2.2.2.2.2.2.2.2.1, cellB hbv1 hHeld.2.2.2.2.2.2.2.2.2.2.2.2.2.2.2.1, cellB hbv1 hHeld.2.2.2.2.2.2.2.2.2.2.2.2.2.2.2.2.1, cellB hbv1 hHeld.2.2.2.2.2.2.2.2.2.2.2.2.2.2.2.2.2.1, cellB hbv1 hHeld.2.2.2.2.2.2.2.2.2.2.2.2.2.2.2.2.2.2.1, HLK.out _ hbv1⟩) (fun hHeld' => ?_)
        replace hHeld := hHeld' (by rfl) (by decide)
        clear hK hHeld'
        (try simp only [layE])
        refine E_take0 hQ (fun _ => hHeld) 17 (v := ?vd17) rfl rfl (by kernel_rfl) (by kernel_rfl) (by kernel_rfl) (by decide) (by rfl) ?yd17 ?rd17
        case yd17 => (intro w; go_simp; (try with_reducible rfl))
        (try simp only [layE])
        refine E_take0 hQ (fun _ => hHeld) 18 (v := ?vd18) rfl rfl (by kernel_rfl) (by kernel_rfl) (by kernel_rfl) (by decide) (by rfl) ?yd18 ?rd18
        case yd18 => (intro w; go_simp; (try with_reducible rfl))
        (try simp only [layE])
        refine E_take0 hQ (fun _ => hHeld) 19 (v := ?vd19) rfl rfl (by kernel_rfl) (by kernel_rfl) (by kernel_rfl) (by decide) (by rfl) ?yd19 ?rd19
        case yd19 => (intro w; go_simp; (try with_reducible rfl))
        (try simp only [layE])
        refine E_one 20 (by kernel_rfl) rfl (by rfl) (fun K hK => ?_)
        go_simp
        have hbv2 : Below v1.heap.size v1 (v1.alloc (.cells #[.int .u8 0, .int .i64 0, .int .i64 0, .bool false] 100)) := (Below.refl _ v1).alloc (Nat.le_refl _) _
        have hn := World.alloc_heap_new v1 (.cells #[.int .u8 0, .int .i64 0, .int .i64 0, .bool false] 100)
        generalize v1.alloc (.cells #[.int .u8 0, .int .i64 0, .int .i64 0, .bool false] 100) = v2 at *
        (try simp only [layE])
        refine hK.out _ _ (fun _ _ => ⟨cellB hbv2 hHeld.1, cellB hbv2 hHeld.2.1, cellB hbv2 hHeld.2.2.1, cellB hbv2 hHeld.2.2.2.1, cellB hbv2 hHeld.2.2.2.2.1, cellB hbv2 hHeld.2.2.2.2.2.1, cellB hbv2 hHeld.2.2.2.2.2.2.1, cellB hbv2 hHeld.2.2.2.2.2.2.2.1, cellB hbv2 hHeld.2.2.2.2.2.2.2.2.1, cellB hbv2 hHeld.2.2.2.2.2.2.2.2.2.1, cellB hbv2 hHeld.2.2.2.2.2.2.2.2.2.2.1, cellB hbv2 hHeld.2.2.2.2.2.2.2.2.2.2.2.1, cellB hbv2 hHeld.2.2.2.2.2.2.2.2.2.2.2.2.1, cellB hbv2 hHeld.2.2.2.2.2.2.2.2.2.2.2.2.2.1, cellB hbv2 hHeld.2.2.2.2.2.2.2.2.2.2.2.2.2.2.1, cellB hbv2 hHeld.2.2.2.2.2.2.2.2.2.2.2.2.2.2.2.1, cellB hbv2 hHeld.2.2.2.2.2.2.2.2.2.2.2.2.2.2.2.2.1, cellB hbv2 hHeld.2.2.2.2.2.2.2.2.2.2.2.2.2.2.2.2.2.1, cellB hbv2 hHeld.2.2.2.2.2.2.2.2.2.2.2.2.2.2.2.2.2.2.1, HLK.out _ (bthen hbv1 (Nat.le_refl _) hbv2)⟩) (fun hHeld' => ?_)
        replace hHeld := hHeld' (by rfl) (by decide)
        clear hK hHeld'
        (try simp only [layE])
        refine E_one 21 (by kernel_rfl) rfl (by rfl) (fun K hK => ?_)
        obtain ⟨c0, c1, c2, c3, f0, f1, f2, f3⟩ := cells4h hn
        go_simp
        (try simp only [layE])
        refine hK.out _ _ (fun _ h => absurd rfl h) (fun _ => ?_)
        clear hK hHeld
        (try simp only [layE])
        refine E_take0 hQ (fun h => absurd h (by decide)) 22 (v := ?vd20) rfl rfl (by kernel_rfl) (by kernel_rfl) (by kernel_rfl) (by decide) (by rfl) ?yd20 ?rd20
        case yd20 => (intro w; go_simp; (try with_reducible rfl))
        (try simp only [layE])
        refine E_done (by kernel_rfl) ?_ _
        refine hK'.out _ _ ?_
        have hfin : Below W.heap.size W v2 := bthen hbv1 (Nat.le_refl _) hbv2
        have hset := set4 (.int .u8 ar.1.1) (.int .i64 ar.1.2.1) (.int .i64 ar.1.2.2.1) (.bool ar.1.2.2.2) hn
        clear hK' hQ
        gi_wp2_with fail
        gi_meet
        exact ⟨v1.heap.size, rfl, rfl, hset, bset (bset (bset (bset hfin hbv1.size) hbv1.size) hbv1.size) hbv1.size⟩
      · skip
        go_simp
        have hbv1 : Below W.heap.size W ((W.alloc (.cells #[.int .u8 0, .int .i64 0, .int .i64 0, .bool false] 100)).drew) := ((Below.refl _ W).alloc (Nat.le_refl _) _).drew
        have hn : ((W.alloc (.cells #[.int .u8 0, .int .i64 0, .int .i64 0, .bool false] 100)).drew).heap[W.heap.size]? = some (.cells #[.int .u8 0, .int .i64 0, .int .i64 0, .bool false] 100 (0, 0)) := World.alloc_heap_new W _
        generalize (W.alloc (.cells #[.int .u8 0, .int .i64 0, .int .i64 0, .bool false] 100)).drew = v1 at *
        (try simp only [layE])
        refine hK.out _ _ (fun _ _ => ⟨cellB hbv1 hHeld.1, cellB hbv1 hHeld.2.1, cellB hbv1 hHeld.2.2.1, cellB hbv1 hHeld.2.2.2.1, cellB hbv1 hHeld.2.2.2.2.1, cellB hbv1 hHeld.2.2.2.2.2.1, cellB hbv1 hHeld.2.2.2.2.2.2.1, cellB hbv1 hHeld.2.2.2.2.2.2.2.1, cellB hbv1 hHeld.2.2.2.2.2.2.2.2.1, cellB hbv1 hHeld.2.2.2.2.2.2.2.2.2.1, cellB hbv1 hHeld.2.2.2.2.2.2.2.2.2.2.1, cellB hbv1 hHeld.2.2.2.2.2.2.2.2.2.2.2.1, cellB hbv1 hHeld.2.2.2.2.2.2.2.2.2.2.2.2.1, cellB hbv1 hHeld.2.2.2.2.2.2.2.2.2.2.2.2.2.1, cellB hbv1 hHeld.2.2.2.2.2.2.2.2.2.2.2.2.2.2.1, cellB hbv1 hHeld.2.2.2.2.2.2.2.2.2.2.2.2.2.2.2.1, cellB hbv1 hHeld.2.2.2.2.2.2.2.2.2.2.2.2.2.2.2.2.1, cellB hbv1 hHeld.2.2.2.2.2.2.2.2.2.2.2.2.2.2.2.2.2.1, cellB hbv1 hHeld.2.2.2.2.2.2.2.2.2.2.2.2.2.2.2.2.2.2.1, HLK.out _ hbv1⟩) (fun hHeld' => ?_)
        replace hHeld := hHeld' (by rfl) (by decide)
        clear hK hHeld'
        (try simp only [layE])
        refine E_one 16 (by kernel_rfl) rfl (by rfl) (fun K hK => ?_)
        go_simp
        refine (HTK.out _).mono ?_
        rintro e v2 ⟨rfl, hbv2⟩
        (skip)
        refine hK.out _ _ (fun _ _ => ⟨cellB hbv2 hHeld.1, cellB hbv2 hHeld.2.1, cellB hbv2 hHeld.2.2.1, cellB hbv2 hHeld.2.2.2.1, cellB hbv2 hHeld.2.2.2.2.1, cellB hbv2 hHeld.2.2.2.2.2.1, cellB hbv2 hHeld.2.2.2.2.2.2.1, cellB hbv2 hHeld.2.2.2.2.2.2.2.1, cellB hbv2 hHeld.2.2.2.2.2.2.2.2.1, cellB hbv2 hHeld.2.2.2.2.2.2.2.2.2.1, cellB hbv2 hHeld.2.2.2.2.2.2.2.2.2.2.1, cellB hbv2 hHeld.2.2.2.2.2.2.2.2.2.2.2.1, cellB hbv2 hHeld.2.2.2.2.2.2.2.2.2.2.2.2.1, cellB hbv2 hHeld.2.2.2.2.2.2.2.2.2.2.2.2.2.1, cellB hbv2 hHeld.2.2.2.2.2.2.2.2.2.2.2.2.2.2.1, cellB hbv2 hHeld.2.2.2.2.2.2.2.2.2.2.2.2.2.2.2.1, cellB hbv2 hHeld.2.2.2.2.2.2.2.2.2.2.2.2.2.2.2.2.1, cellB hbv2 hHeld.2.2.2.2.2.2.2.2.2.2.2.2.2.2.2.2.2.1, cellB hbv2 hHeld.2.2.2.2.2.2.2.2.2.2.2.2.2.2.2.2.2.2.1, HLK.out _ (bthen hbv1 (Nat.le_refl _) hbv2)⟩) (fun hHeld' => ?_)
        replace hHeld := hHeld' (by rfl) (by decide)
        clear hK hHeld'
        (try simp only [layE])
        refine E_take0 hQ (fun _ => hHeld) 17 (v := ?vd21) rfl rfl (by kernel_rfl) (by kernel_rfl) (by kernel_rfl) (by decide) (by rfl) ?yd21 ?rd21
        case yd21 => (intro w; go_simp; (try with_reducible rfl))
        (try simp only [layE])
        refine E_take0 hQ (fun _ => hHeld) 18 (v := ?vd22) rfl rfl (by kernel_rfl) (by kernel_rfl) (by kernel_rfl) (by decide) (by rfl) ?yd22 ?rd22
        case yd22 => (intro w; go_simp; (try with_reducible rfl))
        (try simp only [layE])
        refine E_take0 hQ (fun _ => hHeld) 19 (v := ?vd23) rfl rfl (by kernel_rfl) (by kernel_rfl) (by kernel_rfl) (by decide) (by rfl) ?yd23 ?rd23
        case yd23 => (intro w; go_simp; (try with_reducible rfl))
        (try simp only [layE])
        refine E_one 21 (by kernel_rfl) rfl (by rfl) (fun K hK => ?_)
        have hn := (hbv2.block _ (Array.getElem?_eq_some_iff.1 hn).1).trans hn
        obtain ⟨c0, c1, c2, c3, f0, f1, f2, f3⟩ := cells4h hn
        go_simp
        (try simp only [layE])
        refine hK.out _ _ (fun _ h => absurd rfl h) (fun _ => ?_)
        clear hK hHeld
        (try simp only [layE])
        refine E_take0 hQ (fun h => absurd h (by decide)) 22 (v := ?vd24) rfl rfl (by kernel_rfl) (by kernel_rfl) (by kernel_rfl) (by decide) (by rfl) ?yd24 ?rd24
        case yd24 => (intro w; go_simp; (try with_reducible rfl))
        (try simp only [layE])
        refine E_done (by kernel_rfl) ?_ _
        refine hK'.out _ _ ?_
        have hfin : Below W.heap.size W v2 := bthen hbv1 (Nat.le_refl _) hbv2
        have hset := set4 (.int .u8 ar.1.1) (.int .i64 ar.1.2.1) (.int .i64 ar.1.2.2.1) (.bool ar.1.2.2.2) hn
        clear hK' hQ
        gi_wp2_with fail
        gi_meet
        exact ⟨W.heap.size, rfl, rfl, hset, bset (bset (bset (bset hfin (Nat.le_refl _)) (Nat.le_refl _)) (Nat.le_refl _)) (Nat.le_refl _)⟩
    case rest =>
      obtain ⟨R, rfl, rfl, hR, hbx⟩ := hcut
      rename World => w4
      have HA4 := Lib.hid (HA.out.below hbx)
      have HG4 := Lib.hid (HG.out.trans (Grow.of_chg (Chg.of_below hbx)))
      have HB4 := Lib.hid ((hbx.block _ (Array.getElem?_eq_some_iff.1 HB.out).1).trans HB.out)
      have HP4 := Lib.hid ((hbx.block _ (Array.getElem?_eq_some_iff.1 HP0.out).1).trans HP0.out)
      have HR4 := Lib.hid hR
      have HX4 := Lib.hid hbx
      have hs4 := hbx.size
      clear hR hbx s0 n0 x4 x2 y0 y1 t0 t1 t2 t3 t4 t5 t6 t7 t8 t9 t10 t11 t12 HA HG HB HP0 HLK HTK
      rcases hb2 : ar.2 with _ | _
      · have HE : Hid ((pre ++ [((jn : Int), u)]).foldl (tkX k.d.steps now) (S, []) = Y) := Lib.hid (by rw [HTX.out, hb2]; rfl)
        gi_wp2_with fail
        exact ⟨⟨V, by rw [HE.out]; exact HA4.out, HG4.out, fun j hj => ⟨Nat.lt_of_lt_of_le (HV.out j hj).1 hs4, (HV.out j hj).2⟩, HSW.out⟩, ⟨HX4.out.mono (Nat.zero_le _), fun j hj => HX4.out.block j (HSB.out j hj).2⟩⟩
      · have HE : Hid ((pre ++ [((jn : Int), u)]).foldl (tkX k.d.steps now) (S, []) = putX Y ((jn : Int), u) ar.1) := Lib.hid (by rw [HTX.out, hb2]; rfl)
        obtain ⟨y0, y1, -, -⟩ := cells2 HB4.out
        obtain ⟨c0, c1, c2, c3, -⟩ := cells4h HR4.out
        have p0 := cell1 HP4.out
        obtain ⟨da1, dc1, ua1, uc1, va1, vc1, hA1⟩ := HA4.out
        have HA5 := Lib.hid hA1
        clear hA1
        gi_wp2_with fail
        refine (callsIn_wide.2 (sagPut_any (jn : Int) u ar.1.1 ar.1.2.1 ar.1.2.2.1 ar.1.2.2.2 Y w4 V k.p k.m k.sa k.sc k.vr k.d k.rs k.N bs bo ob da1 dc1 ua1 uc1 va1 vc1 HA5.out HMEM.out (by omega) (by have := HYL.out.1; omega) (by have := HYL.out.2; omega))).mono ?_
        rintro e w6 ⟨rfl, V6, hY6, hG6⟩
        have hs6 := hG6.size
        have hnew : ∀ j, V6 j → j < w6.heap.size → ¬ S' j := fun j hj hl e => (hG6.new j hj).elim (fun e2 => (HV.out j e2).2 e) (fun e2 => by have := (HSB.out j e).2; omega)
        have hJ : TkJ k.d.steps now S (fun j => U j ∨ j = ob) w2 k bs bo ob S' (pre ++ [((jn : Int), u)]) w6 := by
          refine ⟨fun j => V6 j ∧ j < w6.heap.size, by rw [HE.out]; exact hY6.trim, ?_, fun j hj => ⟨hj.2, hnew j hj.1 hj.2⟩, HSW.out⟩
          have h := HG4.out.trans hG6
          exact ⟨h.chg, fun j hj => h.new j hj.1, fun j hj => ⟨h.old j hj, by have := hU1 j hj; have := HG4.out.size; omega⟩⟩
        have HJ := Lib.hid hJ
        have HK : Hid (Keep 0 S' W w6) := Lib.hid ⟨⟨hG6.chg.low.os.trans HX4.out.os, hG6.chg.low.tape.trans HX4.out.tape, hG6.chg.low.output.trans HX4.out.output, Nat.le_trans hs4 hs6, fun i hi => absurd hi (Nat.not_lt_zero i)⟩, fun j hj => (hG6.chg.block j (by have := (HSB.out j hj).2; omega) (fun e => (HV.out j e).2 hj)).trans (HX4.out.block j (HSB.out j hj).2)⟩
        clear hJ hnew hY6 hG6
        gi_wp2_with fail
        exact ⟨HJ.out, HK.out⟩
end Go.Proofs.YtgfiogjfgbegpaaGreat
