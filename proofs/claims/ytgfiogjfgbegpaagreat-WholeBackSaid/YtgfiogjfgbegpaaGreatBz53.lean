/-
  A saga of one step is that step: the plain law.
-/
import Derived.Test.YtgfiogjfgbegpaaGreatBz4
import Derived.Test.YtgfiogjfgbegpaaGreatBz5
import Derived.Test.YtgfiogjfgbegpaaGreatBz9
import Derived.Test.YtgfiogjfgbegpaaGreatBz10
import Derived.Test.YtgfiogjfgbegpaaGreatBz17
import Derived.Test.YtgfiogjfgbegpaaGreatBz27
import Derived.Test.YtgfiogjfgbegpaaGreatBz37
import Derived.Test.YtgfiogjfgbegpaaGreatBz49
import Derived.Test.YtgfiogjfgbegpaaGreatBz50
import Derived.Test.YtgfiogjfgbegpaaGreatBz51
import Derived.Test.YtgfiogjfgbegpaaGreatBz52
namespace Go.Proofs.YtgfiogjfgbegpaaGreat
open Go Go.RowKit

structure OneR (S : SagD) (r : RunD) : Prop where
  run : S.runs (0, false) = r
  und : S.runs (0, true) = idleR
  done : S.done = if r.1 = 3 then [0] else []
  undone : S.undone = []
  st : S.status = if r.1 = 3 then 3 else if r.1 = 4 then 4 else 1
  ph : r.1 = 1 ∨ r.1 = 2 ∨ r.1 = 3 ∨ r.1 = 4
theorem inc_zero : inc 0 = 1 := by decide +kernel
end Go.Proofs.YtgfiogjfgbegpaaGreat

/-
  Sagas: Tick: contract.
-/
namespace Go.Proofs.YtgfiogjfgbegpaaGreat
open Go Go.RowKit Go.Maps Go.WideShapes
attribute [local go_sem] Oper.semAt_some wide_fn wide_depth wide_fn' wide_depth'

theorem failT_ne (m f k l p t u : Int) (b : Bool) (now : Int) : (failT m f k l p t u b now).1 ≠ 3 := by
  unfold failT
  split
  · show (4 : Int) ≠ 3; decide
  · split
    · show (1 : Int) ≠ 3; decide
    · show (2 : Int) ≠ 3; decide
theorem tickR_ne {s : StepD} {r : RunD} {now : Int} (h : (tickR s r now).2 = true) : (tickR s r now).1.1 ≠ 3 := by
  unfold tickR tickT at h ⊢
  split
  · rename_i h1
    rw [if_pos h1] at h
    split
    · exact failT_ne s.most s.first s.factor s.limit r.1 r.2.1 r.2.2.1 r.2.2.2 now
    · rename_i h2
      rw [if_neg h2] at h
      split
      · show (1 : Int) ≠ 3; decide
      · rename_i h3
        rw [if_neg h3] at h
        cases h
  · rename_i h1
    rw [if_neg h1] at h
    cases h
theorem tkX_done (l : List StepD) (now : Int) (X : AskX) (k : WayD) : (tkX l now X k).1.done = X.1.done := by
  unfold tkX
  dsimp only
  split
  · rename_i h
    exact putX_done _ _ _ (tickR_ne h)
  · rfl
theorem tkX_undone (l : List StepD) (now : Int) (X : AskX) (k : WayD) : (tkX l now X k).1.undone = X.1.undone := by
  unfold tkX
  dsimp only
  split
  · exact putX_undone _ _ _
  · rfl
theorem tkX_out (l : List StepD) (now : Int) (X : AskX) (k : WayD) : (tkX l now X k).2.length ≤ X.2.length + 1 := by
  unfold tkX
  dsimp only
  split
  · exact (putX_len _ _ _).1
  · omega
theorem tksX_facts (l : List StepD) (now : Int) : ∀ (ks : List WayD) (X : AskX), (ks.foldl (tkX l now) X).1.done = X.1.done ∧ (ks.foldl (tkX l now) X).1.undone = X.1.undone ∧ (ks.foldl (tkX l now) X).2.length ≤ X.2.length + ks.length
  | [], X => ⟨rfl, rfl, Nat.le_refl _⟩
  | k :: ks, X => by
    have := tksX_facts l now ks (tkX l now X k)
    rw [List.foldl_cons]
    refine ⟨this.1.trans (tkX_done l now X k), this.2.1.trans (tkX_undone l now X k), ?_⟩
    have h1 := this.2.2
    have h2 := tkX_out l now X k
    rw [List.length_cons]
    omega
theorem AskE.moved {w w' : World} {V : Nat → Prop} {k : SagK} {bs bo ob : Nat} {X : AskX} (h : AskE w V k bs bo ob X) (hs : w.heap.size ≤ w'.heap.size) (hN : ∀ j, j < k.N → ¬ V j → w'.heap[j]? = w.heap[j]?) (hV : ∀ j, V j → j < w.heap.size → w'.heap[j]? = w.heap[j]?) (hbs : w'.heap[bs]? = w.heap[bs]?) (hbo : w'.heap[bo]? = w.heap[bo]?) : AskE w' V k bs bo ob X := by
  obtain ⟨da, dc, ua, uc, va, vc, h⟩ := h
  obtain ⟨L, g, q1, q2⟩ := h.sag.map
  refine ⟨da, dc, ua, uc, va, vc, ⟨⟨(hV _ h.sag.ownp h.sag.ltp).trans h.sag.cell, h.sag.df.same hs hN, h.sag.refs.same hs hN, ⟨L, g, q1.block (hV _ h.sag.ownm q1.lt), q2⟩, ownsRow_keepB h.sag.done (fun g e => hV g (h.sag.ownd g e) (h.sag.done.lt g e).2), ownsRow_keepB h.sag.undone (fun g e => hV g (h.sag.ownu g e) (h.sag.undone.lt g e).2), h.sag.apart, h.sag.ownp, h.sag.ownm, h.sag.ownd, h.sag.ownu⟩, hbs.trans h.hbs, hbo.trans h.hbo, (hV _ h.uob (Array.getElem?_eq_some_iff.1 h.hob).1).trans h.hob, ownsRow_keepB h.row (fun g e => hV g (h.urow g e) (h.row.lt g e).2), h.nbs, h.nbo, h.uob, h.urow⟩⟩
theorem AskE.bound {w : World} {V : Nat → Prop} {k : SagK} {bs bo ob : Nat} {X : AskX} (h : AskE w V k bs bo ob X) : k.N ≤ w.heap.size ∧ bs < w.heap.size ∧ bo < w.heap.size ∧ ¬ V bs ∧ ¬ V bo := by
  obtain ⟨da, dc, ua, uc, va, vc, h⟩ := h
  exact ⟨h.sag.df.1, (Array.getElem?_eq_some_iff.1 h.hbs).1, (Array.getElem?_eq_some_iff.1 h.hbo).1, h.nbs, h.nbo⟩
theorem AskE.trim {w : World} {V : Nat → Prop} {k : SagK} {bs bo ob : Nat} {X : AskX} (h : AskE w V k bs bo ob X) : AskE w (fun j => V j ∧ j < w.heap.size) k bs bo ob X := by
  obtain ⟨da, dc, ua, uc, va, vc, h⟩ := h
  refine ⟨da, dc, ua, uc, va, vc, ⟨⟨h.sag.cell, h.sag.df.less (fun j hj => hj.1), h.sag.refs.less (fun j hj => hj.1), h.sag.map, h.sag.done, h.sag.undone, h.sag.apart, ⟨h.sag.ownp, h.sag.ltp⟩, ⟨h.sag.ownm, h.sag.ltm⟩, fun g e => ⟨h.sag.ownd g e, (h.sag.done.lt g e).2⟩, fun g e => ⟨h.sag.ownu g e, (h.sag.undone.lt g e).2⟩⟩, h.hbs, h.hbo, h.hob, h.row, fun e => h.nbs e.1, fun e => h.nbo e.1, ⟨h.uob, (Array.getElem?_eq_some_iff.1 h.hob).1⟩, fun g e => ⟨h.urow g e, (h.row.lt g e).2⟩⟩⟩
def TkJ (l : List StepD) (now : Int) (S0 : SagD) (U1 : Nat → Prop) (w2 : World) (k : SagK) (bs bo ob : Nat) (S : Nat → Prop) (pre : List WayD) (W : World) : Prop :=
  ∃ V, AskE W V k bs bo ob (pre.foldl (tkX l now) (S0, [])) ∧ Grow U1 V w2 W ∧ (∀ j, V j → j < W.heap.size ∧ ¬ S j) ∧ ∀ j, S j → w2.heap.size ≤ j
theorem TkJ_stable (l : List StepD) (now : Int) (S0 : SagD) (U1 : Nat → Prop) (w2 : World) (k : SagK) (bs bo ob : Nat) (hN : k.N ≤ w2.heap.size) (hbs : bs < w2.heap.size) (hbo : bo < w2.heap.size) : Stable 0 (TkJ l now S0 U1 w2 k bs bo ob) := by
  rintro S S' pre A B hS ⟨V, hA, hG, hV, hS2⟩ hs
  have hsz := hG.size
  have hsz2 := hs.below.size
  have same : ∀ j, j < w2.heap.size → B.heap[j]? = A.heap[j]? := fun j hj => hs.same j (by omega) (fun e => by have := hS2 j e; omega)
  refine ⟨V, hA.moved hsz2 (fun j hj _ => same j (by omega)) (fun j hj hl => hs.same j hl (hV j hj).2) (same bs hbs) (same bo hbo), ⟨⟨⟨hs.below.os.trans hG.chg.low.os, hs.below.tape.trans hG.chg.low.tape, hs.below.output.trans hG.chg.low.output, Nat.le_trans hG.chg.low.size hsz2, fun i hi => absurd hi (Nat.not_lt_zero i)⟩, fun j hj hU => (same j hj).trans (hG.chg.block j hj hU)⟩, hG.new, hG.old⟩, fun j hj => ⟨Nat.lt_of_lt_of_le (hV j hj).1 hsz2, fun e => ?_⟩, fun j hj => ?_⟩
  · rcases hs.new j e with h1 | h1
    · exact (hV j hj).2 h1
    · have := (hV j hj).1; omega
  · rcases hs.new j hj with h1 | h1
    · exact hS2 j h1
    · omega
set_option maxRecDepth 100000 in
set_option maxHeartbeats 8000000 in
theorem TickS_any (k : SagK) (S : SagD) (now : Int) (U : Nat → Prop) (w : World) (h : SagE w U k S) (hU : ∀ j, U j → j < w.heap.size) (hf : FineK k) (hg : GoodS k.d.steps.length S) : Calls Tryz.prog 33 #[.pointer (some ⟨k.p, 0, none⟩), .int .i64 now] w fun e w' => ∃ v, e = .returned v ∧ CallTo w U w' k (tickX k.d.steps k.rs S now).1 (tickX k.d.steps k.rs S now).2 v := by
  have hn30 := hf.small.steps
  have HSAME := Lib.hid (fun W (hb : Below w.heap.size w W) => CallTo.same h hU hb)
  have hb0 : Below w.heap.size w ((w.alloc (.cells #[.pointer (some ⟨k.p, 0, none⟩)] 48)).alloc (.cells #[.int .i64 now] 2)) := ((Below.refl _ w).alloc (Nat.le_refl _) _).alloc (by simp) _
  have g0 : ((w.alloc (.cells #[.pointer (some ⟨k.p, 0, none⟩)] 48)).alloc (.cells #[.int .i64 now] 2)).heap[w.heap.size]? = some (.cells #[.pointer (some ⟨k.p, 0, none⟩)] 48 (0, 0)) := (Below.heap_alloc _ _ _ (by simp)).trans (World.alloc_heap_new w _)
  have g1 : ((w.alloc (.cells #[.pointer (some ⟨k.p, 0, none⟩)] 48)).alloc (.cells #[.int .i64 now] 2)).heap[w.heap.size + 1]? = some (.cells #[.int .i64 now] 2 (0, 0)) := by
    have := World.alloc_heap_new (w.alloc (.cells #[.pointer (some ⟨k.p, 0, none⟩)] 48)) (.cells #[.int .i64 now] 2)
    rwa [World.size_alloc] at this
  have hsz0 : ((w.alloc (.cells #[.pointer (some ⟨k.p, 0, none⟩)] 48)).alloc (.cells #[.int .i64 now] 2)).heap.size = w.heap.size + 2 := by simp
  have HH := Lib.hid h
  have HU := Lib.hid hU
  have HF := Lib.hid hf
  have HGD := Lib.hid hg
  clear h hU hf hg
  unfold tickX
  generalize hres : (if movB S = true then onX k.d.steps k.rs now (List.foldl (tkX k.d.steps now) (S, []) (waysD k.d.steps.length)) else (S, [])) = res
  have HRT : Hid (movB S = true → res = onX k.d.steps k.rs now (List.foldl (tkX k.d.steps now) (S, []) (waysD k.d.steps.length))) := Lib.hid (fun e => by rw [← hres, if_pos e])
  have HRF : Hid (movB S = false → res = (S, [])) := Lib.hid (fun e => by rw [← hres, if_neg (fun e2 => by rw [e] at e2; cases e2)])
  clear hres
  refine (callsIn_wide (n := 0)).1 ?_
  refine callsIn_of_wp_marks Tryz.func33 rfl trivial ?_ rfl
  simp only [Tryz.ntmps33, List.size_toArray, List.length_cons, List.length_nil, Nat.reduceAdd, Nat.reduceSub, Array.replicate_succ, Array.replicate_zero, List.push_toArray, List.append_toArray, List.nil_append, List.cons_append]
  gi_upto_region 1 with fail
  generalize (w.alloc (.cells #[.pointer (some ⟨k.p, 0, none⟩)] 48)).alloc (.cells #[.int .i64 now] 2) = w0 at *
  have HMOV := Lib.hid (moving_any k S U w0 (HH.out.below hb0))
  have HAK := Lib.hid (asker_any k S U w0 (HH.out.below hb0) (fun j hj => Nat.lt_of_lt_of_le (HU.out j hj) hb0.size))
  have HB0 := Lib.hid hb0
  have HG0 := Lib.hid g0
  have HG1 := Lib.hid g1
  have s0 := cell1 g0
  clear hb0 g0 g1
  gi_wp2_with fail
  refine (callsIn_wide.2 HMOV.out).mono ?_
  rintro e w' ⟨rfl, rfl⟩
  rcases hmv : movB S with _ | _
  · have HR := Lib.hid (HRF.out hmv)
    clear hmv
    gi_wp2_with fail
    exact ⟨_, results_tmp rfl _ _ _, _, rfl, by rw [HR.out]; exact HSAME.out _ HB0.out⟩
  have HR := Lib.hid (HRT.out hmv)
  clear hmv HRT HRF
  gi_wp2_with fail
  refine (callsIn_wide.2 HAK.out).mono ?_
  rintro e w1 ⟨bs, bo, ob, rfl, hA, hb1, hob, hol⟩
  have hg0 := (hb1.block _ (by omega)).trans HG0.out
  have hg1 := (hb1.block _ (by omega)).trans HG1.out
  clear s0
  have s0 := cell1 hg0
  have HG0' := Lib.hid hg0
  have HG1' := Lib.hid hg1
  have HA1 := Lib.hid hA
  have HB1 := Lib.hid hb1
  clear hA hb1 hg0 hg1
  gi_upto_region 4 with fail
  have hb2 : Below w1.heap.size w1 (w1.alloc (.cells #[(.func (.func 83) #[] #[.pointer (some ⟨bs, 0, none⟩), .pointer (some ⟨bo, 0, none⟩)])] 93)) := (Below.refl _ _).alloc (Nat.le_refl _) _
  have g2 := World.alloc_heap_new w1 (.cells #[(.func (.func 83) #[] #[.pointer (some ⟨bs, 0, none⟩), .pointer (some ⟨bo, 0, none⟩)])] 93)
  generalize hP : w1.heap.size = eP at *
  generalize w1.alloc (.cells #[(.func (.func 83) #[] #[.pointer (some ⟨bs, 0, none⟩), .pointer (some ⟨bo, 0, none⟩)])] 93) = w2 at *
  have HB2 := Lib.hid (HB0.out.trans ((bthen HB1.out (Nat.le_refl _) (hP ▸ hb2)).mono HB0.out.size))
  have HA2 := Lib.hid (HA1.out.below (hP ▸ hb2))
  have hsz2 := hb2.size
  have hg0 := (hb2.block _ (by have := (Array.getElem?_eq_some_iff.1 HG0'.out).1; omega)).trans HG0'.out
  have hg1 := (hb2.block _ (by have := (Array.getElem?_eq_some_iff.1 HG1'.out).1; omega)).trans HG1'.out
  have HL0 := Lib.hid hg0
  have HL1 := Lib.hid hg1
  have HL2 := Lib.hid g2
  have hl2 := (Array.getElem?_eq_some_iff.1 g2).1
  clear s0
  have s0 := cell1 hg0
  clear hg0 hg1 g2 hb2 HG0' HG1' HG0 HG1 HA1 HAK HMOV
  gi_wp2_with fail
  refine (callsIn_wide.2 (ways_any k.p w2)).mono ?_
  rintro e w3 ⟨rfl, rfl⟩
  clear s0
  gi_wp2_with fail
  have hbX : Below w2.heap.size w2 (w2.alloc (.cells #[.pointer (some ⟨k.p, 0, none⟩)] 48)) := (Below.refl _ _).alloc (Nat.le_refl _) _
  have gX := World.alloc_heap_new w2 (.cells #[.pointer (some ⟨k.p, 0, none⟩)] 48)
  have hszX : (w2.alloc (.cells #[.pointer (some ⟨k.p, 0, none⟩)] 48)).heap.size = w2.heap.size + 1 := by simp
  obtain ⟨hN2, hbs2, hbo2, -, -⟩ := HA2.out.bound
  have HB0s := HB0.out.size
  have hU1 : ∀ j, (U j ∨ j = ob) → j < w2.heap.size := fun j hj => hj.elim (fun e => by have := HU.out j e; omega) (fun e => by omega)
  have HX := Lib.hid gX
  have HBX := Lib.hid hbX
  refine' wpIn_rfR rfl (enters_of Tryz.func93 (by kernel_rfl) rfl) (ways_iter k.p k.d.steps.length w2.heap.size k.sc k.sa _ gX (by omega)) (Nat.zero_le _) (fun j hj => ⟨Nat.zero_le _, by rw [hj, hszX]; omega⟩) (fun _ => rfl)
    (TkJ k.d.steps now S (fun j => U j ∨ j = ob) w2 k bs bo ob) (fun _ => fun _ _ _ => False) ?hfin ?hR ?hJ ?hJx ?h0 ?Ax ?hAx ?assign ?body ?done ?stop
  case hfin => exact fun h => absurd trivial h
  case hR =>
    rintro S' pre W ⟨V, ⟨da, dc, ua, uc, va, vc, hA⟩, -⟩
    exact hA.sag.cells.2.2.1
  case hJ => exact TkJ_stable _ _ _ _ _ _ _ _ _ hN2 hbs2 hbo2
  case hJx => exact fun _ _ _ _ _ _ _ h _ => h
  case h0 => exact ⟨_, HA2.out.below hbX, Grow.of_chg (Chg.of_below hbX), fun j hj => ⟨by have := hU1 j hj; omega, fun e => by have := hU1 j hj; omega⟩, fun j hj => by omega⟩
  case Ax => exact fun y a' W => ∃ b, a' = { tmps := #[.pointer (some ⟨k.p, 0, none⟩), .int .i64 now, .pointer (some ⟨w.heap.size, 0, none⟩), .pointer (some ⟨w.heap.size + 1, 0, none⟩), .slice none 0 0, .pointer (some ⟨ob, 0, none⟩), .pointer (some ⟨eP, 0, none⟩), .pointer (some ⟨b, 0, none⟩), undef, undef, .pointer (some ⟨k.p, 0, none⟩), .bool true, .bool false, .tuple #[.pointer (some ⟨ob, 0, none⟩), (.func (.func 83) #[] #[.pointer (some ⟨bs, 0, none⟩), .pointer (some ⟨bo, 0, none⟩)])], .pointer (some ⟨k.p, 0, none⟩), .tuple #[.pointer (some ⟨ob, 0, none⟩), (.func (.func 83) #[] #[.pointer (some ⟨bs, 0, none⟩), .pointer (some ⟨bo, 0, none⟩)])], .pointer (some ⟨ob, 0, none⟩), (.func (.func 83) #[] #[.pointer (some ⟨bs, 0, none⟩), .pointer (some ⟨bo, 0, none⟩)]), .pointer (some ⟨k.p, 0, none⟩), .func (.func 93) #[] #[.pointer (some ⟨w2.heap.size, 0, none⟩)], .agg #[.int .i64 y.1, .bool y.2], undef, undef, undef, undef, undef, undef, undef, undef, undef, undef, undef, undef, undef, undef, undef, undef, undef, undef, undef, undef, undef, undef, undef, undef, undef, undef, undef, undef, undef, undef, undef, undef], defers := [] } ∧ W.heap[b]? = some (.cells #[.int .i64 y.1, .bool y.2] 98 (0, 0))
  case hAx =>
    rintro y a' l W W' hl hlt ⟨b, rfl, hb⟩ hs ⟨r, hr⟩
    have hne : b ≠ l := by rintro rfl; rw [hr] at hb; cases hb
    exact ⟨b, rfl, (hs.same b (Array.getElem?_eq_some_iff.1 hb).1 hne).trans hb⟩
  case assign =>
    rintro l S' pre ⟨i, u⟩ W K hS hw hj hpre hK
    unfold encWs encW
    dsimp only
    have HS := Lib.hid hS
    have HK := Lib.hid hK
    have HJ := Lib.hid hj
    clear hS hK hj
    gi_wp2_with fail
    have hal : Below W.heap.size W (W.alloc (.cells #[.int .i64 i, .bool u] 98)) := (Below.refl _ _).alloc (Nat.le_refl _) _
    exact HK.out _ _ ⟨hal.mono (Nat.zero_le _), fun j hj => hal.block j (HS.out j hj).2⟩ (TkJ_stable _ _ _ _ _ _ _ _ _ hN2 hbs2 hbo2 S' S' _ _ _ HS.out HJ.out (Step.of_below (Nat.zero_le _) hal)) ⟨W.heap.size, rfl, World.alloc_heap_new W _⟩
  case stop => exact fun _ _ _ _ _ _ _ _ _ h => h.elim
  case done =>
    rintro D S' W hD hS hSD ⟨V, hA, hG, hV, hSw⟩ hKD
    have hfx := tksX_facts k.d.steps now (waysD k.d.steps.length) (S, [])
    rw [waysD_len] at hfx
    obtain ⟨hf1, hf2, hf3⟩ := hfx
    dsimp only at hf1 hf2 hf3
    have hdl := HGD.out.dl
    have hul := HGD.out.ul
    have HON := Lib.hid (on_any k bs bo ob (List.foldl (tkX k.d.steps now) (S, []) (waysD k.d.steps.length)) now V W hA HF.out (by rw [hf1]; exact HGD.out.dn) (by rw [hf1]; omega) (by rw [hf2]; omega) (by simp only [List.length_nil] at hf3; omega))
    have s0 := cell1 ((hG.chg.block w.heap.size (by omega) (fun e => e.elim (fun e => by have := HU.out _ e; omega) (fun e => by omega))).trans HL0.out)
    have n0 := cell1 ((hG.chg.block (w.heap.size + 1) (by omega) (fun e => e.elim (fun e => by have := HU.out _ e; omega) (fun e => by omega))).trans HL1.out)
    have p0 := cell1 ((hG.chg.block eP (by omega) (fun e => e.elim (fun e => by have := HU.out _ e; omega) (fun e => by omega))).trans HL2.out)
    have HA := Lib.hid hA
    have HG := Lib.hid hG
    have HV := Lib.hid hV
    have HSD := Lib.hid hSD
    have HKD := Lib.hid hKD
    have HSB := Lib.hid hS
    clear hA hG hV hSw hS hSD hf1 hf2 hf3 hKD
    gi_wp2_with fail
    refine (callsIn_wide.2 HON.out).mono ?_
    rintro e w9 ⟨rfl, V9, hY, hG9⟩
    have hDl := (HSB.out D HSD.out).2
    have hnD : ¬ V D := fun e => (HV.out D e).2 HSD.out
    obtain ⟨hD9, hnD9⟩ := hG9.stays hDl hnD
    obtain ⟨va, vc, hbk, -⟩ := call_fin (fun j hj => HU.out j hj) HB2.out (by omega) hY (HG.out.trans hG9)
    have v0 := cell1 hbk
    have hs9 := hG9.size
    have hoth : ∀ j, j ≠ D → (w9.putObj D (.deferred none)).heap[j]? = w9.heap[j]? := fun j hj => World.putObj_heap_other hj
    have hDX : w2.heap.size < D := by rw [hszX] at hD; omega
    have hY2 : AskE (w9.putObj D (.deferred none)) V9 k bs bo ob (onX k.d.steps k.rs now (List.foldl (tkX k.d.steps now) (S, []) (waysD k.d.steps.length))) := hY.moved (by simp) (fun j hj _ => hoth j (by omega)) (fun j hj _ => hoth j (fun e => hnD9 (e ▸ hj))) (hoth bs (by omega)) (hoth bo (by omega))
    have hG2 : Grow (fun j => U j ∨ j = ob) V9 w2 (w9.putObj D (.deferred none)) := by
      have h := HG.out.trans hG9
      exact ⟨⟨⟨h.chg.low.os, h.chg.low.tape, h.chg.low.output, by simpa using h.chg.low.size, fun i hi => absurd hi (Nat.not_lt_zero i)⟩, fun j hj hU => (hoth j (by omega)).trans (h.chg.block j hj hU)⟩, h.new, h.old⟩
    obtain ⟨va2, vc2, hbk2, hC⟩ := call_fin (fun j hj => HU.out j hj) HB2.out (by omega) hY2 hG2
    rw [hoth ob (by omega), hbk] at hbk2
    simp only [Option.some.injEq, Obj.cells.injEq, Array.mk.injEq, List.cons.injEq, Value.slice.injEq, and_true, true_and] at hbk2
    obtain ⟨rfl, rfl⟩ := hbk2
    have HC := Lib.hid hC
    have HKD9 := Lib.hid (hD9.trans HKD.out)
    clear hY hG9 hbk hY2 hG2 hC hoth hD9 hnD9 hnD s0 n0 p0
    gi_wp2_with fail
    refine ⟨by simp, .inl ⟨_, _, rfl, run_takeDeferred HKD9.out, ?_⟩⟩
    exact ⟨_, results_tmp rfl _ _ _, _, rfl, by rw [HR.out]; exact HC.out⟩
  case body =>
    rintro l S' pre ⟨i, u⟩ a' W hS hw hSl - ⟨V, hA, hG, hV, hSw⟩ ⟨b, rfl, hb⟩ hpre
    dsimp only
    have hmem : ((i, u) : WayD) ∈ waysD k.d.steps.length := hpre.subset (by simp)
    have hpl := hpre.length_le
    rw [waysD_len, List.length_append, List.length_singleton] at hpl
    obtain ⟨jn, rfl, hjl⟩ : ∃ jn : Nat, i = (jn : Int) ∧ jn < k.d.steps.length := by
      unfold waysD at hmem
      simp only [List.mem_append, List.mem_map, List.mem_range, Prod.mk.injEq] at hmem
      rcases hmem with ⟨a, ha, rfl, _⟩ | ⟨a, ha, rfl, _⟩ <;> exact ⟨a, rfl, ha⟩
    obtain ⟨hf1, hf2, hf3⟩ := tksX_facts k.d.steps now pre (S, [])
    dsimp only at hf1 hf2 hf3
    have hdl := HGD.out.dl
    have hsnoc : (pre ++ [((jn : Int), u)]).foldl (tkX k.d.steps now) (S, []) = tkX k.d.steps now (pre.foldl (tkX k.d.steps now) (S, [])) ((jn : Int), u) := by rw [List.foldl_append]; rfl
    have s0 := cell1 ((hG.chg.block w.heap.size (by omega) (fun e => e.elim (fun e => by have := HU.out _ e; omega) (fun e => by omega))).trans HL0.out)
    have n0 := cell1 ((hG.chg.block (w.heap.size + 1) (by omega) (fun e => e.elim (fun e => by have := HU.out _ e; omega) (fun e => by omega))).trans HL1.out)
    have hp0 := (hG.chg.block eP (by omega) (fun e => e.elim (fun e => by have := HU.out _ e; omega) (fun e => by omega))).trans HL2.out
    generalize hYY : pre.foldl (tkX k.d.steps now) (S, []) = Y at *
    obtain ⟨q0, q1, q2, q3, hq⟩ : ∃ q0 q1 q2 q3, Y.1.runs ((jn : Int), u) = (q0, q1, q2, q3) := ⟨_, _, _, _, rfl⟩
    obtain ⟨ar, har⟩ : ∃ ar, ar = tickR k.d.steps[jn] (q0, q1, q2, q3) now := ⟨_, rfl⟩
    have htk : tkX k.d.steps now Y ((jn : Int), u) = if ar.2 then putX Y ((jn : Int), u) ar.1 else Y := by
      unfold tkX
      simp only [Int.toNat_natCast, List.getElem?_eq_getElem hjl, Option.getD_some]
      rw [hq, ← har]
    have HTX : Hid ((pre ++ [((jn : Int), u)]).foldl (tkX k.d.steps now) (S, []) = if ar.2 then putX Y ((jn : Int), u) ar.1 else Y) := Lib.hid (hsnoc.trans htk)
    obtain ⟨da, dc, ua, uc, va, vc, hA'⟩ := hA
    obtain ⟨-, -, x2, -, x4, -, -, -⟩ := hA'.sag.cells
    obtain ⟨y0, y1, -, -⟩ := cells2 hb
    obtain ⟨g, off, cap, aa, ac, ka, kc, ba, bc, he, -, -, -, hat⟩ := hA'.sag.df.now.steps.at hjl
    rw [he] at x2
    have hsc : cap = k.sc := by injection he with _ _ e3; exact e3.symm
    subst hsc
    obtain ⟨t0, t1, t2, t3, t4, t5, t6, t7, t8, t9, t10, t11, t12⟩ := hat
    have HLK : Hid (∀ W', Below W.heap.size W W' → (Instr.lookup 89 (.map (some k.m)) (.agg #[.int .i64 (jn : Int), .bool u]) false).run Tryz.prog W' = .ok (.agg #[.int .u8 q0, .int .i64 q1, .int .i64 q2, .bool q3]) W') := Lib.hid (fun W' hb => by
      have := (hA'.sag.below hb).look (k := ((jn : Int), u)) (by unfold I64w; dsimp only; omega)
      rw [hq] at this
      exact this)
    have HTK : Hid (∀ W', Calls Tryz.prog 67 #[.agg #[.int .u8 q0, .int .i64 q1, .int .i64 q2, .bool q3], .agg #[.string k.d.steps[jn].name, .string k.d.steps[jn].action, .string k.d.steps[jn].undo, .slice aa k.d.steps[jn].after.length ac, .int .i64 k.d.steps[jn].most, .int .i64 k.d.steps[jn].first, .int .i64 k.d.steps[jn].factor, .int .i64 k.d.steps[jn].limit, .int .u8 (k.d.steps[jn].note.kind : Int), .string k.d.steps[jn].note.text, .slice ka k.d.steps[jn].note.keys.length kc, .slice ba k.d.steps[jn].note.kids.length bc, .int .i64 k.d.steps[jn].note.line], .int .i64 now] W' fun e w' => e = .returned (.tuple #[.agg #[.int .u8 ar.1.1, .int .i64 ar.1.2.1, .int .i64 ar.1.2.2.1, .bool ar.1.2.2.2], .bool ar.2]) ∧ Below W'.heap.size W' w') := Lib.hid (fun W' => by
      rw [har]
      exact Tick_any (s0 := k.d.steps[jn].name) (s1 := k.d.steps[jn].action) (s2 := k.d.steps[jn].undo) (af := aa) (an := k.d.steps[jn].after.length) (ac := ac) (m := k.d.steps[jn].most) (f := k.d.steps[jn].first) (k := k.d.steps[jn].factor) (l := k.d.steps[jn].limit) (nk := (k.d.steps[jn].note.kind : Int)) (nt := k.d.steps[jn].note.text) (ka := ka) (kn := k.d.steps[jn].note.keys.length) (kc := kc) (da := ba) (dn := k.d.steps[jn].note.kids.length) (dc := bc) (nl := k.d.steps[jn].note.line) q0 q1 q2 q3 now W')
    have hjn0 : (0 : Int) ≤ (jn : Int) := by omega
    have hjn1 : (jn : Int) < (k.d.steps.length : Int) := by omega
    have HA := Lib.hid (show AskE W V k bs bo ob Y from ⟨da, dc, ua, uc, va, vc, hA'⟩)
    have HG := Lib.hid hG
    have HV := Lib.hid hV
    have HSW := Lib.hid hSw
    have HSB := Lib.hid hS
    have HB := Lib.hid hb
    have HP0 := Lib.hid hp0
    have HMEM := Lib.hid hmem
    have HYL : Hid (Y.1.done.length ≤ 30 ∧ Y.2.length ≤ 60) := Lib.hid ⟨by rw [hf1]; omega, by simp only [List.length_nil] at hf3; omega⟩
    clear hA' hG hV hSw hS hb hp0 hsnoc htk hq har hmem hpre hf1 hf2 hf3 hYY hpl
    gi_upto_region 6 with fail
    gi_cut [8, 9] from 21 (fun s8 s9 wx => ∃ R, s8 = .pointer (some ⟨R, 0, none⟩) ∧ s9 = .bool ar.2 ∧ wx.heap[R]? = some (.cells #[.int .u8 ar.1.1, .int .i64 ar.1.2.1, .int .i64 ar.1.2.2.1, .bool ar.1.2.2.2] 100 (0, 0)) ∧ Below W.heap.size W wx)
    case first =>
      refine E_regionR (S := (fun W => W.cell? ⟨w.heap.size, 0, none⟩ = some (.pointer (some ⟨k.p, 0, none⟩)) ∧ W.cell? ⟨k.p, 4, none⟩ = some (.map (some k.m)) ∧ W.cell? ⟨k.p, 2, none⟩ = some (.slice (some ⟨g, off, none⟩) k.d.steps.length k.sc) ∧ W.cell? ⟨b, 0, none⟩ = some (.int .i64 (jn : Int)) ∧ W.cell? ⟨b, 1, none⟩ = some (.bool u) ∧ W.cell? ⟨(w.heap.size + 1), 0, none⟩ = some (.int .i64 now) ∧ W.cell? ⟨g, off + jn * 13, none⟩ = some (.string k.d.steps[jn].name) ∧ W.cell? ⟨g, off + jn * 13 + 1, none⟩ = some (.string k.d.steps[jn].action) ∧ W.cell? ⟨g, off + jn * 13 + 2, none⟩ = some (.string k.d.steps[jn].undo) ∧ W.cell? ⟨g, off + jn * 13 + 3, none⟩ = some (.slice aa k.d.steps[jn].after.length ac) ∧ W.cell? ⟨g, off + jn * 13 + 4, none⟩ = some (.int .i64 k.d.steps[jn].most) ∧ W.cell? ⟨g, off + jn * 13 + 5, none⟩ = some (.int .i64 k.d.steps[jn].first) ∧ W.cell? ⟨g, off + jn * 13 + 6, none⟩ = some (.int .i64 k.d.steps[jn].factor) ∧ W.cell? ⟨g, off + jn * 13 + 7, none⟩ = some (.int .i64 k.d.steps[jn].limit) ∧ W.cell? ⟨g, off + jn * 13 + 8, none⟩ = some (.int .u8 (k.d.steps[jn].note.kind : Int)) ∧ W.cell? ⟨g, off + jn * 13 + 9, none⟩ = some (.string k.d.steps[jn].note.text) ∧ W.cell? ⟨g, off + jn * 13 + 10, none⟩ = some (.slice ka k.d.steps[jn].note.keys.length kc) ∧ W.cell? ⟨g, off + jn * 13 + 11, none⟩ = some (.slice ba k.d.steps[jn].note.kids.length bc) ∧ W.cell? ⟨g, off + jn * 13 + 12, none⟩ = some (.int .i64 k.d.steps[jn].note.line) ∧ (Instr.lookup 89 (.map (some k.m)) (.agg #[.int .i64 (jn : Int), .bool u]) false).run Tryz.prog W = .ok (.agg #[.int .u8 q0, .int .i64 q1, .int .i64 q2, .bool q3]) W)) 21 (by kernel_rfl) (by kernel_rfl) ⟨s0, x4, x2, y0, y1, n0, t0, t1, t2, t3, t4, t5, t6, t7, t8, t9, t10, t11, t12, HLK.out _ (Below.refl _ _).drew⟩ (fun Q' hQ hK' hHeld => ?_)
      refine E_take hQ hHeld 0 (v := ?vd1) rfl rfl (by kernel_rfl) (by kernel_rfl) (by kernel_rfl) (by kernel_rfl) (by kernel_rfl) (by rfl) ?yd1 ?rd1
      case yd1 => (intro w hSw; (try dsimp only at hSw); go_simp; (try with_reducible rfl))
      (try simp only [layE])
      refine E_take0 hQ (fun _ => hHeld) 1 (v := ?vd2) rfl rfl (by kernel_rfl) (by kernel_rfl) (by kernel_rfl) (by decide) (by rfl) ?yd2 ?rd2
      case yd2 => (intro w; go_simp; (try with_reducible rfl))
      (try simp only [layE])
      refine E_take0 hQ (fun _ => hHeld) 2 (v := ?vd3) rfl rfl (by kernel_rfl) (by kernel_rfl) (by kernel_rfl) (by decide) (by rfl) ?yd3 ?rd3
      case yd3 => (intro w; go_simp; (try with_reducible rfl))
      (try simp only [layE])
      refine E_take hQ hHeld 3 (v := ?vd4) rfl rfl (by kernel_rfl) (by kernel_rfl) (by kernel_rfl) (by kernel_rfl) (by kernel_rfl) (by rfl) ?yd4 ?rd4
      case yd4 => (intro w hSw; (try dsimp only at hSw); go_simp; (try with_reducible rfl))
      (try simp only [layE])
      refine E_take hQ hHeld 4 (v := ?vd5) rfl rfl (by kernel_rfl) (by kernel_rfl) (by kernel_rfl) (by kernel_rfl) (by kernel_rfl) (by rfl) ?yd5 ?rd5
      case yd5 => (intro w hSw; (try dsimp only at hSw); go_simp; (try with_reducible rfl))
      (try simp only [layE])
      refine E_take hQ hHeld 5 (v := ?vd6) rfl rfl (by kernel_rfl) (by kernel_rfl) (by kernel_rfl) (by kernel_rfl) (by kernel_rfl) (by rfl) ?yd6 ?rd6
      case yd6 => (intro w hSw; (try dsimp only at hSw); go_simp; (try with_reducible rfl))
      (try simp only [layE])
      refine E_takeP hQ hHeld [16, 14, 13, 10, 9, 8, 7] 6 (v := ?vd7) rfl rfl (by kernel_rfl) (by kernel_rfl) (by kernel_rfl) (by kernel_rfl) (by kernel_rfl) (by rfl) ?yd7 ?rd7
      case yd7 => (intro w hSw; (try dsimp only at hSw); go_simp; (try with_reducible rfl))
      (try simp only [layE])
      refine E_take0 hQ (fun _ => hHeld) 7 (v := ?vd8) rfl rfl (by kernel_rfl) (by kernel_rfl) (by kernel_rfl) (by decide) (by rfl) ?yd8 ?rd8
      case yd8 => (intro w; go_simp; (try with_reducible rfl))
      (try simp only [layE])
      refine E_take0 hQ (fun _ => hHeld) 8 (v := ?vd9) rfl rfl (by kernel_rfl) (by kernel_rfl) (by kernel_rfl) (by decide) (by rfl) ?yd9 ?rd9
      case yd9 => (intro w; go_simp; (try with_reducible rfl))
      (try simp only [layE])
      refine E_take0 hQ (fun _ => hHeld) 9 (v := ?vd10) rfl rfl (by kernel_rfl) (by kernel_rfl) (by kernel_rfl) (by decide) (by rfl) ?yd10 ?rd10
      case yd10 => (intro w; go_simp; (try with_reducible rfl))
      (try simp only [layE])
      refine E_take hQ hHeld 10 (v := ?vd11) rfl rfl (by kernel_rfl) (by kernel_rfl) (by kernel_rfl) (by kernel_rfl) (by kernel_rfl) (by rfl) ?yd11 ?rd11
      case yd11 => (intro w hSw; (try dsimp only at hSw); go_simp; (try with_reducible rfl))
      (try simp only [layE])
      refine E_take0 hQ (fun _ => hHeld) 11 (v := ?vd12) rfl rfl (by kernel_rfl) (by kernel_rfl) (by kernel_rfl) (by decide) (by rfl) ?yd12 ?rd12
      case yd12 => (intro w; go_simp; (try with_reducible rfl))
      (try simp only [layE])
      refine E_take hQ hHeld 12 (v := ?vd13) rfl rfl (by kernel_rfl) (by kernel_rfl) (by kernel_rfl) (by kernel_rfl) (by kernel_rfl) (by rfl) ?yd13 ?rd13
      case yd13 => (intro w hSw; (try dsimp only at hSw); go_simp; (try with_reducible rfl))
      (try simp only [layE])
      refine E_take0 hQ (fun _ => hHeld) 13 (v := ?vd14) rfl rfl (by kernel_rfl) (by kernel_rfl) (by kernel_rfl) (by decide) (by rfl) ?yd14 ?rd14
      case yd14 => (intro w; go_simp; (try with_reducible rfl))
      (try simp only [layE])
      refine E_take hQ hHeld 14 (v := ?vd15) rfl rfl (by kernel_rfl) (by kernel_rfl) (by kernel_rfl) (by kernel_rfl) (by kernel_rfl) (by rfl) ?yd15 ?rd15
      case yd15 => (intro w hSw; (try dsimp only at hSw); go_simp; (try with_reducible rfl))
      (try simp only [layE])
      refine E_take hQ hHeld 15 (v := ?vd16) rfl rfl (by kernel_rfl) (by kernel_rfl) (by kernel_rfl) (by kernel_rfl) (by kernel_rfl) (by rfl) ?yd16 ?rd16
      case yd16 => (intro w hSw; (try dsimp only at hSw); go_simp; (try with_reducible rfl))
      (try simp only [layE])
      refine E_twoS 16 20 (by kernel_rfl) rfl rfl (by rfl) (by rfl) (fun K hK => ?_) (fun K hK => ?_)
      · skip
        go_simp
        refine (HTK.out _).mono ?_
        rintro e v1 ⟨rfl, hbv1⟩
        have hbv1 : Below W.heap.size W v1 := bthen (Below.refl W.heap.size W).drew (Nat.le_refl _) hbv1
        (skip)
        refine hK.out _ _ (fun _ _ => ⟨cellB hbv1 hHeld.1, cellB hbv1 hHeld.2.1, cellB hbv1 hHeld.2.2.1, cellB hbv1 hHeld.2.2.2.1, cellB hbv1 hHeld.2.2.2.2.1, cellB hbv1 hHeld.2.2.2.2.2.1, cellB hbv1 hHeld.2.2.2.2.2.2.1, cellB hbv1 hHeld.2.2.2.2.2.2.2.1, cellB hbv1 hHeld.2.2.2.2.2.2.2.2.1, cellB hbv1 hHeld.2.2.2.2.2.2.2.2.2.1, cellB hbv1 hHeld.2.2.2.2.2.2.2.2.2.2.1, cellB hbv1 hHeld.2.2.2.2.2.2.2.2.2.2.2.1, cellB hbv1 hHeld.2.2.2.2.2.2.2.2.2.2.2.2.1, cellB hbv1 hHeld.2.2.2.2.2.2.2.2.2.2.2.2.2.1, cellB hbv1 hHeld.2.2.2.2.2.2.2.2.2.2.2.2.2.2.1, cellB hbv1 hHeld.2.2.2.2.2.2.2.2.2.2.2.2.2.2.2.1, cellB hbv1 hHeld.2.2.2.2.2.2.2.2.2.2.2.2.2.2.2.2.1, cellB hbv1 hHeld.2.2.2.2.2.2.2.2.2.2.2.2.2.2.2.2.2.1, cellB hbv1 hHeld.2.2.2.2.2.2.2.2.2.2.2.2.2.2.2.2.2.2.1, HLK.out _ hbv1⟩) (fun hHeld' => ?_)
        replace hHeld := hHeld' (by rfl) (by decide)
        clear hK hHeld'
        (try simp only [layE])
        refine E_take0 hQ (fun _ => hHeld) 17 (v := ?vd17) rfl rfl (by kernel_rfl) (by kernel_rfl) (by kernel_rfl) (by decide) (by rfl) ?yd17 ?rd17
        case yd17 => (intro w; go_simp; (try with_reducible rfl))
        (try simp only [layE])
        refine E_take0 hQ (fun _ => hHeld) 18 (v := ?vd18) rfl rfl (by kernel_rfl) (by kernel_rfl) (by kernel_rfl) (by decide) (by rfl) ?yd18 ?rd18
        case yd18 => (intro w; go_simp; (try with_reducible rfl))
        (try simp only [layE])
        refine E_take0 hQ (fun _ => hHeld) 19 (v := ?vd19) rfl rfl (by kernel_rfl) (by kernel_rfl) (by kernel_rfl) (by decide) (by rfl) ?yd19 ?rd19
        case yd19 => (intro w; go_simp; (try with_reducible rfl))
        (try simp only [layE])
        refine E_one 20 (by kernel_rfl) rfl (by rfl) (fun K hK => ?_)
        go_simp
        have hbv2 : Below v1.heap.size v1 (v1.alloc (.cells #[.int .u8 0, .int .i64 0, .int .i64 0, .bool false] 100)) := (Below.refl _ v1).alloc (Nat.le_refl _) _
        have hn := World.alloc_heap_new v1 (.cells #[.int .u8 0, .int .i64 0, .int .i64 0, .bool false] 100)
        generalize v1.alloc (.cells #[.int .u8 0, .int .i64 0, .int .i64 0, .bool false] 100) = v2 at *
        (try simp only [layE])
        refine hK.out _ _ (fun _ _ => ⟨cellB hbv2 hHeld.1, cellB hbv2 hHeld.2.1, cellB hbv2 hHeld.2.2.1, cellB hbv2 hHeld.2.2.2.1, cellB hbv2 hHeld.2.2.2.2.1, cellB hbv2 hHeld.2.2.2.2.2.1, cellB hbv2 hHeld.2.2.2.2.2.2.1, cellB hbv2 hHeld.2.2.2.2.2.2.2.1, cellB hbv2 hHeld.2.2.2.2.2.2.2.2.1, cellB hbv2 hHeld.2.2.2.2.2.2.2.2.2.1, cellB hbv2 hHeld.2.2.2.2.2.2.2.2.2.2.1, cellB hbv2 hHeld.2.2.2.2.2.2.2.2.2.2.2.1, cellB hbv2 hHeld.2.2.2.2.2.2.2.2.2.2.2.2.1, cellB hbv2 hHeld.2.2.2.2.2.2.2.2.2.2.2.2.2.1, cellB hbv2 hHeld.2.2.2.2.2.2.2.2.2.2.2.2.2.2.1, cellB hbv2 hHeld.2.2.2.2.2.2.2.2.2.2.2.2.2.2.2.1, cellB hbv2 hHeld.2.2.2.2.2.2.2.2.2.2.2.2.2.2.2.2.1, cellB hbv2 hHeld.2.2.2.2.2.2.2.2.2.2.2.2.2.2.2.2.2.1, cellB hbv2 hHeld.2.2.2.2.2.2.2.2.2.2.2.2.2.2.2.2.2.2.1, HLK.out _ (bthen hbv1 (Nat.le_refl _) hbv2)⟩) (fun hHeld' => ?_)
        replace hHeld := hHeld' (by rfl) (by decide)
        clear hK hHeld'
        (try simp only [layE])
        refine E_one 21 (by kernel_rfl) rfl (by rfl) (fun K hK => ?_)
        obtain ⟨c0, c1, c2, c3, f0, f1, f2, f3⟩ := cells4h hn
        go_simp
        (try simp only [layE])
        refine hK.out _ _ (fun _ h => absurd rfl h) (fun _ => ?_)
        clear hK hHeld
        (try simp only [layE])
        refine E_take0 hQ (fun h => absurd h (by decide)) 22 (v := ?vd20) rfl rfl (by kernel_rfl) (by kernel_rfl) (by kernel_rfl) (by decide) (by rfl) ?yd20 ?rd20
        case yd20 => (intro w; go_simp; (try with_reducible rfl))
        (try simp only [layE])
        refine E_done (by kernel_rfl) ?_ _
        refine hK'.out _ _ ?_
        have hfin : Below W.heap.size W v2 := bthen hbv1 (Nat.le_refl _) hbv2
        have hset := set4 (.int .u8 ar.1.1) (.int .i64 ar.1.2.1) (.int .i64 ar.1.2.2.1) (.bool ar.1.2.2.2) hn
        clear hK' hQ
        gi_wp2_with fail
        gi_meet
        exact ⟨v1.heap.size, rfl, rfl, hset, bset (bset (bset (bset hfin hbv1.size) hbv1.size) hbv1.size) hbv1.size⟩
      · skip
        go_simp
        have hbv1 : Below W.heap.size W ((W.alloc (.cells #[.int .u8 0, .int .i64 0, .int .i64 0, .bool false] 100)).drew) := ((Below.refl _ W).alloc (Nat.le_refl _) _).drew
        have hn : ((W.alloc (.cells #[.int .u8 0, .int .i64 0, .int .i64 0, .bool false] 100)).drew).heap[W.heap.size]? = some (.cells #[.int .u8 0, .int .i64 0, .int .i64 0, .bool false] 100 (0, 0)) := World.alloc_heap_new W _
        generalize (W.alloc (.cells #[.int .u8 0, .int .i64 0, .int .i64 0, .bool false] 100)).drew = v1 at *
        (try simp only [layE])
        refine hK.out _ _ (fun _ _ => ⟨cellB hbv1 hHeld.1, cellB hbv1 hHeld.2.1, cellB hbv1 hHeld.2.2.1, cellB hbv1 hHeld.2.2.2.1, cellB hbv1 hHeld.2.2.2.2.1, cellB hbv1 hHeld.2.2.2.2.2.1, cellB hbv1 hHeld.2.2.2.2.2.2.1, cellB hbv1 hHeld.2.2.2.2.2.2.2.1, cellB hbv1 hHeld.2.2.2.2.2.2.2.2.1, cellB hbv1 hHeld.2.2.2.2.2.2.2.2.2.1, cellB hbv1 hHeld.2.2.2.2.2.2.2.2.2.2.1, cellB hbv1 hHeld.2.2.2.2.2.2.2.2.2.2.2.1, cellB hbv1 hHeld.2.2.2.2.2.2.2.2.2.2.2.2.1, cellB hbv1 hHeld.2.2.2.2.2.2.2.2.2.2.2.2.2.1, cellB hbv1 hHeld.2.2.2.2.2.2.2.2.2.2.2.2.2.2.1, cellB hbv1 hHeld.2.2.2.2.2.2.2.2.2.2.2.2.2.2.2.1, cellB hbv1 hHeld.2.2.2.2.2.2.2.2.2.2.2.2.2.2.2.2.1, cellB hbv1 hHeld.2.2.2.2.2.2.2.2.2.2.2.2.2.2.2.2.2.1, cellB hbv1 hHeld.2.2.2.2.2.2.2.2.2.2.2.2.2.2.2.2.2.2.1, HLK.out _ hbv1⟩) (fun hHeld' => ?_)
        replace hHeld := hHeld' (by rfl) (by decide)
        clear hK hHeld'
        (try simp only [layE])
        refine E_one 16 (by kernel_rfl) rfl (by rfl) (fun K hK => ?_)
        go_simp
        refine (HTK.out _).mono ?_
        rintro e v2 ⟨rfl, hbv2⟩
        (skip)
        refine hK.out _ _ (fun _ _ => ⟨cellB hbv2 hHeld.1, cellB hbv2 hHeld.2.1, cellB hbv2 hHeld.2.2.1, cellB hbv2 hHeld.2.2.2.1, cellB hbv2 hHeld.2.2.2.2.1, cellB hbv2 hHeld.2.2.2.2.2.1, cellB hbv2 hHeld.2.2.2.2.2.2.1, cellB hbv2 hHeld.2.2.2.2.2.2.2.1, cellB hbv2 hHeld.2.2.2.2.2.2.2.2.1, cellB hbv2 hHeld.2.2.2.2.2.2.2.2.2.1, cellB hbv2 hHeld.2.2.2.2.2.2.2.2.2.2.1, cellB hbv2 hHeld.2.2.2.2.2.2.2.2.2.2.2.1, cellB hbv2 hHeld.2.2.2.2.2.2.2.2.2.2.2.2.1, cellB hbv2 hHeld.2.2.2.2.2.2.2.2.2.2.2.2.2.1, cellB hbv2 hHeld.2.2.2.2.2.2.2.2.2.2.2.2.2.2.1, cellB hbv2 hHeld.2.2.2.2.2.2.2.2.2.2.2.2.2.2.2.1, cellB hbv2 hHeld.2.2.2.2.2.2.2.2.2.2.2.2.2.2.2.2.1, cellB hbv2 hHeld.2.2.2.2.2.2.2.2.2.2.2.2.2.2.2.2.2.1, cellB hbv2 hHeld.2.2.2.2.2.2.2.2.2.2.2.2.2.2.2.2.2.2.1, HLK.out _ (bthen hbv1 (Nat.le_refl _) hbv2)⟩) (fun hHeld' => ?_)
        replace hHeld := hHeld' (by rfl) (by decide)
        clear hK hHeld'
        (try simp only [layE])
        refine E_take0 hQ (fun _ => hHeld) 17 (v := ?vd21) rfl rfl (by kernel_rfl) (by kernel_rfl) (by kernel_rfl) (by decide) (by rfl) ?yd21 ?rd21
        case yd21 => (intro w; go_simp; (try with_reducible rfl))
        (try simp only [layE])
        refine E_take0 hQ (fun _ => hHeld) 18 (v := ?vd22) rfl rfl (by kernel_rfl) (by kernel_rfl) (by kernel_rfl) (by decide) (by rfl) ?yd22 ?rd22
        case yd22 => (intro w; go_simp; (try with_reducible rfl))
        (try simp only [layE])
        refine E_take0 hQ (fun _ => hHeld) 19 (v := ?vd23) rfl rfl (by kernel_rfl) (by kernel_rfl) (by kernel_rfl) (by decide) (by rfl) ?yd23 ?rd23
        case yd23 => (intro w; go_simp; (try with_reducible rfl))
        (try simp only [layE])
        refine E_one 21 (by kernel_rfl) rfl (by rfl) (fun K hK => ?_)
        have hn := (hbv2.block _ (Array.getElem?_eq_some_iff.1 hn).1).trans hn
        obtain ⟨c0, c1, c2, c3, f0, f1, f2, f3⟩ := cells4h hn
        go_simp
        (try simp only [layE])
        refine hK.out _ _ (fun _ h => absurd rfl h) (fun _ => ?_)
        clear hK hHeld
        (try simp only [layE])
        refine E_take0 hQ (fun h => absurd h (by decide)) 22 (v := ?vd24) rfl rfl (by kernel_rfl) (by kernel_rfl) (by kernel_rfl) (by decide) (by rfl) ?yd24 ?rd24
        case yd24 => (intro w; go_simp; (try with_reducible rfl))
        (try simp only [layE])
        refine E_done (by kernel_rfl) ?_ _
        refine hK'.out _ _ ?_
        have hfin : Below W.heap.size W v2 := bthen hbv1 (Nat.le_refl _) hbv2
        have hset := set4 (.int .u8 ar.1.1) (.int .i64 ar.1.2.1) (.int .i64 ar.1.2.2.1) (.bool ar.1.2.2.2) hn
        clear hK' hQ
        gi_wp2_with fail
        gi_meet
        exact ⟨W.heap.size, rfl, rfl, hset, bset (bset (bset (bset hfin (Nat.le_refl _)) (Nat.le_refl _)) (Nat.le_refl _)) (Nat.le_refl _)⟩
    case rest =>
      obtain ⟨R, rfl, rfl, hR, hbx⟩ := hcut
      rename World => w4
      have HA4 := Lib.hid (HA.out.below hbx)
      have HG4 := Lib.hid (HG.out.trans (Grow.of_chg (Chg.of_below hbx)))
      have HB4 := Lib.hid ((hbx.block _ (Array.getElem?_eq_some_iff.1 HB.out).1).trans HB.out)
      have HP4 := Lib.hid ((hbx.block _ (Array.getElem?_eq_some_iff.1 HP0.out).1).trans HP0.out)
      have HR4 := Lib.hid hR
      have HX4 := Lib.hid hbx
      have hs4 := hbx.size
      clear hR hbx s0 n0 x4 x2 y0 y1 t0 t1 t2 t3 t4 t5 t6 t7 t8 t9 t10 t11 t12 HA HG HB HP0 HLK HTK
      rcases hb2 : ar.2 with _ | _
      · have HE : Hid ((pre ++ [((jn : Int), u)]).foldl (tkX k.d.steps now) (S, []) = Y) := Lib.hid (by rw [HTX.out, hb2]; rfl)
        gi_wp2_with fail
        exact ⟨⟨V, by rw [HE.out]; exact HA4.out, HG4.out, fun j hj => ⟨Nat.lt_of_lt_of_le (HV.out j hj).1 hs4, (HV.out j hj).2⟩, HSW.out⟩, ⟨HX4.out.mono (Nat.zero_le _), fun j hj => HX4.out.block j (HSB.out j hj).2⟩⟩
      · have HE : Hid ((pre ++ [((jn : Int), u)]).foldl (tkX k.d.steps now) (S, []) = putX Y ((jn : Int), u) ar.1) := Lib.hid (by rw [HTX.out, hb2]; rfl)
        obtain ⟨y0, y1, -, -⟩ := cells2 HB4.out
        obtain ⟨c0, c1, c2, c3, -⟩ := cells4h HR4.out
        have p0 := cell1 HP4.out
        obtain ⟨da1, dc1, ua1, uc1, va1, vc1, hA1⟩ := HA4.out
        have HA5 := Lib.hid hA1
        clear hA1
        gi_wp2_with fail
        refine (callsIn_wide.2 (sagPut_any (jn : Int) u ar.1.1 ar.1.2.1 ar.1.2.2.1 ar.1.2.2.2 Y w4 V k.p k.m k.sa k.sc k.vr k.d k.rs k.N bs bo ob da1 dc1 ua1 uc1 va1 vc1 HA5.out HMEM.out (by omega) (by have := HYL.out.1; omega) (by have := HYL.out.2; omega))).mono ?_
        rintro e w6 ⟨rfl, V6, hY6, hG6⟩
        have hs6 := hG6.size
        have hnew : ∀ j, V6 j → j < w6.heap.size → ¬ S' j := fun j hj hl e => (hG6.new j hj).elim (fun e2 => (HV.out j e2).2 e) (fun e2 => by have := (HSB.out j e).2; omega)
        have hJ : TkJ k.d.steps now S (fun j => U j ∨ j = ob) w2 k bs bo ob S' (pre ++ [((jn : Int), u)]) w6 := by
          refine ⟨fun j => V6 j ∧ j < w6.heap.size, by rw [HE.out]; exact hY6.trim, ?_, fun j hj => ⟨hj.2, hnew j hj.1 hj.2⟩, HSW.out⟩
          have h := HG4.out.trans hG6
          exact ⟨h.chg, fun j hj => h.new j hj.1, fun j hj => ⟨h.old j hj, by have := hU1 j hj; have := HG4.out.size; omega⟩⟩
        have HJ := Lib.hid hJ
        have HK : Hid (Keep 0 S' W w6) := Lib.hid ⟨⟨hG6.chg.low.os.trans HX4.out.os, hG6.chg.low.tape.trans HX4.out.tape, hG6.chg.low.output.trans HX4.out.output, Nat.le_trans hs4 hs6, fun i hi => absurd hi (Nat.not_lt_zero i)⟩, fun j hj => (hG6.chg.block j (by have := (HSB.out j hj).2; omega) (fun e => (HV.out j e).2 hj)).trans (HX4.out.block j (HSB.out j hj).2)⟩
        clear hJ hnew hY6 hG6
        gi_wp2_with fail
        exact ⟨HJ.out, HK.out⟩
end Go.Proofs.YtgfiogjfgbegpaaGreat

/-
  The law NamesRefs: walk; definitions' lists are right.
-/
namespace Go.Proofs.YtgfiogjfgbegpaaGreat
open Go Go.RowKit Go.WideShapes

theorem names_ok {d : DefD} (hs : SmallD d) : ∀ x ∈ rChkN d.steps 0 d.steps (headN d), OkG x := by
  have hn : ∀ (l : List DiagD) (b : Bool) (x : DiagD), (∀ y ∈ l, OkG y) → OkG x → ∀ y ∈ noteL l b x, OkG y := fun l b x h1 h2 y hy => by
    rcases (noteL_mem l b x y).1 hy with h | ⟨-, rfl⟩
    · exact h1 y h
    · exact h2
  have ok : ∀ (st er : Int) (tx : ByteArray), I64w st → I64w er → tx.size ≤ 200 → OkG (st, er, tx) := fun st er tx h1 h2 h3 => ⟨h1, h2, by show tx.size ≤ maxLen; unfold maxLen; omega⟩
  have hrows : ∀ (i : Nat) (s : StepD), i ≤ 30 → s.name.size ≤ 200 → ∀ (r seen : List ByteArray) (l : List DiagD), (∀ a ∈ r, a.size ≤ 200) → (∀ y ∈ l, OkG y) → ∀ y ∈ rowsN d.steps i s seen r l, OkG y := by
    intro i s hi hn1 r
    induction r with
    | nil => intro seen l _ h; exact h
    | cons a r ih =>
      intro seen l ha h
      have ha0 := ha a (by simp)
      refine ih _ _ (fun b hb => ha b (by simp [hb])) ?_
      unfold rowN
      exact hn _ _ _ (hn _ _ _ (hn _ _ _ h (ok _ _ _ (by unfold I64w; omega) (by unfold I64w; omega) ha0)) (ok _ _ _ (by unfold I64w; omega) (by unfold I64w; omega) hn1)) (ok _ _ _ (by unfold I64w; omega) (by unfold I64w; omega) ha0)
  have hall : ∀ (r : List StepD) (i : Nat) (l : List DiagD), i + r.length ≤ 30 → (∀ s ∈ r, SmallS s) → (∀ y ∈ l, OkG y) → ∀ y ∈ rChkN d.steps i r l, OkG y := by
    intro r
    induction r with
    | nil => intro i l _ _ h; exact h
    | cons s r ih =>
      intro i l hi hs h
      rw [List.length_cons] at hi
      have hs0 := hs s (by simp)
      refine ih _ _ (by omega) (fun t ht => hs t (by simp [ht])) (hrows i s (by omega) hs0.name _ _ _ hs0.aft ?_)
      unfold stepN
      exact hn _ _ _ (hn _ _ _ (hn _ _ _ (hn _ _ _ h (ok _ _ _ (by unfold I64w; omega) (by unfold I64w; omega) hs0.name)) (ok _ _ _ (by unfold I64w; omega) (by unfold I64w; omega) hs0.action)) (ok _ _ _ (by unfold I64w; omega) (by unfold I64w; omega) hs0.undo)) (ok _ _ _ (by unfold I64w; omega) (by unfold I64w; omega) hs0.name)
  refine hall d.steps 0 _ (by have := hs.steps; omega) hs.each ?_
  unfold headN
  exact hn _ _ _ (hn _ _ _ (fun y hy => by cases hy) (ok _ _ _ (by unfold I64w; omega) (by unfold I64w; omega) (by decide))) (ok _ _ _ (by unfold I64w; omega) (by unfold I64w; omega) hs.name)
theorem chkN_ok {d : DefD} (hs : SmallD d) : ∀ x ∈ chkN d, OkG x := by
  intro x hx
  have := (sortD_mem _ x).2 hx
  rw [← names_alike] at this
  exact names_ok hs x ((sortD_mem _ x).1 this)
theorem refs_few {d : DefD} (hs : SmallD d) : (refsF d.steps 0 d.steps).length ≤ 10000 := by
  have h1 := refsF_len d.steps (m := 70) d.steps 0 (fun s h => (hs.each s h).after)
  have h2 : d.steps.length * 70 ≤ 30 * 70 := Nat.mul_le_mul_right _ hs.steps
  omega
theorem chkN_few {d : DefD} (hs : SmallD d) : (chkN d).length ≤ 100000 := by
  unfold chkN
  have h1 := refsN_len d.steps (refsF d.steps 0 d.steps) [] (stepsN d.steps 0 d.steps (headN d))
  have h2 := stepsN_len d.steps d.steps 0 (headN d)
  have h3 := headN_len d
  have h4 := refs_few hs
  have h5 := hs.steps
  omega

end Go.Proofs.YtgfiogjfgbegpaaGreat

/-
  Sagas (no program): what stays true of a saga, whatever comes; what becomes of one that is driven.
-/
namespace Go.Proofs.YtgfiogjfgbegpaaGreat
open Go Go.RowKit

structure InvS (n : Nat) (S : SagD) : Prop where
  dn : ∀ i ∈ S.done, 0 ≤ i ∧ i < (n : Int)
  nd : S.done.Nodup
  ov : ∀ i ∈ S.done, (S.runs (i, false)).1 = 3
  ul : S.undone.length ≤ S.done.length
theorem InvS.dl {n : Nat} {S : SagD} (h : InvS n S) : S.done.length ≤ n := by
  have := nodup_sub_len (M := (List.range n).map fun i : Nat => (i : Int)) h.nd (fun x hx => by
    have h1 := h.dn x hx
    exact List.mem_map.2 ⟨x.toNat, List.mem_range.2 (by omega), by omega⟩)
  simpa using this
theorem InvS.good {n : Nat} {S : SagD} (h : InvS n S) : GoodS n S := ⟨h.dn, h.dl, Nat.le_trans h.ul h.dl⟩
theorem InvS.new (n : Nat) : InvS n newSag := ⟨(fun i h => by cases h), List.nodup_nil, (fun i h => by cases h), Nat.le_refl _⟩
theorem InvS.put {n : Nat} {X : AskX} {k : WayD} {r : RunD} (h : InvS n X.1) (hk : 0 ≤ k.1 ∧ k.1 < (n : Int)) (h3 : k.2 = false → (X.1.runs k).1 = 3 → r.1 = 3) : InvS n (putX X k r).1 := by
  have hov : ∀ i ∈ X.1.done, (if ((i, false) : WayD) = k then r else X.1.runs (i, false)).1 = 3 := by
    intro i hi
    by_cases e : ((i, false) : WayD) = k
    · rw [if_pos e]
      exact h3 (by rw [← e]) (by rw [← e]; exact h.ov i hi)
    · rw [if_neg e]
      exact h.ov i hi
  unfold putX
  split
  · rename_i hc
    refine ⟨?_, ?_, ?_, ?_⟩
    · intro i hi
      rcases List.mem_append.1 hi with h1 | h1
      · exact h.dn i h1
      · cases List.mem_singleton.1 h1
        exact hk
    · show (X.1.done ++ [k.1]).Nodup
      rw [List.nodup_append]
      refine ⟨h.nd, by simp, fun a ha b hb e => ?_⟩
      cases List.mem_singleton.1 hb
      have := h.ov a ha
      rw [e, show ((k.1, false) : WayD) = k from Prod.ext rfl hc.2.2.symm] at this
      exact hc.2.1 this
    · intro i hi
      show (if ((i, false) : WayD) = k then r else X.1.runs (i, false)).1 = 3
      rcases List.mem_append.1 hi with h1 | h1
      · exact hov i h1
      · cases List.mem_singleton.1 h1
        rw [if_pos (show ((k.1, false) : WayD) = k from Prod.ext rfl hc.2.2.symm)]
        exact hc.1
    · show X.1.undone.length ≤ (X.1.done ++ [k.1]).length
      rw [List.length_append]
      exact Nat.le_trans h.ul (Nat.le_add_right _ _)
  · split
    · exact ⟨h.dn, h.nd, hov, h.ul⟩
    · exact ⟨h.dn, h.nd, hov, h.ul⟩
theorem stopR_three {r : RunD} (h : r.1 = 3) : (stopR r).1 = 3 := by
  unfold stopR stopT
  rw [if_neg (by omega), if_neg (by omega)]
  exact h
theorem InvS.stop {n : Nat} {S : SagD} (h : InvS n S) (k : Nat) : InvS n (stopS k S) := by
  refine ⟨h.dn, h.nd, fun i hi => ?_, h.ul⟩
  unfold stopS
  dsimp only
  split
  · exact stopR_three (h.ov i hi)
  · exact h.ov i hi
theorem InvS.status {n : Nat} {S : SagD} (h : InvS n S) (s : Int) : InvS n { S with status := s } := ⟨h.dn, h.nd, h.ov, h.ul⟩
theorem InvS.beg {n : Nat} {l : List StepD} {rs : List (List Int)} {now : Int} {X : AskX} {i : Nat} (h : InvS n X.1) (hi : i < n) : InvS n (begX l rs now X i).1 := by
  unfold begX
  split
  · rename_i hr
    unfold readyB at hr
    simp only [Bool.and_eq_true, decide_eq_true_eq] at hr
    refine h.put ⟨by show (0 : Int) ≤ (i : Int); omega, by show (i : Int) < n; omega⟩ (fun _ e => ?_)
    have := hr.1
    unfold phaseI at this
    omega
  · exact h
theorem InvS.begs {n : Nat} {l : List StepD} {rs : List (List Int)} {now : Int} : ∀ (is : List Nat) (X : AskX), (∀ i ∈ is, i < n) → InvS n X.1 → InvS n (is.foldl (begX l rs now) X).1
  | [], _, _, h => h
  | i :: is, _X, hi, h => InvS.begs is _ (fun j hj => hi j (List.mem_cons_of_mem _ hj)) (h.beg (hi i List.mem_cons_self))
theorem InvS.forth {l : List StepD} {rs : List (List Int)} {now : Int} {X : AskX} (h : InvS l.length X.1) : InvS l.length (forthX l rs now X).1 := by
  unfold forthX
  split
  · exact (h.status 2).stop _
  · split
    · exact h.status 3
    · exact InvS.begs _ _ (fun i hi => List.mem_range.1 hi) h
theorem InvS.backL {l : List StepD} {now : Int} : ∀ (m : Nat) (X : AskX), X.1.undone.length + m ≤ X.1.done.length → InvS l.length X.1 → InvS l.length (backL l now m X).1
  | 0, _, _, h => h.status 4
  | m + 1, X, hm, h => by
    unfold Go.Proofs.YtgfiogjfgbegpaaGreat.backL
    dsimp only
    split
    · exact InvS.backL m _ (by show (X.1.undone ++ [_]).length + m ≤ X.1.done.length; rw [List.length_append]; simp only [List.length_cons, List.length_nil]; omega) ⟨h.dn, h.nd, h.ov, by show (X.1.undone ++ [_]).length ≤ X.1.done.length; rw [List.length_append]; simp only [List.length_cons, List.length_nil]; omega⟩
    · split
      · exact h.status 5
      · split
        · have hlt : X.1.done.length - 1 - X.1.undone.length < X.1.done.length := by omega
          have hmem : X.1.done[X.1.done.length - 1 - X.1.undone.length]?.getD 0 ∈ X.1.done := by
            rw [List.getElem?_eq_getElem hlt]
            exact List.getElem_mem hlt
          exact h.put (h.dn _ hmem) (fun e => by cases e)
        · exact h
theorem InvS.back {l : List StepD} {now : Int} {X : AskX} (h : InvS l.length X.1) : InvS l.length (backX l now X).1 := by
  unfold backX
  split
  · exact h
  · exact InvS.backL _ _ (by have := h.ul; omega) h
theorem InvS.on {l : List StepD} {rs : List (List Int)} {now : Int} {X : AskX} (h : InvS l.length X.1) : InvS l.length (onX l rs now X).1 := by
  have hY : InvS l.length (if X.1.status = 1 then forthX l rs now X else X).1 := by
    split
    · exact h.forth
    · exact h
  unfold onX
  dsimp only
  generalize (if X.1.status = 1 then forthX l rs now X else X) = Y at *
  split
  · exact hY.back
  · exact hY
theorem InvS.start {l : List StepD} {rs : List (List Int)} {S : SagD} (h : InvS l.length S) (now : Int) : InvS l.length (startX l rs S now).1 := by
  unfold startX
  split
  · exact InvS.on (X := ({ S with status := 1 }, [])) (h.status 1)
  · exact h
theorem ansR_was {s : StepD} {r : RunD} {now tr o : Int} (h : (ansR s r now tr o).2 = true) : r.1 = 1 := by
  unfold ansR answerT at h
  split at h
  · rename_i h1
    exact h1.1
  · cases h
theorem tickR_was {s : StepD} {r : RunD} {now : Int} (h : (tickR s r now).2 = true) : r.1 = 1 ∨ r.1 = 2 := by
  unfold tickR tickT at h
  split at h
  · split at h
    · rename_i h1
      exact .inl h1
    · split at h
      · rename_i h1
        exact .inr h1
      · cases h
  · cases h
theorem InvS.answer {l : List StepD} {rs : List (List Int)} {S : SagD} (h : InvS l.length S) (k : WayD) (tr o now : Int) : InvS l.length (answerX l rs S k tr o now).1.1 := by
  unfold answerX
  split
  · rename_i hc
    dsimp only
    split
    · rename_i h2
      refine InvS.on (InvS.put (X := (S, [])) h hc.2 (fun _ e => ?_))
      have := ansR_was h2
      dsimp only at e
      omega
    · exact h
  · exact h
theorem waysD_in {n : Nat} {k : WayD} (h : k ∈ waysD n) : 0 ≤ k.1 ∧ k.1 < (n : Int) := by
  unfold waysD at h
  rcases List.mem_append.1 h with h1 | h1
  · obtain ⟨i, hi, rfl⟩ := List.mem_map.1 h1
    have := List.mem_range.1 hi
    exact ⟨by show (0 : Int) ≤ (i : Int); omega, by show (i : Int) < n; omega⟩
  · obtain ⟨i, hi, rfl⟩ := List.mem_map.1 h1
    have := List.mem_range.1 hi
    exact ⟨by show (0 : Int) ≤ (i : Int); omega, by show (i : Int) < n; omega⟩
theorem InvS.tk {n : Nat} {l : List StepD} {now : Int} {X : AskX} {k : WayD} (h : InvS n X.1) (hk : 0 ≤ k.1 ∧ k.1 < (n : Int)) : InvS n (tkX l now X k).1 := by
  unfold tkX
  dsimp only
  split
  · rename_i h2
    refine h.put hk (fun _ e => ?_)
    have := tickR_was h2
    omega
  · exact h
theorem InvS.tks {n : Nat} {l : List StepD} {now : Int} : ∀ (ks : List WayD) (X : AskX), (∀ k ∈ ks, 0 ≤ k.1 ∧ k.1 < (n : Int)) → InvS n X.1 → InvS n (ks.foldl (tkX l now) X).1
  | [], _, _, h => h
  | k :: ks, _X, hk, h => InvS.tks ks _ (fun j hj => hk j (List.mem_cons_of_mem _ hj)) (h.tk (hk k List.mem_cons_self))
theorem InvS.tick {l : List StepD} {rs : List (List Int)} {S : SagD} (h : InvS l.length S) (now : Int) : InvS l.length (tickX l rs S now).1 := by
  unfold tickX
  split
  · exact InvS.on (InvS.tks _ _ (fun k hk => waysD_in hk) h)
  · exact h

/-! A saga that is driven. -/
abbrev SayD := Int × Int × Int × Bool × Int
def saysAt (ss : List SayD) (n : Int) : List SayD := ss.filter fun x => decide (x.1 = n)
def answO (l : List StepD) (rs : List (List Int)) (now : Int) (p : SagD × Int) (x : SayD) : SagD × Int :=
  ((answerX l rs p.1 (x.2.1, x.2.2.2.1) x.2.2.1 x.2.2.2.2 now).1.1, wrap64 (p.2 + ((answerX l rs p.1 (x.2.1, x.2.2.2.1) x.2.2.1 x.2.2.2.2 now).1.2.length : Int)))
def tickO (l : List StepD) (rs : List (List Int)) (now : Int) (p : SagD × Int) : SagD × Int :=
  if 0 < now then ((tickX l rs p.1 now).1, wrap64 (p.2 + ((tickX l rs p.1 now).2.length : Int))) else p
def roundO (l : List StepD) (rs : List (List Int)) (ss : List SayD) (now : Int) (p : SagD × Int) : SagD × Int :=
  tickO l rs now ((saysAt ss now).foldl (answO l rs now) p)
def driveO (l : List StepD) (rs : List (List Int)) (ss : List SayD) : List Nat → Int × SagD × Int → Int × SagD × Int
  | [], p => p
  | n :: ns, p => if overB (roundO l rs ss (n : Int) p.2).1 then ((n : Int), roundO l rs ss (n : Int) p.2) else driveO l rs ss ns ((n : Int), roundO l rs ss (n : Int) p.2)
def beginO (l : List StepD) (rs : List (List Int)) : Int × SagD × Int := (0, (startX l rs newSag 0).1, ((startX l rs newSag 0).2.length : Int))
def driveX (l : List StepD) (rs : List (List Int)) (ss : List SayD) (b : Nat) : Int × Int × Int :=
  ((driveO l rs ss (List.range (b + 1)) (beginO l rs)).2.1.status, (driveO l rs ss (List.range (b + 1)) (beginO l rs)).1, (driveO l rs ss (List.range (b + 1)) (beginO l rs)).2.2)
theorem beginO_inv (l : List StepD) (rs : List (List Int)) : InvS l.length (beginO l rs).2.1 := (InvS.new l.length).start 0

/-! Answers that come twice. -/
end Go.Proofs.YtgfiogjfgbegpaaGreat

/-
  lint.rounds, gather, All, Clean: contracts.
-/
namespace Go.Proofs.YtgfiogjfgbegpaaGreat
open Go Go.RowKit Go.WideShapes

def nameI (d : DefD) (i : Int) : ByteArray := (d.steps[i.toNat]?.getD default).name
def rndG (d : DefD) : List DiagD := (rndL (depsA d.steps 0 d.steps) (depsA d.steps 0 d.steps).length).map fun i => (i, 16, nameI d i)
theorem rndL_in {R : List (List Int)} {k : Nat} {x : Int} (h : x ∈ rndL R k) : ∃ n : Nat, x = (n : Int) ∧ n < k := by
  unfold rndL at h
  simp only [List.mem_map, List.mem_filter, List.mem_range] at h
  obtain ⟨n, ⟨h1, _⟩, rfl⟩ := h
  exact ⟨n, rfl, h1⟩
theorem rndG_len (d : DefD) : (rndG d).length ≤ d.steps.length := by
  unfold rndG
  rw [List.length_map]
  exact Nat.le_trans (rndL_len _ _) (by rw [depsA_len]; exact Nat.le_refl _)
theorem rndG_ok {d : DefD} (hs : SmallD d) : ∀ x ∈ rndG d, OkG x := by
  intro x hx
  unfold rndG at hx
  obtain ⟨i, hi, rfl⟩ := List.mem_map.1 hx
  obtain ⟨n, rfl, hn⟩ := rndL_in hi
  rw [depsA_len] at hn
  have := hs.steps
  refine ⟨by unfold I64w; omega, by unfold I64w; show (-9223372036854775808 : Int) ≤ 16 ∧ (16 : Int) ≤ 9223372036854775807; decide, ?_⟩
  unfold nameI
  rw [Int.toNat_natCast, List.getElem?_eq_getElem hn]
  have := (hs.each _ (List.getElem_mem hn)).name
  unfold maxLen
  show d.steps[n].name.size ≤ _
  omega
theorem field_faultI {c0 c1 : Value} {w : World} : (Instr.field 79 (.agg #[c0, c1]) 0).run Tryz.prog w = .ok c0 w := by kernel_rfl
set_option maxRecDepth 100000 in
set_option maxHeartbeats 2000000 in
theorem rounds_any (d : DefD) (cs : List Value) (sa : Option Addr) (sc : Nat) (w : World) (h : DefR w cs d sa sc) (hs : SmallD d) :
    Calls Tryz.prog 71 #[.agg cs.toArray] w fun e w' => ∃ va vc, e = .returned (.slice va (rndG d).length vc) ∧ DgR w' (.slice va (rndG d).length vc) (rndG d) ∧ Below w.heap.size w w' := by
  obtain ⟨i0, hi, hz0, hz1, hz2⟩ := info_parts Tryz.info_diag
  have hn30 := hs.steps
  have HOK := Lib.hid (rndG_ok hs)
  have HFEW := Lib.hid (refs_few hs)
  obtain ⟨rfl, hnm, htx, hst⟩ := h
  have hb0 := (Below.refl w.heap.size w).alloc (Nat.le_refl _) (.cells #[.string d.name, .string d.text, .slice sa d.steps.length sc] 24)
  have g0 := World.alloc_heap_new w (.cells #[.string d.name, .string d.text, .slice sa d.steps.length sc] 24)
  have HST := Lib.hid hst
  clear hs hst
  go_enter Tryz.func71, Tryz.ntmps71
  go_upto_region 2 with fail
  generalize w.alloc (.cells #[.string d.name, .string d.text, .slice sa d.steps.length sc] 24) = w0 at *
  have HD0 := Lib.hid (show DefR w0 _ d sa sc from ⟨rfl, hnm, htx, HST.out.below hb0⟩)
  have HB0 := Lib.hid hb0
  obtain ⟨p0, p1, p2, -, -, -⟩ := cells3h g0
  have HG0 := Lib.hid g0
  clear hb0 g0
  go_wp2_with fail
  refine (nRefs_any d _ sa sc w0 HD0.out (by omega) (by have := HFEW.out; omega)).mono ?_
  rintro e w1 ⟨v1, rfl, hr1, hb1⟩
  have HB1 := Lib.hid (bthen HB0.out (Nat.le_refl _) hb1)
  have HB1' := Lib.hid hb1
  have HR1 := Lib.hid hr1
  clear hr1 hb1 p0 p1 p2
  go_wp2_with fail
  refine (Round_any _ _ w1 HR1.out (by rw [depsA_len]; omega)).mono ?_
  rintro e w2 ⟨v2, rfl, ho2, hb2⟩
  have HB2 := Lib.hid (bthen HB1.out (Nat.le_refl _) hb2)
  have HRD := Lib.hid (RdS.of_owns ho2)
  obtain ⟨ra, rc, rfl⟩ := (RdS.of_owns ho2).form
  have hgl : (rndG d).length = (rndL (depsA d.steps 0 d.steps) (depsA d.steps 0 d.steps).length).length := by unfold rndG; rw [List.length_map]
  have hgle := rndG_len d
  have HGE : Hid (∀ (j : Nat) (hj : j < (rndG d).length), ∃ n : Nat, n < d.steps.length ∧ (rndL (depsA d.steps 0 d.steps) (depsA d.steps 0 d.steps).length)[j]? = some (n : Int) ∧ (rndG d)[j]? = some ((n : Int), 16, (d.steps[n]?.getD default).name)) := Lib.hid (fun j hj => by
    have hj' : j < (rndL (depsA d.steps 0 d.steps) (depsA d.steps 0 d.steps).length).length := by omega
    obtain ⟨n, hn, hn2⟩ := rndL_in (List.getElem_mem hj')
    rw [depsA_len] at hn2
    refine ⟨n, hn2, by rw [List.getElem?_eq_getElem hj', hn], ?_⟩
    unfold rndG
    rw [List.getElem?_map, List.getElem?_eq_getElem hj', hn]
    rfl)
  have HBW := Lib.hid hb2
  generalize rndL (depsA d.steps 0 d.steps) (depsA d.steps 0 d.steps).length = RL at *
  have hsz2 := HB2.out.size
  clear ho2 hb2
  have HRL := Lib.hid hgl
  clear hgl
  have HON : Hid (OwnG w2 w2.heap.size none 0 ((rndG d).take 0)) := Lib.hid (OwnG.nil _ _)
  go_wp2_with fail
  go_loopg [3, 10] (RL.length + 1) (fun gk out i wi => ∃ (j : Nat) (va : Option Addr) (vc : Nat), j + gk = RL.length + 1 ∧ j ≤ RL.length ∧ i = .int .i64 j ∧ out = .slice va j vc ∧ Hid (OwnG wi w2.heap.size va vc ((rndG d).take j)) ∧ Hid (Below w2.heap.size w2 wi))
  case atStart => exact ⟨0, none, 0, by omega, by omega, rfl, rfl, HON, Lib.hid (Below.refl _ _)⟩
  case round =>
    obtain ⟨j, va, vc, hgk, hj, rfl, rfl, HO, HB⟩ := hrel
    have hg : gk = RL.length + 1 - j := by omega
    subst hg
    by_cases hjl : j < RL.length
    · have d1 : decide ((j : Int) < (RL.length : Int)) = true := decide_eq_true (by omega)
      have hj1 : (j : Int) < (RL.length : Int) := by omega
      have hj0 : (0 : Int) ≤ (j : Int) := by omega
      obtain ⟨n, hn, hrl, hgd⟩ := HGE.out j (by have := HRL.out; omega)
      have hn0 : (0 : Int) ≤ (n : Int) := by omega
      have hn1 : (n : Int) < (d.steps.length : Int) := by omega
      rw [List.getElem?_eq_getElem hn, Option.getD_some] at hgd
      rcases HRD.out.cases (by decide) with ⟨h0, _⟩ | ⟨_, _, g2, off2, cap2, he2, _, _, q3⟩
      · omega
      cases he2
      have z0 := cellB HB.out (q3 j (.int .i64 (n : Int)) (by unfold ints; rw [List.getElem?_map, hrl]; rfl))
      have hbw : Below w0.heap.size w0 wr := bthen (bthen HB1'.out (Nat.le_refl _) HBW.out) (Nat.le_refl _) HB.out
      obtain ⟨-, -, p2, -, -, -⟩ := cells3h ((hbw.block _ (Array.getElem?_eq_some_iff.1 HG0.out).1).trans HG0.out)
      obtain ⟨g, off, cap, aa, ac, ka, kc, ba, bc, he, hcl, hcu, hst', hat⟩ := (HD0.out.below hbw).steps.at hn
      have t0 := hat.q0
      cases he
      have hwsz := HB.out.size
      have HTK : Hid ((rndG d).take (j + 1) = (rndG d).take j ++ [((n : Int), 16, d.steps[n].name)]) := Lib.hid (by rw [List.take_add_one, hgd]; rfl)
      have htl : ((rndG d).take j).length = j := by rw [List.length_take]; have := HRL.out; omega
      have HO' : Hid (wr.ownsRow w2.heap.size 154 3 (.slice va j vc) j (flatG ((rndG d).take j))) := Lib.hid (by have := HO.out; unfold OwnG at this; rw [htl] at this; exact this)
      have HTL := Lib.hid htl
      clear hat hst' hgd hrl q3 hbw htl hcl hcu
      go_wp2_with (at_builtin; go_must (refine wpList_push rfl _ _ 76 rfl w2.heap.size 154 i0 (.agg #[.int .i64 0, .int .i64 0, .string { data := #[] }]) 3 32 Tryz.underlying76 hi hz0 hz1 hz2 rfl (by decide) (.slice va j vc) j (flatG ((rndG d).take j)) rfl (HO'.out.alloc _) ⟨wr.heap.size, 0, none⟩ 1 1 (encG ((n : Int), 16, d.steps[n].name)) rfl rfl cells3_new (encG_one ((n : Int), 16, d.steps[n].name)) (by have := HRL.out; unfold maxLen; omega) (by have := HRL.out; omega) (by simp; omega) ?_; intro v' w4 hown' hgrow hfr; obtain ⟨va', vc', rfl, kb1, kb2, kb3⟩ := ownG_pushed (l := (rndG d).take j) HO.out hwsz (by rw [HTL.out]; exact hown') (by rw [HTL.out]; exact hgrow); have KB1 := Lib.hid kb1; have KB2 := Lib.hid kb2; clear hown' hgrow hfr kb1 kb2 kb3))
      go_roundg (RL.length + 1 - (j + 1))
      case measure => omega
      case rel => exact ⟨j + 1, va', vc', by omega, by omega, by go_num, by first | rfl | (have := HRL.out; rw [show min j (rndG d).length = j by omega]), by rw [HTK.out]; exact KB1, Lib.hid (HB.out.trans KB2.out)⟩
    · have d1 : decide ((j : Int) < (RL.length : Int)) = false := decide_eq_false (by omega)
      obtain rfl : j = RL.length := by omega
      have hal : (rndG d).take RL.length = rndG d := List.take_of_length_le (by have := HRL.out; omega)
      have HO2 := HO.out
      rw [hal] at HO2
      have HF := Lib.hid (HO2.read HOK.out)
      clear HO2 hal
      go_wp2_with fail
      go_ret
      exact ⟨va, vc, by rw [HRL.out]; rfl, HF.out, HB2.out.trans (HB.out.mono hsz2)⟩
def gatP (d : DefD) : Nat → List DiagD
  | 0 => []
  | 1 => sortD (chkN d)
  | 2 => sortD (chkN d) ++ sortD (chkU d.steps d.steps.length (chkR 0 d.steps []))
  | _ => sortD (chkN d) ++ sortD (chkU d.steps d.steps.length (chkR 0 d.steps [])) ++ rndG d
theorem flatG_one (l : List DiagD) : ∀ u ∈ flatG l, u.oneCell' = true := by
  intro u hu
  unfold flatG at hu
  obtain ⟨x, _, hx⟩ := List.mem_flatMap.1 hu
  exact encG_one x u hx
theorem gat_pushed {W w1 : World} {B vc vc' : Nat} {va va' : Option Addr} {l m : List DiagD} (h : OwnG W B va vc l) (hB : B ≤ W.heap.size) (hown' : w1.ownsRow B 154 3 (.slice va' (l.length + m.length) vc') (l.length + m.length) (flatG l ++ flatG m)) (hgrow : W.grownBy w1 (Value.slice va l.length vc).ownBlock) :
    OwnG w1 B va' vc' (l ++ m) ∧ Below B W w1 := by
  refine ⟨?_, (Below.refl B W).grown hgrow hB (fun j ej => (World.ownsRow.lt h j ej).1)⟩
  unfold OwnG
  rw [List.length_append]
  have : flatG (l ++ m) = flatG l ++ flatG m := by unfold flatG; rw [List.flatMap_append]
  rw [this]
  exact hown'
theorem gatL_len {d : DefD} (hs : SmallD d) : (sortD (chkN d)).length ≤ 100000 ∧ (sortD (chkU d.steps d.steps.length (chkR 0 d.steps []))).length ≤ 100000 ∧ (rndG d).length ≤ 30 := by
  have h1 := sortD_len (chkN d)
  have h2 := chkN_few hs
  have h3 := sortD_len (chkU d.steps d.steps.length (chkR 0 d.steps []))
  have h4 := chkU_len d.steps (m := 70) (fun s h => (hs.each s h).after) d.steps.length (chkR 0 d.steps [])
  have h5 := chkR_len d.steps 0 []
  have h6 := rndG_len d
  have h7 := hs.steps
  have h8 : d.steps.length * 70 ≤ 30 * 70 := Nat.mul_le_mul_right _ h7
  simp only [List.length_nil] at h5
  omega
set_option maxRecDepth 100000 in
set_option maxHeartbeats 2000000 in
theorem gather_any (d : DefD) (cs : List Value) (sa : Option Addr) (sc Q : Nat) (w : World) (h : DefR w cs d sa sc) (hs : SmallD d) (hQ : w.heap[Q]? = some (.cells #[.func (.func 69) #[] #[], .func (.func 70) #[] #[], .func (.func 71) #[] #[]] 77 (0, 0))) :
    Calls Tryz.prog 68 #[.agg cs.toArray, .slice (some ⟨Q, 0, none⟩) 3 3] w fun e w' => ∃ va vc, e = .returned (.slice va (sortD (gatP d 3)).length vc) ∧ Below w.heap.size w w' := by
  obtain ⟨i0, hi, hz0, hz1, hz2⟩ := info_parts Tryz.info_diag
  have hn30 := hs.steps
  have HS := Lib.hid hs
  have HLEN := Lib.hid (gatL_len hs)
  have hb0 := (Below.refl w.heap.size w).alloc (Nat.le_refl _) (.cells #[.string d.name, .string d.text, .slice sa d.steps.length sc] 24)
  have g0 := World.alloc_heap_new w (.cells #[.string d.name, .string d.text, .slice sa d.steps.length sc] 24)
  obtain ⟨rfl, hnm, htx, hst⟩ := h
  have HST := Lib.hid hst
  have hQl := (Array.getElem?_eq_some_iff.1 hQ).1
  clear hs hst
  go_enter Tryz.func68, Tryz.ntmps68
  go_upto_region 2 with fail
  generalize w.alloc (.cells #[.string d.name, .string d.text, .slice sa d.steps.length sc] 24) = w0 at *
  have HD0 := Lib.hid (show DefR w0 _ d sa sc from ⟨rfl, hnm, htx, HST.out.below hb0⟩)
  have HB0 := Lib.hid hb0
  have HG0 := Lib.hid g0
  have HQ0 := Lib.hid ((hb0.block _ hQl).trans hQ)
  have hsz0 := hb0.size
  clear hb0 g0 hQ
  have HON : Hid (OwnG w0 w0.heap.size none 0 (gatP d 0)) := Lib.hid (OwnG.nil _ _)
  have hl0 := (Array.getElem?_eq_some_iff.1 HG0.out).1
  go_wp2_with fail
  go_loopg [5, 10] 4 (fun gk out i wi => ∃ (j : Nat) (va : Option Addr) (vc : Nat), j + gk = 4 ∧ j ≤ 3 ∧ i = .int .i64 j ∧ out = .slice va (gatP d j).length vc ∧ Hid (OwnG wi w0.heap.size va vc (gatP d j)) ∧ Hid (Below w0.heap.size w0 wi))
  case atStart => exact ⟨0, none, 0, by omega, by omega, rfl, rfl, HON, Lib.hid (Below.refl _ _)⟩
  case round =>
    obtain ⟨j, va, vc, hgk, hj, rfl, rfl, HO, HB⟩ := hrel
    have hg : gk = 4 - j := by omega
    subst hg
    obtain ⟨p0, p1, p2, -, -, -⟩ := cells3h ((HB.out.block _ hl0).trans HG0.out)
    obtain ⟨f0, f1, f2, -, -, -⟩ := cells3h ((HB.out.block _ (Nat.lt_of_lt_of_le hQl hsz0)).trans HQ0.out)
    have HDr := Lib.hid (HD0.out.below HB.out)
    by_cases hj3 : j < 3
    · rcases (by omega : j = 0 ∨ j = 1 ∨ j = 2) with rfl | rfl | rfl
      · go_wp2_with fail
        refine (nCheck_any d _ sa sc _ HDr.out HS.out (refs_few HS.out) (chkN_ok HS.out)).mono ?_
        rintro e w1 ⟨ga, gc, rfl, hdg, hbg⟩
        have HO1 := Lib.hid (HO.out.below hbg)
        have HB1 := Lib.hid (bthen HB.out (Nat.le_refl _) hbg)
        have hsz1 := HB1.out.size
        have HDG := Lib.hid hdg
        have hL1 := HLEN.out.1
        have hL2 := HLEN.out.2.1
        have hL3 := HLEN.out.2.2
        clear hdg hbg p0 p1 p2 f0 f1 f2
        go_wp2_with (at_builtin; go_must (refine wpList_pushS rfl _ _ 76 rfl w0.heap.size 154 i0 (.agg #[.int .i64 0, .int .i64 0, .string { data := #[] }]) 3 32 Tryz.underlying76 hi hz0 hz1 hz2 rfl (by decide) (.slice va (gatP d 0).length vc) (gatP d 0).length (flatG (gatP d 0)) rfl HO1.out _ _ _ rfl HDG.out.1 (flatG_one _) (by unfold maxLen; simp only [gatP, List.length_nil]; omega) (by simp only [gatP, List.length_nil]; omega) hsz1 ?_; intro v' w2 hown' hgrow hfr; obtain ⟨va', vc', rfl⟩ := (RdS.of_owns hown').form; have HN := Lib.hid (gat_pushed HO1.out hsz1 hown' hgrow); clear hown' hgrow hfr))
        have HN2 : Hid (OwnG _ w0.heap.size va' vc' (gatP d 1)) := Lib.hid HN.out.1
        go_roundg (4 - (0 + 1))
        case measure => omega
        case rel => exact ⟨0 + 1, va', vc', by omega, by omega, by go_num, by rw [show gatP d (0 + 1) = gatP d 0 ++ sortD (chkN d) from rfl, List.length_append], HN2, Lib.hid (HB1.out.trans HN.out.2)⟩
      · go_wp2_with fail
        refine (bCheck_any d _ sa sc _ HDr.out (by omega) (fun s h => Nat.le_trans (HS.out.each s h).after (by omega)) (Nat.le_trans (refs_few HS.out) (by omega)) (chk_ok HS.out)).mono ?_
        rintro e w1 ⟨ga, gc, rfl, hdg, hbg⟩
        have HO1 := Lib.hid (HO.out.below hbg)
        have HB1 := Lib.hid (bthen HB.out (Nat.le_refl _) hbg)
        have hsz1 := HB1.out.size
        have HDG := Lib.hid hdg
        have hL1 := HLEN.out.1
        have hL2 := HLEN.out.2.1
        have hL3 := HLEN.out.2.2
        clear hdg hbg p0 p1 p2 f0 f1 f2
        go_wp2_with (at_builtin; go_must (refine wpList_pushS rfl _ _ 76 rfl w0.heap.size 154 i0 (.agg #[.int .i64 0, .int .i64 0, .string { data := #[] }]) 3 32 Tryz.underlying76 hi hz0 hz1 hz2 rfl (by decide) (.slice va (gatP d 1).length vc) (gatP d 1).length (flatG (gatP d 1)) rfl HO1.out _ _ _ rfl HDG.out.1 (flatG_one _) (by unfold maxLen; simp only [gatP]; omega) (by simp only [gatP]; omega) hsz1 ?_; intro v' w2 hown' hgrow hfr; obtain ⟨va', vc', rfl⟩ := (RdS.of_owns hown').form; have HN := Lib.hid (gat_pushed HO1.out hsz1 hown' hgrow); clear hown' hgrow hfr))
        have HN2 : Hid (OwnG _ w0.heap.size va' vc' (gatP d 2)) := Lib.hid HN.out.1
        go_roundg (4 - (1 + 1))
        case measure => omega
        case rel => exact ⟨1 + 1, va', vc', by omega, by omega, by go_num, by rw [show gatP d (1 + 1) = gatP d 1 ++ sortD (chkU d.steps d.steps.length (chkR 0 d.steps [])) from rfl, List.length_append], HN2, Lib.hid (HB1.out.trans HN.out.2)⟩
      · go_wp2_with fail
        refine (rounds_any d _ sa sc _ HDr.out HS.out).mono ?_
        rintro e w1 ⟨ga, gc, rfl, hdg, hbg⟩
        have HO1 := Lib.hid (HO.out.below hbg)
        have HB1 := Lib.hid (bthen HB.out (Nat.le_refl _) hbg)
        have hsz1 := HB1.out.size
        have HDG := Lib.hid hdg
        have hL1 := HLEN.out.1
        have hL2 := HLEN.out.2.1
        have hL3 := HLEN.out.2.2
        clear hdg hbg p0 p1 p2 f0 f1 f2
        go_wp2_with (at_builtin; go_must (refine wpList_pushS rfl _ _ 76 rfl w0.heap.size 154 i0 (.agg #[.int .i64 0, .int .i64 0, .string { data := #[] }]) 3 32 Tryz.underlying76 hi hz0 hz1 hz2 rfl (by decide) (.slice va (gatP d 2).length vc) (gatP d 2).length (flatG (gatP d 2)) rfl HO1.out _ _ _ rfl HDG.out.1 (flatG_one _) (by unfold maxLen; simp only [List.length_append, gatP]; omega) (by simp only [gatP, List.length_append]; omega) hsz1 ?_; intro v' w2 hown' hgrow hfr; obtain ⟨va', vc', rfl⟩ := (RdS.of_owns hown').form; have HN := Lib.hid (gat_pushed HO1.out hsz1 hown' hgrow); clear hown' hgrow hfr))
        have HN2 : Hid (OwnG _ w0.heap.size va' vc' (gatP d 3)) := Lib.hid HN.out.1
        go_roundg (4 - (2 + 1))
        case measure => omega
        case rel => exact ⟨2 + 1, va', vc', by omega, by omega, by go_num, by rw [show gatP d (2 + 1) = gatP d 2 ++ rndG d from rfl, List.length_append], HN2, Lib.hid (HB1.out.trans HN.out.2)⟩
    · obtain rfl : j = 3 := by omega
      have HRD := Lib.hid (HO.out.read (show ∀ x ∈ gatP d 3, OkG x from fun x hx => by
        rcases List.mem_append.1 hx with hx | hx
        · rcases List.mem_append.1 hx with hx | hx
          · exact chkN_ok HS.out x ((sortD_mem _ x).1 hx)
          · exact chk_ok HS.out x ((sortD_mem _ x).1 hx)
        · exact rndG_ok HS.out x hx))
      have hgl : (gatP d 3).length ≤ 1000000 := by
        have h1 := HLEN.out.1
        have h2 := HLEN.out.2.1
        have h3 := HLEN.out.2.2
        simp only [gatP, List.length_append]
        omega
      have HSO := Lib.hid (dSort_any (gatP d 3) _ wr HRD.out hgl)
      have HF := Lib.hid (HB0.out.trans (HB.out.mono hsz0))
      clear hgl p0 p1 p2 f0 f1 f2
      go_wp2_with fail
      refine HSO.out.mono ?_
      rintro e w2 ⟨va', vc', rfl, ho, hb2⟩
      have HF2 := Lib.hid (bthen HF.out (Nat.le_refl _) hb2)
      clear ho hb2
      go_wp2_with fail
      go_ret
      exact ⟨va', vc', rfl, HF2.out⟩
set_option maxRecDepth 100000 in
set_option maxHeartbeats 2000000 in
theorem All_any' (d : DefD) (cs : List Value) (sa : Option Addr) (sc : Nat) (w : World) (h : DefR w cs d sa sc) (hs : SmallD d) :
    Calls Tryz.prog 35 #[.agg cs.toArray] w fun e w' => ∃ va vc, e = .returned (.slice va (sortD (gatP d 3)).length vc) ∧ Below w.heap.size w w' := by
  obtain ⟨rfl, hnm, htx, hst⟩ := h
  have hb0 : Below w.heap.size w ((w.alloc (.cells #[.string d.name, .string d.text, .slice sa d.steps.length sc] 24)).alloc (.cells #[.func (.func 69) #[] #[], .func (.func 70) #[] #[], .func (.func 71) #[] #[]] 77)) := ((Below.refl _ w).alloc (Nat.le_refl _) _).alloc (by simp) _
  have g0 : ((w.alloc (.cells #[.string d.name, .string d.text, .slice sa d.steps.length sc] 24)).alloc (.cells #[.func (.func 69) #[] #[], .func (.func 70) #[] #[], .func (.func 71) #[] #[]] 77)).heap[w.heap.size + 1]? = some (.cells #[.func (.func 69) #[] #[], .func (.func 70) #[] #[], .func (.func 71) #[] #[]] 77 (0, 0)) := by
    have := World.alloc_heap_new (w.alloc (.cells #[.string d.name, .string d.text, .slice sa d.steps.length sc] 24)) (.cells #[.func (.func 69) #[] #[], .func (.func 70) #[] #[], .func (.func 71) #[] #[]] 77)
    rwa [World.size_alloc] at this
  have HG := Lib.hid (gather_any d _ sa sc (w.heap.size + 1) ((w.alloc (.cells #[.string d.name, .string d.text, .slice sa d.steps.length sc] 24)).alloc (.cells #[.func (.func 69) #[] #[], .func (.func 70) #[] #[], .func (.func 71) #[] #[]] 77)) ⟨rfl, hnm, htx, hst.below hb0⟩ hs g0)
  have HB := Lib.hid hb0
  clear hst hs hb0 g0
  go_enter Tryz.func35, Tryz.ntmps35
  go_wp2_with fail
  refine HG.out.mono ?_
  rintro e w2 ⟨va, vc, rfl, hb2⟩
  have HF := Lib.hid (bthen HB.out (Nat.le_refl _) hb2)
  clear hb2
  go_wp2_with fail
  go_ret
  exact ⟨va, vc, rfl, HF.out⟩
def cleanB (d : DefD) : Bool := decide ((sortD (gatP d 3)).length = 0) && decide ((defC d).1 = 0)
set_option maxRecDepth 100000 in
set_option maxHeartbeats 2000000 in
theorem Clean_any (d : DefD) (cs : List Value) (sa : Option Addr) (sc : Nat) (w : World) (h : DefR w cs d sa sc) (hs : SmallD d) :
    Calls Tryz.prog 11 #[.agg cs.toArray] w fun e w' => e = .returned (.bool (cleanB d)) ∧ Below w.heap.size w w' := by
  obtain ⟨rfl, hnm, htx, hst⟩ := h
  have hb0 := (Below.refl w.heap.size w).alloc (Nat.le_refl _) (.cells #[.string d.name, .string d.text, .slice sa d.steps.length sc] 24)
  have g0 := World.alloc_heap_new w (.cells #[.string d.name, .string d.text, .slice sa d.steps.length sc] 24)
  have HD0 := Lib.hid (show DefR (w.alloc (.cells #[.string d.name, .string d.text, .slice sa d.steps.length sc] 24)) [.string d.name, .string d.text, .slice sa d.steps.length sc] d sa sc from ⟨rfl, hnm, htx, hst.below hb0⟩)
  have HS := Lib.hid hs
  have HB := Lib.hid hb0
  have HG := Lib.hid g0
  clear hst hs hb0 g0
  unfold cleanB
  by_cases hl : (sortD (gatP d 3)).length = 0
  case neg =>
    have hr : (decide ((sortD (gatP d 3)).length = 0) && decide ((defC d).1 = 0)) = false := by simp [hl]
    have hd : (((sortD (gatP d 3)).length : Int) == 0) = false := beq_eq_false_iff_ne.2 (by omega)
    rw [hr]
    clear hr hl
    have HAL := Lib.hid (All_any' d _ sa sc _ HD0.out HS.out)
    generalize (sortD (gatP d 3)).length = n at *
    go_enter Tryz.func11, Tryz.ntmps11
    go_upto_region 1 with fail
    generalize w.alloc (.cells #[.string d.name, .string d.text, .slice sa d.steps.length sc] 24) = w0 at *
    obtain ⟨p0, p1, p2, -, -, -⟩ := cells3h HG.out
    go_wp2_with fail
    refine HAL.out.mono ?_
    rintro e w2 ⟨va, vc, rfl, hb2⟩
    have HF := Lib.hid (bthen HB.out (Nat.le_refl _) hb2)
    clear hb2
    go_wp2_with fail
    go_ret
    exact ⟨rfl, HF.out⟩
  have hd : (((sortD (gatP d 3)).length : Int) == 0) = true := beq_iff_eq.2 (by omega)
  have hr : (decide ((sortD (gatP d 3)).length = 0) && decide ((defC d).1 = 0)) = ((defC d).1 == 0) := by simp [hl]; rfl
  rw [hr]
  clear hr hl
  have HAL := Lib.hid (All_any' d _ sa sc _ HD0.out HS.out)
  generalize (sortD (gatP d 3)).length = n at *
  go_enter Tryz.func11, Tryz.ntmps11
  go_upto_region 1 with fail
  generalize w.alloc (.cells #[.string d.name, .string d.text, .slice sa d.steps.length sc] 24) = w0 at *
  obtain ⟨p0, p1, p2, -, -, -⟩ := cells3h HG.out
  go_wp2_with fail
  refine HAL.out.mono ?_
  rintro e w2 ⟨va, vc, rfl, hb2⟩
  have HF := Lib.hid (bthen HB.out (Nat.le_refl _) hb2)
  have HD2 := Lib.hid (HD0.out.below hb2)
  have hff := @field_faultI
  clear p0 p1 p2
  obtain ⟨p0, p1, p2, -, -, -⟩ := cells3h ((hb2.block _ (Array.getElem?_eq_some_iff.1 HG.out).1).trans HG.out)
  clear hb2
  go_wp2_with fail
  refine (dCheck_any d _ sa sc w2 HD2.out HS.out).mono ?_
  rintro e w3 ⟨rfl, hb3⟩
  have HF3 := Lib.hid (bthen HF.out (Nat.le_refl _) hb3)
  clear hb3 p0 p1 p2
  unfold faultV
  go_wp2_with fail
  go_ret
  exact ⟨rfl, HF3.out⟩
end Go.Proofs.YtgfiogjfgbegpaaGreat

/-
  Definitions that are clean (no program): what is true of them.
-/
namespace Go.Proofs.YtgfiogjfgbegpaaGreat
open Go Go.RowKit

theorem len_none {l : List DiagD} (h : (sortD l).length = 0) : l = [] := sort_none (by omega)
theorem clean_parts {d : DefD} (h : cleanB d = true) : chkN d = [] ∧ chkU d.steps d.steps.length (chkR 0 d.steps []) = [] ∧ rndG d = [] := by
  unfold cleanB at h
  simp only [Bool.and_eq_true, decide_eq_true_eq] at h
  have h1 := len_none h.1
  have e : gatP d 3 = sortD (chkN d) ++ sortD (chkU d.steps d.steps.length (chkR 0 d.steps [])) ++ rndG d := rfl
  rw [e, List.append_eq_nil_iff, List.append_eq_nil_iff] at h1
  exact ⟨len_none (by rw [h1.1.1]; rfl), len_none (by rw [h1.1.2]; rfl), h1.2⟩
theorem clean_some {d : DefD} (h : cleanB d = true) : 0 < d.steps.length := by
  have h1 := (clean_parts h).1
  unfold chkN at h1
  exact (headN_none (stepsN_none (refsN_none h1).1).1).1
theorem clean_order {d : DefD} (h : cleanB d = true) {i : Nat} (hi : i < d.steps.length) : i ∈ ordO (depsA d.steps 0 d.steps) := by
  have h1 := (clean_parts h).2.2
  unfold rndG rndL at h1
  rw [List.map_eq_nil_iff, List.map_eq_nil_iff, List.filter_eq_nil_iff] at h1
  have := h1 i (List.mem_range.2 (by rw [depsA_len]; exact hi))
  unfold rndB at this
  simpa using this
theorem first_not {D : Nat → Prop} : ∀ {l : List Nat}, (∃ x ∈ l, ¬ D x) → ∃ pre x suf, l = pre ++ x :: suf ∧ (∀ y ∈ pre, D y) ∧ ¬ D x
  | [], h => by
    obtain ⟨x, hx, _⟩ := h
    cases hx
  | a :: l, h => by
    by_cases ha : D a
    · obtain ⟨x, hx, hn⟩ := h
      have hx2 : x ∈ l := by
        rcases List.mem_cons.1 hx with rfl | h1
        · exact absurd ha hn
        · exact h1
      obtain ⟨pre, y, suf, e, h1, h2⟩ := first_not ⟨x, hx2, hn⟩
      refine ⟨a :: pre, y, suf, by rw [e]; rfl, fun z hz => ?_, h2⟩
      rcases List.mem_cons.1 hz with rfl | h3
      · exact ha
      · exact h1 z h3
    · exact ⟨[], a, l, rfl, (fun y hy => by cases hy), ha⟩
theorem clean_first {d : DefD} (h : cleanB d = true) {D : Nat → Prop} (hD : ∃ i, i < d.steps.length ∧ ¬ D i) :
    ∃ i, i < d.steps.length ∧ ¬ D i ∧ ∀ j ∈ (depsA d.steps 0 d.steps)[i]?.getD [], ∃ y : Nat, j = (y : Int) ∧ y < d.steps.length ∧ D y := by
  obtain ⟨i, hi, hn⟩ := hD
  obtain ⟨pre, x, suf, e, h1, h2⟩ := first_not (D := D) ⟨i, clean_order h hi, hn⟩
  have hx : x ∈ ordO (depsA d.steps 0 d.steps) := by rw [e]; simp
  have hxl := ordO_lt hx
  have hxl2 := hxl
  rw [depsA_len] at hxl2
  refine ⟨x, hxl2, h2, fun j hj => ?_⟩
  have hg := depsA_get d.steps d.steps 0 x hxl2
  rw [Nat.zero_add] at hg
  have hj2 := hj
  rw [hg] at hj2
  obtain ⟨y, rfl, hy⟩ := depsD_in _ _ _ _ hj2
  refine ⟨y, rfl, hy, h1 y ?_⟩
  have hp : pre.length < (ordO (depsA d.steps 0 d.steps)).length := by rw [e]; simp
  have := ordO_rch (rows := depsA d.steps 0 d.steps) (x := x) (y := y) (.one ⟨hxl, by rw [depsA_len]; exact hy, hj⟩) pre.length hp (by simp [e])
  rw [e, List.take_left'] at this
  · exact this
  · rfl
end Go.Proofs.YtgfiogjfgbegpaaGreat

/-
  saga.New: contract.
-/
namespace Go.Proofs.YtgfiogjfgbegpaaGreat
open Go Go.RowKit Go.Maps Go.WideShapes

theorem defF_keep {w : World} {N : Nat} {d : DefD} {va : Option Addr} {vc : Nat} {rows : List (List Value)} (hn : d.name.size ≤ maxLen) (ht : d.text.size ≤ maxLen) (h1 : rows.length = d.steps.length) (h2 : w.ownsRow N 47 13 (.slice va d.steps.length vc) d.steps.length rows.flatten) (h3 : ∀ (i : Nat) (r : List Value) (s : StepD), rows[i]? = some r → d.steps[i]? = some s → StepF w N r s) :
    ∀ w' : World, (∀ b, N ≤ b → b < w.heap.size → w'.heap[b]? = w.heap[b]?) → DefR w' [.string d.name, .string d.text, .slice va d.steps.length vc] d va vc :=
  fun _w' hk => ⟨rfl, hn, ht, rows, h1, RdS.of_owns (ownsRow_keepB h2 (fun g hg => hk g (h2.lt g hg).1 (h2.lt g hg).2)), fun i r s hr hs => ((h3 i r s hr hs).keep hk).toX⟩
theorem rowsF_keep {w : World} {B : Nat} {R : List (List Int)} (h : RowsAt w (fun _ => False) B B R) (hl : R.length ≤ 1000) :
    ∀ w' : World, (∀ b, B ≤ b → b < w.heap.size → w'.heap[b]? = w.heap[b]?) → Rows2 w' (.slice (some ⟨B, 0, none⟩) R.length R.length) R := by
  intro w' hk
  obtain ⟨cs, h1, h2, h3, h4, h5⟩ := h
  exact RowsAt.rows2 (S := fun _ => False) (base := B) ⟨cs, h1, (hk B (Nat.le_refl _) (Array.getElem?_eq_some_iff.1 h2).1).trans h2, h3, fun i r c hr hc => ⟨ownsRow_keepB (h4 i r c hr hc).1 (fun g hg => hk g ((h4 i r c hr hc).1.lt g hg).1 ((h4 i r c hr hc).1.lt g hg).2), (h4 i r c hr hc).2⟩, h5⟩ (by omega)
set_option maxRecDepth 100000 in
set_option maxHeartbeats 4000000 in
theorem New_any (d : DefD) (cs : List Value) (sa : Option Addr) (sc : Nat) (w : World) (h : DefR w cs d sa sc) (hs : SmallD d) (hc : cleanB d = true) :
    Calls Tryz.prog 14 #[.agg cs.toArray] w fun e w' => ∃ (k : SagK) (U : Nat → Prop), e = .returned (.tuple #[.pointer (some ⟨k.p, 0, none⟩), .int .i64 0]) ∧ k.d = d ∧ k.rs = depsA d.steps 0 d.steps ∧ SagE w' U k newSag ∧ Below w.heap.size w w' ∧ (∀ j, U j → w.heap.size ≤ j ∧ j < w'.heap.size) := by
  have HCL := Lib.hid (fun W sa sc (hW : DefR W [.string d.name, .string d.text, .slice sa d.steps.length sc] d sa sc) => Clean_any d _ sa sc W hW hs)
  rw [hc] at HCL
  have hn30 := hs.steps
  have HFEW := Lib.hid (refs_few hs)
  have HDL : Hid ((depsA d.steps 0 d.steps).length ≤ 1000) := Lib.hid (by rw [depsA_len]; omega)
  obtain ⟨rfl, hnm, htx, hst⟩ := h
  have hb0 := (Below.refl w.heap.size w).alloc (Nat.le_refl _) (.cells #[.string d.name, .string d.text, .slice sa d.steps.length sc] 24)
  have g0 := World.alloc_heap_new w (.cells #[.string d.name, .string d.text, .slice sa d.steps.length sc] 24)
  have HD0 := Lib.hid (show DefR (w.alloc (.cells #[.string d.name, .string d.text, .slice sa d.steps.length sc] 24)) [.string d.name, .string d.text, .slice sa d.steps.length sc] d sa sc from ⟨rfl, hnm, htx, hst.below hb0⟩)
  have HNM := Lib.hid hnm
  have HTX := Lib.hid htx
  have HS := Lib.hid hs
  have HB := Lib.hid hb0
  have HG := Lib.hid g0
  clear hst hs hb0 g0 hnm htx
  go_enter Tryz.func14, Tryz.ntmps14
  go_upto_region 1 with fail
  generalize w.alloc (.cells #[.string d.name, .string d.text, .slice sa d.steps.length sc] 24) = w0 at *
  obtain ⟨p0, p1, p2, -, -, -⟩ := cells3h HG.out
  go_wp2_with fail
  refine (HCL.out _ _ _ HD0.out).mono ?_
  rintro e w1 ⟨rfl, hb1⟩
  have HB1 := Lib.hid (bthen HB.out (Nat.le_refl _) hb1)
  have HD1 := Lib.hid (HD0.out.below hb1)
  have hg1 := (hb1.block _ (Array.getElem?_eq_some_iff.1 HG.out).1).trans HG.out
  clear p0 p1 p2 hb1
  obtain ⟨p0, p1, p2, -, -, -⟩ := cells3h hg1
  clear hg1
  go_upto_region 3 with fail
  refine E_region (S := (fun W => W.cell? ⟨w.heap.size, 0, none⟩ = some (.string d.name) ∧ W.cell? ⟨w.heap.size, 1, none⟩ = some (.string d.text) ∧ W.cell? ⟨w.heap.size, 2, none⟩ = some (.slice sa d.steps.length sc))) 6 (by kernel_rfl) ⟨p0, p1, p2⟩ (fun _ _ _ _ _ h => h) (fun Q' hQ hK' hHeld => ?_)
  refine E_take hQ hHeld 0 (v := ?va1) rfl rfl (by kernel_rfl) (by kernel_rfl) (by kernel_rfl) (by kernel_rfl) (by kernel_rfl) (by rfl) ?ya1 ?ra1
  case ya1 => (intro w hSw; (try dsimp only at hSw); go_simp; (try with_reducible rfl))
  (try simp only [layE])
  refine E_take hQ hHeld 2 (v := ?va2) rfl rfl (by kernel_rfl) (by kernel_rfl) (by kernel_rfl) (by kernel_rfl) (by kernel_rfl) (by rfl) ?ya2 ?ra2
  case ya2 => (intro w hSw; (try dsimp only at hSw); go_simp; (try with_reducible rfl))
  (try simp only [layE])
  refine E_twoS 1 4 (by kernel_rfl) rfl rfl (by rfl) (by rfl) (fun K hK => ?_) (fun K hK => ?_)
  · skip
    go_simp
    refine (dCopy_any d _ sa sc _ (HD1.out.below (Below.refl w1.heap.size w1).drew) HS.out).mono ?_
    rintro e v1 ⟨va, vc, rows, rfl, hrl, hro, hrs, hb⟩
    have hBv1 : Below w1.heap.size w1 v1 := bthen (Below.refl w1.heap.size w1).drew (Nat.le_refl _) hb
    have hC := hb
    have hCd := defF_keep HNM.out HTX.out hrl hro hrs
    clear hb hrl hro hrs
    (skip)
    refine hK.out _ _ (fun _ _ => ⟨cellB hBv1 p0, cellB hBv1 p1, cellB hBv1 p2⟩) (fun hHeld' => ?_)
    replace hHeld := hHeld' (by rfl) (by decide)
    clear hK hHeld'
    (try simp only [layE])
    refine E_twoS 3 4 (by kernel_rfl) rfl rfl (by rfl) (by rfl) (fun K hK => ?_) (fun K hK => ?_)
    · skip
      go_simp
      refine (nRefsA_any d _ sa sc _ (HD1.out.below hBv1) (by omega) (by have := HFEW.out; omega)).mono ?_
      rintro e v2 ⟨rfl, hra, hb⟩
      have hBv2 : Below w1.heap.size w1 v2 := bthen hBv1 (Nat.le_refl _) hb
      have hR := hb
      have hRd := rowsF_keep hra HDL.out
      clear hb hra
      (skip)
      refine hK.out _ _ (fun _ _ => ⟨cellB hBv2 p0, cellB hBv2 p1, cellB hBv2 p2⟩) (fun hHeld' => ?_)
      replace hHeld := hHeld' (by rfl) (by decide)
      clear hK hHeld'
      (try simp only [layE])
      refine E_one 4 (by kernel_rfl) rfl (by rfl) (fun K hK => ?_)
      go_simp
      change K _ (v2.alloc (.map #[] 0))
      have hm : Below v2.heap.size v2 (v2.alloc (.map #[] 0)) := (Below.refl _ v2).alloc (Nat.le_refl _) _
      have hmap : MapH Tryz.prog 98 encW (v2.alloc (.map #[] 0)) v2.heap.size [] (fun _ => none) := MapH.made Tryz.prog 98 encW v2
      have hml : v2.heap.size < (v2.alloc (.map #[] 0)).heap.size := by simp
      generalize (v2.alloc (.map #[] 0)) = v3 at *
      have hBv3 : Below w1.heap.size w1 v3 := bthen hBv2 (Nat.le_refl _) hm
      (try simp only [layE])
      refine hK.out _ _ (fun _ _ => ⟨cellB hBv3 p0, cellB hBv3 p1, cellB hBv3 p2⟩) (fun hHeld' => ?_)
      replace hHeld := hHeld' (by rfl) (by decide)
      clear hK hHeld'
      (try simp only [layE])
      refine E_take0 hQ (fun _ => hHeld) 5 (v := ?va3) rfl rfl (by kernel_rfl) (by kernel_rfl) (by kernel_rfl) (by decide) (by rfl) ?ya3 ?ra3
      case ya3 => (intro w; go_simp; (try with_reducible rfl))
      (try simp only [layE])
      refine E_one 6 (by kernel_rfl) rfl (by rfl) (fun K hK => ?_)
      go_simp
      (try simp only [layE])
      refine hK.out _ _ (fun _ h => absurd rfl h) (fun _ => ?_)
      clear hK hHeld
      (try simp only [layE])
      refine E_take0 hQ (fun h => absurd h (by decide)) 7 (v := ?va4) rfl rfl (by kernel_rfl) (by kernel_rfl) (by kernel_rfl) (by decide) (by rfl) ?ya4 ?ra4
      case ya4 => (intro w; go_simp; (try with_reducible rfl))
      (try simp only [layE])
      refine E_take0 hQ (fun h => absurd h (by decide)) 8 (v := ?va5) rfl rfl (by kernel_rfl) (by kernel_rfl) (by kernel_rfl) (by decide) (by rfl) ?ya5 ?ra5
      case ya5 => (intro w; go_simp; (try with_reducible rfl))
      (try simp only [layE])
      refine E_done (by kernel_rfl) ?_ _
      refine hK'.out _ _ ?_
      clear hK'
      have hkc := bthen (hR) (Nat.le_refl _) hm
      have hkr := hm
      have hkm := Below.refl v3.heap.size v3
      have hz1 := hC.size
      have hz2 := hR.size
      have hz3 := hm.size
      have hb4 : Below v3.heap.size v3 (v3.alloc (.cells #[.string d.name, .string d.text, .slice va d.steps.length vc, .slice (some ⟨v1.heap.size + 1, 0, none⟩) d.steps.length d.steps.length, .map (some v2.heap.size), .slice none 0 0, .slice none 0 0, .int .u8 0] 91)) := (Below.refl _ _).alloc (Nat.le_refl _) _
      have g4 := World.alloc_heap_new v3 (.cells #[.string d.name, .string d.text, .slice va d.steps.length vc, .slice (some ⟨v1.heap.size + 1, 0, none⟩) d.steps.length d.steps.length, .map (some v2.heap.size), .slice none 0 0, .slice none 0 0, .int .u8 0] 91)
      have hs4 : (v3.alloc (.cells #[.string d.name, .string d.text, .slice va d.steps.length vc, .slice (some ⟨v1.heap.size + 1, 0, none⟩) d.steps.length d.steps.length, .map (some v2.heap.size), .slice none 0 0, .slice none 0 0, .int .u8 0] 91)).heap.size = v3.heap.size + 1 := by simp
      have hdl : (depsA d.steps 0 d.steps).length = d.steps.length := depsA_len _ _ _
      rw [hdl] at hRd
      generalize v3.alloc (.cells #[.string d.name, .string d.text, .slice va d.steps.length vc, .slice (some ⟨v1.heap.size + 1, 0, none⟩) d.steps.length d.steps.length, .map (some v2.heap.size), .slice none 0 0, .slice none 0 0, .int .u8 0] 91) = v4 at *
      have hsc := hkc.size
      have hsr := hkr.size
      have hsm := hkm.size
      have hw1 : w1.drew.heap.size = w1.heap.size := rfl
      have HSR : Hid (SagR v4 (fun j => j = v3.heap.size ∨ j = v2.heap.size) v3.heap.size (v2.heap.size) va vc (.slice (some ⟨v1.heap.size + 1, 0, none⟩) d.steps.length d.steps.length) d (depsA d.steps 0 d.steps) v3.heap.size none 0 none 0 newSag) := Lib.hid ⟨g4,
        ⟨by omega, fun w' hw => hCd w' (fun b hlo hhi => (hw b (by omega) (fun e => e.elim (fun e => by omega) (fun e => by omega))).trans ((hb4.block b (by omega)).trans (hkc.block b hhi)))⟩,
        ⟨by omega, fun w' hw => hRd w' (fun b hlo hhi => (hw b (by omega) (fun e => e.elim (fun e => by omega) (fun e => by omega))).trans ((hb4.block b (by omega)).trans (hkr.block b hhi)))⟩,
        ⟨[], fun _ => none, hmap.block ((hb4.block _ (by omega)).trans (hkm.block _ hml)), fun _ => rfl, fun _ e => absurd e List.not_mem_nil⟩,
        World.ownsRow_nil _ _ _ _, World.ownsRow_nil _ _ _ _, (fun g e => by cases e), .inl rfl, .inr rfl, (fun g e => by cases e), (fun g e => by cases e)⟩
      have hB4 : Below w1.heap.size w1 v4 := bthen hBv3 (Nat.le_refl _) hb4
      have HB4 := Lib.hid (HB1.out.trans (hB4.mono HB1.out.size))
      have hsw := HB1.out.size
      have hs1 := hBv3.size
      have HLT : Hid (∀ j, (j = v3.heap.size ∨ j = v2.heap.size) → w.heap.size ≤ j ∧ j < v4.heap.size) := Lib.hid (fun j hj => hj.elim (fun e => ⟨by omega, by omega⟩) (fun e => ⟨by omega, by omega⟩))
      clear hkc hkr hkm hb4 g4 hs4 hdl hCd hRd hmap hm hC hR hsc hsr hsm hB4
      go_wp2_with fail
      refine bodyPost_ret (results_tmp2 rfl _ _ _) rfl ?_
      exact ⟨⟨v3.heap.size, v2.heap.size, va, vc, .slice (some ⟨v1.heap.size + 1, 0, none⟩) d.steps.length d.steps.length, d, depsA d.steps 0 d.steps, v3.heap.size⟩, fun j => j = v3.heap.size ∨ j = v2.heap.size, rfl, rfl, rfl, ⟨none, 0, none, 0, HSR.out⟩, HB4.out, HLT.out⟩
    · skip
      go_simp
      change K _ (v1.alloc (.map #[] 0))
      have hm : Below v1.heap.size v1 (v1.alloc (.map #[] 0)) := (Below.refl _ v1).alloc (Nat.le_refl _) _
      have hmap : MapH Tryz.prog 98 encW (v1.alloc (.map #[] 0)) v1.heap.size [] (fun _ => none) := MapH.made Tryz.prog 98 encW v1
      have hml : v1.heap.size < (v1.alloc (.map #[] 0)).heap.size := by simp
      generalize (v1.alloc (.map #[] 0)) = v2 at *
      have hBv2 : Below w1.heap.size w1 v2 := bthen hBv1 (Nat.le_refl _) hm
      (try simp only [layE])
      refine hK.out _ _ (fun _ _ => ⟨cellB hBv2 p0, cellB hBv2 p1, cellB hBv2 p2⟩) (fun hHeld' => ?_)
      replace hHeld := hHeld' (by rfl) (by decide)
      clear hK hHeld'
      (try simp only [layE])
      refine E_one 3 (by kernel_rfl) rfl (by rfl) (fun K hK => ?_)
      go_simp
      refine (nRefsA_any d _ sa sc _ (HD1.out.below hBv2) (by omega) (by have := HFEW.out; omega)).mono ?_
      rintro e v3 ⟨rfl, hra, hb⟩
      have hBv3 : Below w1.heap.size w1 v3 := bthen hBv2 (Nat.le_refl _) hb
      have hR := hb
      have hRd := rowsF_keep hra HDL.out
      clear hb hra
      (skip)
      refine hK.out _ _ (fun _ _ => ⟨cellB hBv3 p0, cellB hBv3 p1, cellB hBv3 p2⟩) (fun hHeld' => ?_)
      replace hHeld := hHeld' (by rfl) (by decide)
      clear hK hHeld'
      (try simp only [layE])
      refine E_take0 hQ (fun _ => hHeld) 5 (v := ?va6) rfl rfl (by kernel_rfl) (by kernel_rfl) (by kernel_rfl) (by decide) (by rfl) ?ya6 ?ra6
      case ya6 => (intro w; go_simp; (try with_reducible rfl))
      (try simp only [layE])
      refine E_one 6 (by kernel_rfl) rfl (by rfl) (fun K hK => ?_)
      go_simp
      (try simp only [layE])
      refine hK.out _ _ (fun _ h => absurd rfl h) (fun _ => ?_)
      clear hK hHeld
      (try simp only [layE])
      refine E_take0 hQ (fun h => absurd h (by decide)) 7 (v := ?va7) rfl rfl (by kernel_rfl) (by kernel_rfl) (by kernel_rfl) (by decide) (by rfl) ?ya7 ?ra7
      case ya7 => (intro w; go_simp; (try with_reducible rfl))
      (try simp only [layE])
      refine E_take0 hQ (fun h => absurd h (by decide)) 8 (v := ?va8) rfl rfl (by kernel_rfl) (by kernel_rfl) (by kernel_rfl) (by decide) (by rfl) ?ya8 ?ra8
      case ya8 => (intro w; go_simp; (try with_reducible rfl))
      (try simp only [layE])
      refine E_done (by kernel_rfl) ?_ _
      refine hK'.out _ _ ?_
      clear hK'
      have hkc := bthen (hm) (Nat.le_refl _) hR
      have hkr := Below.refl v3.heap.size v3
      have hkm := hR
      have hz1 := hC.size
      have hz2 := hm.size
      have hz3 := hR.size
      have hb4 : Below v3.heap.size v3 (v3.alloc (.cells #[.string d.name, .string d.text, .slice va d.steps.length vc, .slice (some ⟨v2.heap.size + 1, 0, none⟩) d.steps.length d.steps.length, .map (some v1.heap.size), .slice none 0 0, .slice none 0 0, .int .u8 0] 91)) := (Below.refl _ _).alloc (Nat.le_refl _) _
      have g4 := World.alloc_heap_new v3 (.cells #[.string d.name, .string d.text, .slice va d.steps.length vc, .slice (some ⟨v2.heap.size + 1, 0, none⟩) d.steps.length d.steps.length, .map (some v1.heap.size), .slice none 0 0, .slice none 0 0, .int .u8 0] 91)
      have hs4 : (v3.alloc (.cells #[.string d.name, .string d.text, .slice va d.steps.length vc, .slice (some ⟨v2.heap.size + 1, 0, none⟩) d.steps.length d.steps.length, .map (some v1.heap.size), .slice none 0 0, .slice none 0 0, .int .u8 0] 91)).heap.size = v3.heap.size + 1 := by simp
      have hdl : (depsA d.steps 0 d.steps).length = d.steps.length := depsA_len _ _ _
      rw [hdl] at hRd
      generalize v3.alloc (.cells #[.string d.name, .string d.text, .slice va d.steps.length vc, .slice (some ⟨v2.heap.size + 1, 0, none⟩) d.steps.length d.steps.length, .map (some v1.heap.size), .slice none 0 0, .slice none 0 0, .int .u8 0] 91) = v4 at *
      have hsc := hkc.size
      have hsr := hkr.size
      have hsm := hkm.size
      have hw1 : w1.drew.heap.size = w1.heap.size := rfl
      have HSR : Hid (SagR v4 (fun j => j = v3.heap.size ∨ j = v1.heap.size) v3.heap.size (v1.heap.size) va vc (.slice (some ⟨v2.heap.size + 1, 0, none⟩) d.steps.length d.steps.length) d (depsA d.steps 0 d.steps) v3.heap.size none 0 none 0 newSag) := Lib.hid ⟨g4,
        ⟨by omega, fun w' hw => hCd w' (fun b hlo hhi => (hw b (by omega) (fun e => e.elim (fun e => by omega) (fun e => by omega))).trans ((hb4.block b (by omega)).trans (hkc.block b hhi)))⟩,
        ⟨by omega, fun w' hw => hRd w' (fun b hlo hhi => (hw b (by omega) (fun e => e.elim (fun e => by omega) (fun e => by omega))).trans ((hb4.block b (by omega)).trans (hkr.block b hhi)))⟩,
        ⟨[], fun _ => none, hmap.block ((hb4.block _ (by omega)).trans (hkm.block _ hml)), fun _ => rfl, fun _ e => absurd e List.not_mem_nil⟩,
        World.ownsRow_nil _ _ _ _, World.ownsRow_nil _ _ _ _, (fun g e => by cases e), .inl rfl, .inr rfl, (fun g e => by cases e), (fun g e => by cases e)⟩
      have hB4 : Below w1.heap.size w1 v4 := bthen hBv3 (Nat.le_refl _) hb4
      have HB4 := Lib.hid (HB1.out.trans (hB4.mono HB1.out.size))
      have hsw := HB1.out.size
      have hs1 := hBv3.size
      have HLT : Hid (∀ j, (j = v3.heap.size ∨ j = v1.heap.size) → w.heap.size ≤ j ∧ j < v4.heap.size) := Lib.hid (fun j hj => hj.elim (fun e => ⟨by omega, by omega⟩) (fun e => ⟨by omega, by omega⟩))
      clear hkc hkr hkm hb4 g4 hs4 hdl hCd hRd hmap hm hC hR hsc hsr hsm hB4
      go_wp2_with fail
      refine bodyPost_ret (results_tmp2 rfl _ _ _) rfl ?_
      exact ⟨⟨v3.heap.size, v1.heap.size, va, vc, .slice (some ⟨v2.heap.size + 1, 0, none⟩) d.steps.length d.steps.length, d, depsA d.steps 0 d.steps, v3.heap.size⟩, fun j => j = v3.heap.size ∨ j = v1.heap.size, rfl, rfl, rfl, ⟨none, 0, none, 0, HSR.out⟩, HB4.out, HLT.out⟩
  · skip
    go_simp
    change K _ ((w1.alloc (.map #[] 0)).drew)
    have hm : Below w1.heap.size w1 ((w1.alloc (.map #[] 0)).drew) := ((Below.refl _ w1).alloc (Nat.le_refl _) _).drew
    have hmap : MapH Tryz.prog 98 encW ((w1.alloc (.map #[] 0)).drew) w1.heap.size [] (fun _ => none) := (MapH.made Tryz.prog 98 encW w1).block rfl
    have hml : w1.heap.size < ((w1.alloc (.map #[] 0)).drew).heap.size := by simp
    generalize ((w1.alloc (.map #[] 0)).drew) = v1 at *
    have hBv1 : Below w1.heap.size w1 v1 := hm
    (try simp only [layE])
    refine hK.out _ _ (fun _ _ => ⟨cellB hBv1 p0, cellB hBv1 p1, cellB hBv1 p2⟩) (fun hHeld' => ?_)
    replace hHeld := hHeld' (by rfl) (by decide)
    clear hK hHeld'
    (try simp only [layE])
    refine E_one 1 (by kernel_rfl) rfl (by rfl) (fun K hK => ?_)
    go_simp
    refine (dCopy_any d _ sa sc _ (HD1.out.below hBv1) HS.out).mono ?_
    rintro e v2 ⟨va, vc, rows, rfl, hrl, hro, hrs, hb⟩
    have hBv2 : Below w1.heap.size w1 v2 := bthen hBv1 (Nat.le_refl _) hb
    have hC := hb
    have hCd := defF_keep HNM.out HTX.out hrl hro hrs
    clear hb hrl hro hrs
    (skip)
    refine hK.out _ _ (fun _ _ => ⟨cellB hBv2 p0, cellB hBv2 p1, cellB hBv2 p2⟩) (fun hHeld' => ?_)
    replace hHeld := hHeld' (by rfl) (by decide)
    clear hK hHeld'
    (try simp only [layE])
    refine E_one 3 (by kernel_rfl) rfl (by rfl) (fun K hK => ?_)
    go_simp
    refine (nRefsA_any d _ sa sc _ (HD1.out.below hBv2) (by omega) (by have := HFEW.out; omega)).mono ?_
    rintro e v3 ⟨rfl, hra, hb⟩
    have hBv3 : Below w1.heap.size w1 v3 := bthen hBv2 (Nat.le_refl _) hb
    have hR := hb
    have hRd := rowsF_keep hra HDL.out
    clear hb hra
    (skip)
    refine hK.out _ _ (fun _ _ => ⟨cellB hBv3 p0, cellB hBv3 p1, cellB hBv3 p2⟩) (fun hHeld' => ?_)
    replace hHeld := hHeld' (by rfl) (by decide)
    clear hK hHeld'
    (try simp only [layE])
    refine E_take0 hQ (fun _ => hHeld) 5 (v := ?va9) rfl rfl (by kernel_rfl) (by kernel_rfl) (by kernel_rfl) (by decide) (by rfl) ?ya9 ?ra9
    case ya9 => (intro w; go_simp; (try with_reducible rfl))
    (try simp only [layE])
    refine E_one 6 (by kernel_rfl) rfl (by rfl) (fun K hK => ?_)
    go_simp
    (try simp only [layE])
    refine hK.out _ _ (fun _ h => absurd rfl h) (fun _ => ?_)
    clear hK hHeld
    (try simp only [layE])
    refine E_take0 hQ (fun h => absurd h (by decide)) 7 (v := ?va10) rfl rfl (by kernel_rfl) (by kernel_rfl) (by kernel_rfl) (by decide) (by rfl) ?ya10 ?ra10
    case ya10 => (intro w; go_simp; (try with_reducible rfl))
    (try simp only [layE])
    refine E_take0 hQ (fun h => absurd h (by decide)) 8 (v := ?va11) rfl rfl (by kernel_rfl) (by kernel_rfl) (by kernel_rfl) (by decide) (by rfl) ?ya11 ?ra11
    case ya11 => (intro w; go_simp; (try with_reducible rfl))
    (try simp only [layE])
    refine E_done (by kernel_rfl) ?_ _
    refine hK'.out _ _ ?_
    clear hK'
    have hkc := hR
    have hkr := Below.refl v3.heap.size v3
    have hkm := bthen (hC) (Nat.le_refl _) hR
    have hz1 := hm.size
    have hz2 := hC.size
    have hz3 := hR.size
    have hb4 : Below v3.heap.size v3 (v3.alloc (.cells #[.string d.name, .string d.text, .slice va d.steps.length vc, .slice (some ⟨v2.heap.size + 1, 0, none⟩) d.steps.length d.steps.length, .map (some w1.heap.size), .slice none 0 0, .slice none 0 0, .int .u8 0] 91)) := (Below.refl _ _).alloc (Nat.le_refl _) _
    have g4 := World.alloc_heap_new v3 (.cells #[.string d.name, .string d.text, .slice va d.steps.length vc, .slice (some ⟨v2.heap.size + 1, 0, none⟩) d.steps.length d.steps.length, .map (some w1.heap.size), .slice none 0 0, .slice none 0 0, .int .u8 0] 91)
    have hs4 : (v3.alloc (.cells #[.string d.name, .string d.text, .slice va d.steps.length vc, .slice (some ⟨v2.heap.size + 1, 0, none⟩) d.steps.length d.steps.length, .map (some w1.heap.size), .slice none 0 0, .slice none 0 0, .int .u8 0] 91)).heap.size = v3.heap.size + 1 := by simp
    have hdl : (depsA d.steps 0 d.steps).length = d.steps.length := depsA_len _ _ _
    rw [hdl] at hRd
    generalize v3.alloc (.cells #[.string d.name, .string d.text, .slice va d.steps.length vc, .slice (some ⟨v2.heap.size + 1, 0, none⟩) d.steps.length d.steps.length, .map (some w1.heap.size), .slice none 0 0, .slice none 0 0, .int .u8 0] 91) = v4 at *
    have hsc := hkc.size
    have hsr := hkr.size
    have hsm := hkm.size
    have hw1 : w1.drew.heap.size = w1.heap.size := rfl
    have HSR : Hid (SagR v4 (fun j => j = v3.heap.size ∨ j = w1.heap.size) v3.heap.size (w1.heap.size) va vc (.slice (some ⟨v2.heap.size + 1, 0, none⟩) d.steps.length d.steps.length) d (depsA d.steps 0 d.steps) v3.heap.size none 0 none 0 newSag) := Lib.hid ⟨g4,
      ⟨by omega, fun w' hw => hCd w' (fun b hlo hhi => (hw b (by omega) (fun e => e.elim (fun e => by omega) (fun e => by omega))).trans ((hb4.block b (by omega)).trans (hkc.block b hhi)))⟩,
      ⟨by omega, fun w' hw => hRd w' (fun b hlo hhi => (hw b (by omega) (fun e => e.elim (fun e => by omega) (fun e => by omega))).trans ((hb4.block b (by omega)).trans (hkr.block b hhi)))⟩,
      ⟨[], fun _ => none, hmap.block ((hb4.block _ (by omega)).trans (hkm.block _ hml)), fun _ => rfl, fun _ e => absurd e List.not_mem_nil⟩,
      World.ownsRow_nil _ _ _ _, World.ownsRow_nil _ _ _ _, (fun g e => by cases e), .inl rfl, .inr rfl, (fun g e => by cases e), (fun g e => by cases e)⟩
    have hB4 : Below w1.heap.size w1 v4 := bthen hBv3 (Nat.le_refl _) hb4
    have HB4 := Lib.hid (HB1.out.trans (hB4.mono HB1.out.size))
    have hsw := HB1.out.size
    have hs1 := hBv3.size
    have HLT : Hid (∀ j, (j = v3.heap.size ∨ j = w1.heap.size) → w.heap.size ≤ j ∧ j < v4.heap.size) := Lib.hid (fun j hj => hj.elim (fun e => ⟨by omega, by omega⟩) (fun e => ⟨by omega, by omega⟩))
    clear hkc hkr hkm hb4 g4 hs4 hdl hCd hRd hmap hm hC hR hsc hsr hsm hB4
    go_wp2_with fail
    refine bodyPost_ret (results_tmp2 rfl _ _ _) rfl ?_
    exact ⟨⟨v3.heap.size, w1.heap.size, va, vc, .slice (some ⟨v2.heap.size + 1, 0, none⟩) d.steps.length d.steps.length, d, depsA d.steps 0 d.steps, v3.heap.size⟩, fun j => j = v3.heap.size ∨ j = w1.heap.size, rfl, rfl, rfl, ⟨none, 0, none, 0, HSR.out⟩, HB4.out, HLT.out⟩
end Go.Proofs.YtgfiogjfgbegpaaGreat

/-
  reach.each: what lies in memory while it hands over the ticks with their answers.
-/
namespace Go.Proofs.YtgfiogjfgbegpaaGreat
open Go Go.RowKit Go.Maps Go.WideShapes

def sayC (x : SayD) : List Value := [.int .i64 x.1, .int .i64 x.2.1, .int .i64 x.2.2.1, .bool x.2.2.2.1, .int .u8 x.2.2.2.2]
def flatS (l : List SayD) : List Value := l.flatMap sayC
theorem flatS_snoc (l : List SayD) (x : SayD) : flatS (l ++ [x]) = flatS l ++ sayC x := by
  unfold flatS
  rw [List.flatMap_append, List.flatMap_cons, List.flatMap_nil, List.append_nil]
theorem flatS_get : ∀ (l : List SayD) (j : Nat) (hj : j < l.length) (c : Nat) (_ : c < 5), (flatS l)[j * 5 + c]? = (sayC l[j])[c]?
  | [], j, hj, _, _ => by simp at hj
  | a :: l, 0, _, c, hc => by
    show (sayC a ++ flatS l)[_]? = _
    rw [List.getElem?_append_left (by show _ < 5; omega)]
    simp
  | a :: l, j + 1, hj, c, hc => by
    show (sayC a ++ flatS l)[_]? = _
    rw [List.getElem?_append_right (by show 5 ≤ _; omega)]
    have h5 : (j + 1) * 5 + c - (sayC a).length = j * 5 + c := by show (j + 1) * 5 + c - 5 = _; omega
    rw [h5, flatS_get l j (by simpa using hj) c hc]
    simp
theorem says_at {W : World} {v : Value} {l : List SayD} (h : RdS W v 5 l.length (flatS l)) {j : Nat} (hj : j < l.length) :
    ∃ g off cap, v = .slice (some ⟨g, off, none⟩) l.length cap ∧ W.cell? ⟨g, off + j * 5, none⟩ = some (.int .i64 l[j].1) ∧ W.cell? ⟨g, off + j * 5 + 1, none⟩ = some (.int .i64 l[j].2.1) ∧ W.cell? ⟨g, off + j * 5 + 2, none⟩ = some (.int .i64 l[j].2.2.1) ∧ W.cell? ⟨g, off + j * 5 + 3, none⟩ = some (.bool l[j].2.2.2.1) ∧ W.cell? ⟨g, off + j * 5 + 4, none⟩ = some (.int .u8 l[j].2.2.2.2) := by
  obtain ⟨h1, a, cap, rfl, hn, hc, hh⟩ := h
  rcases hh with e | ⟨g, off, rfl, hat⟩
  · rw [e] at h1
    simp at h1
    omega
  · refine ⟨g, off, cap, rfl, hat (j * 5) _ ?_, hat (j * 5 + 1) _ ?_, hat (j * 5 + 2) _ ?_, hat (j * 5 + 3) _ ?_, hat (j * 5 + 4) _ ?_⟩
    · exact flatS_get l j hj 0 (by decide)
    · exact flatS_get l j hj 1 (by decide)
    · exact flatS_get l j hj 2 (by decide)
    · exact flatS_get l j hj 3 (by decide)
    · exact flatS_get l j hj 4 (by decide)
def encAt (x : Int) : Value := .int .i64 x
theorem Tryz.keyAt : KeyH Tryz.prog 2 25 120 Int encAt I64w (.slice none 0 0) where
  keyed := int_keyed Tryz.underlying2
  map := Tryz.underlying120
  zero := fun w => by kernel_rfl
  inj := fun {x y} h => by
    injection h
  key := fun {x} h => ⟨_, keyOf_int_mk Tryz.underlying2 (i64_wf h)⟩
theorem saysAt_snoc (l : List SayD) (x : SayD) (n : Int) : saysAt (l ++ [x]) n = if n = x.1 then saysAt l n ++ [x] else saysAt l n := by
  unfold saysAt
  rw [List.filter_append]
  by_cases h : n = x.1
  · rw [if_pos h, List.filter_cons_of_pos (by simp [h])]
    rfl
  · rw [if_neg h, List.filter_cons_of_neg (by simpa using fun e => h e.symm)]
    simp
theorem saysAt_len (l : List SayD) (n : Int) : (saysAt l n).length ≤ l.length := List.length_filter_le _ _
structure ByR (w : World) (B m : Nat) (gv : Int → Value) (done : List SayD) : Prop where
  map : ∃ (L : List Int) (g : Int → Option Value), MapH Tryz.prog 2 encAt w m L g ∧ L.length ≤ done.length ∧ ∀ x, (g x).getD (.slice none 0 0) = gv x
  hm : B ≤ m
  row : ∀ x, ∃ a c, gv x = .slice a (saysAt done x).length c ∧ w.ownsRow B 32 5 (.slice a (saysAt done x).length c) (saysAt done x).length (flatS (saysAt done x))
  apart : ∀ x y q, x ≠ y → (gv x).ownBlock = some q → (gv y).ownBlock ≠ some q
theorem ByR.made (w : World) : ByR (w.alloc (.map #[] 0)) w.heap.size w.heap.size (fun _ => .slice none 0 0) [] :=
  ⟨⟨[], fun _ => none, MapH.made _ _ _ w, Nat.le_refl _, fun _ => rfl⟩, Nat.le_refl _, fun x => ⟨none, 0, rfl, World.ownsRow_nil _ _ _ _⟩, fun _ _ _ _ h => by cases h⟩
theorem ByR.ltm {w : World} {B m : Nat} {gv : Int → Value} {done : List SayD} (h : ByR w B m gv done) : m < w.heap.size := by
  obtain ⟨L, g, h1, _⟩ := h.map
  exact h1.lt
theorem ByR.keep {w w' : World} {B m : Nat} {gv : Int → Value} {done : List SayD} (h : ByR w B m gv done) (hk : ∀ j, B ≤ j → j < w.heap.size → w'.heap[j]? = w.heap[j]?) : ByR w' B m gv done := by
  obtain ⟨L, g, h1, h2, h3⟩ := h.map
  refine ⟨⟨L, g, h1.block (hk m h.hm h1.lt), h2, h3⟩, h.hm, fun x => ?_, h.apart⟩
  obtain ⟨a, c, e, hr⟩ := h.row x
  exact ⟨a, c, e, ownsRow_keepB hr (fun g hg => hk g (hr.lt g hg).1 (hr.lt g hg).2)⟩
theorem ByR.keepS {w w' : World} {B m : Nat} {gv : Int → Value} {done : List SayD} (h : ByR w B m gv done) (hk : ∀ j, (j = m ∨ ∃ x, (gv x).ownBlock = some j) → w'.heap[j]? = w.heap[j]?) : ByR w' B m gv done := by
  obtain ⟨L, g, h1, h2, h3⟩ := h.map
  refine ⟨⟨L, g, h1.block (hk m (.inl rfl)), h2, h3⟩, h.hm, fun x => ?_, h.apart⟩
  obtain ⟨a, c, e, hr⟩ := h.row x
  exact ⟨a, c, e, ownsRow_keepB hr (fun g hg => hk g (.inr ⟨x, by rw [e]; exact hg⟩))⟩
theorem ByR.below {w w' : World} {B m : Nat} {gv : Int → Value} {done : List SayD} (h : ByR w B m gv done) (hb : Below w.heap.size w w') : ByR w' B m gv done := h.keep (fun j _ hj => hb.block j hj)
theorem ByR.look {w : World} {B m : Nat} {gv : Int → Value} {done : List SayD} (h : ByR w B m gv done) {x : Int} (hx : I64w x) :
    (Instr.lookup 120 (.map (some m)) (.int .i64 x) false).run Tryz.prog w = .ok (gv x) w := by
  obtain ⟨L, g, h1, h2, h3⟩ := h.map
  have := h1.look Tryz.keyAt (x := x) hx
  rw [h3] at this
  exact this
theorem ByR.look_keep {w w' : World} {B m : Nat} {gv : Int → Value} {done : List SayD} (h : ByR w B m gv done) (hk : w'.heap[m]? = w.heap[m]?) {x : Int} (hx : I64w x) :
    (Instr.lookup 120 (.map (some m)) (.int .i64 x) false).run Tryz.prog w' = .ok (gv x) w' := by
  obtain ⟨L, g, h1, h2, h3⟩ := h.map
  have := (h1.block hk).look Tryz.keyAt (x := x) hx
  rw [h3] at this
  exact this
theorem ByR.nem {w : World} {B m : Nat} {gv : Int → Value} {done : List SayD} (h : ByR w B m gv done) {q : Nat} {c : Array Value} {ty : TypeId} {fr : Nat × Nat} (hq : w.heap[q]? = some (.cells c ty fr)) : q ≠ m := by
  obtain ⟨L, g, h1, _⟩ := h.map
  exact h1.ne hq
theorem ByR.rowm {w : World} {B m : Nat} {gv : Int → Value} {done : List SayD} (h : ByR w B m gv done) (x : Int) : (gv x).ownBlock ≠ some m := by
  obtain ⟨a, c, e, hr⟩ := h.row x
  rw [e]
  intro e2
  obtain ⟨cur, hc⟩ := owns_cells hr e2
  exact h.nem hc rfl
theorem ByR.push {w w6 w7 : World} {B m : Nat} {gv : Int → Value} {done : List SayD} (h : ByR w B m gv done) (x : SayD) (hx : I64w x.1) (hl : done.length ≤ 1000000) (hb6 : Below w.heap.size w w6) {v7 : Value}
    (ho : w7.ownsRow B 32 5 v7 ((saysAt done x.1).length + 1) (flatS (saysAt done x.1) ++ sayC x)) (hg : w6.grownBy w7 (gv x.1).ownBlock) (hf : Fresh w6 (gv x.1) v7) :
    ∃ w8, (Instr.mapUpdate 120 (.map (some m)) (.int .i64 x.1) v7).run Tryz.prog w7 = .ok () w8 ∧ ByR w8 B m (fun y => if y = x.1 then v7 else gv y) (done ++ [x]) ∧ (B ≤ w.heap.size → Below B w w8) ∧ (∀ j, j < w.heap.size → j < B → w8.heap[j]? = w.heap[j]?) := by
  have h6 := h.below hb6
  have hm6 := h6.ltm
  have hs6 := hb6.size
  have hmb := h.rowm x.1
  obtain ⟨L, g, h1, h2, h3⟩ := h6.map
  have h17 := h1.block (hg.block m hm6 (fun e => hmb e.symm))
  obtain ⟨w8, hr, h4, h5, h7, h8⟩ := h17.store Tryz.keyAt (by unfold maxLen; omega) (x := x.1) hx v7
  have hrow7 : ∀ y, y ≠ x.1 → ∀ q, (gv y).ownBlock = some q → w7.heap[q]? = w6.heap[q]? := fun y hy q hq => by
    obtain ⟨a, c, e, hro⟩ := h6.row y
    have := hro.lt q (by rw [← e]; exact hq)
    exact hg.block q this.2 (fun e2 => h.apart y x.1 q hy hq e2.symm)
  have hne7 : ∀ q, v7.ownBlock = some q → q ≠ m := fun q hq e => by
    obtain ⟨cur, hc⟩ := owns_cells ho hq
    exact h17.ne hc e
  refine ⟨w8, hr, ⟨⟨_, _, h4, ?_, fun y => ?_⟩, h.hm, fun y => ?_, fun y z q hyz hq => ?_⟩, fun hB => ?_, ?_⟩
  · rw [List.length_append]
    unfold putK
    split
    · omega
    · rw [List.length_append]
      simp only [List.length_cons, List.length_nil]
      omega
  · split
    · rfl
    · exact h3 y
  · rw [saysAt_snoc]
    by_cases hy : y = x.1
    · subst hy
      rw [if_pos rfl, if_pos rfl]
      obtain ⟨a, c, e⟩ := (RdS.of_owns ho).form
      subst e
      refine ⟨a, c, by rw [List.length_append]; rfl, ?_⟩
      rw [List.length_append, flatS_snoc]
      exact ownsRow_keepB ho (fun q hq => h8 q (hne7 q hq))
    · rw [if_neg hy, if_neg hy]
      obtain ⟨a, c, e, hro⟩ := h6.row y
      refine ⟨a, c, e, ownsRow_keepB hro (fun q hq => (h8 q (fun e2 => ?_)).trans (hrow7 y hy q (by rw [e]; exact hq)))⟩
      obtain ⟨cur, hc⟩ := owns_cells hro hq
      exact h6.nem hc e2
  · have hgt : ∀ y' q', (gv y').ownBlock = some q' → q' < w6.heap.size := fun y' q' hq' => by
      obtain ⟨a, c, e, hro⟩ := h6.row y'
      exact (hro.lt q' (by rw [← e]; exact hq')).2
    (try dsimp only at hq ⊢)
    by_cases hy : y = x.1
    · rw [if_pos hy] at hq
      have hz : z ≠ x.1 := fun e => hyz (hy.trans e.symm)
      rw [if_neg hz]
      intro hq2
      rcases hf q hq with e | e
      · exact h.apart x.1 z q (fun e2 => hz e2.symm) e hq2
      · have := hgt z q hq2
        omega
    · rw [if_neg hy] at hq
      by_cases hz : z = x.1
      · rw [if_pos hz]
        intro hq2
        rcases hf q hq2 with e | e
        · exact h.apart y x.1 q hy hq e
        · have := hgt y q hq
          omega
      · rw [if_neg hz]
        exact h.apart y z q hyz hq
  · have hr6 : ∀ q, (gv x.1).ownBlock = some q → B ≤ q := fun q hq => by
      obtain ⟨a, c, e, hro⟩ := h6.row x.1
      exact (hro.lt q (by rw [← e]; exact hq)).1
    exact ((hb6.mono hB).grown hg (by omega) hr6).trans (h5.mono h.hm)
  · intro j hj hjB
    have hr6 : (gv x.1).ownBlock ≠ some j := fun e2 => by
      obtain ⟨a, c, e, hro⟩ := h6.row x.1
      have := (hro.lt j (by rw [← e]; exact e2)).1
      omega
    have hjm := h.hm
    exact (h8 j (by omega)).trans ((hg.block j (by omega) (fun e => hr6 e.symm)).trans (hb6.block j hj))
def EachE (ss : List SayD) (S : Nat → Prop) (x : Nat) (args : Array Value) (W : World) : Prop :=
  ∃ (a : Option Addr) (c : Nat), args = #[.int .i64 (x : Int), .slice a (saysAt ss x).length c] ∧ W.ownsRow 0 32 5 (.slice a (saysAt ss x).length c) (saysAt ss x).length (flatS (saysAt ss x)) ∧ ∀ g, (Value.slice a (saysAt ss x).length c).ownBlock = some g → S g
end Go.Proofs.YtgfiogjfgbegpaaGreat
