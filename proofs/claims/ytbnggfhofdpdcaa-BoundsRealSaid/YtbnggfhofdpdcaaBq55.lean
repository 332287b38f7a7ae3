/-
  names.Missing: contract.
-/
import Derived.Test.YtbnggfhofdpdcaaBq9
import Derived.Test.YtbnggfhofdpdcaaBq14
import Derived.Test.YtbnggfhofdpdcaaBq37
import Derived.Test.YtbnggfhofdpdcaaBq47
import Derived.Test.YtbnggfhofdpdcaaBq54
namespace Go.Proofs.Ytbnggfhofdpdcaa
open Go.RowKit Go.WideShapes Go.Maps
attribute [local go_sem] Oper.semAt_some wide_fn wide_depth wide_fn' wide_depth'

/-- The names that stand for nothing, each once. -/
def addM (l : List ByteArray) (r : RefD) : List ByteArray := if r.2.2 < 0 ∧ hasS l r.2.1 = false then l ++ [r.2.1] else l
def missL (pre : List RefD) : List ByteArray := pre.foldl addM []
theorem missL_snoc (pre : List RefD) (r : RefD) : missL (pre ++ [r]) = addM (missL pre) r := by
  unfold missL; rw [List.foldl_append]; rfl
theorem missL_len (pre : List RefD) : (missL pre).length ≤ pre.length := by
  induction pre using snocRec with
  | h0 => exact Nat.le_refl _
  | h1 l r ih =>
    rw [missL_snoc]
    unfold addM
    split <;> simp <;> omega
theorem alloc3o (w : World) (o0 o1 o2 : Obj) : Below w.heap.size w (((w.alloc o0).alloc o1).alloc o2) ∧ (((w.alloc o0).alloc o1).alloc o2).heap[w.heap.size]? = some o0 ∧ (((w.alloc o0).alloc o1).alloc o2).heap[w.heap.size + 1]? = some o1 ∧ (((w.alloc o0).alloc o1).alloc o2).heap[w.heap.size + 2]? = some o2 ∧ (((w.alloc o0).alloc o1).alloc o2).heap.size = w.heap.size + 3 := by
  have e0 := World.alloc_heap_new w o0
  have e1 := World.alloc_heap_new (w.alloc o0) o1
  have e2 := World.alloc_heap_new ((w.alloc o0).alloc o1) o2
  simp only [World.size_alloc] at e1 e2
  refine ⟨(((Below.refl _ w).alloc (Nat.le_refl _) _).alloc (by simp only [World.size_alloc]; omega) _).alloc (by simp only [World.size_alloc]; omega) _, ?_, ?_, e2, by simp⟩
  · rw [Below.heap_alloc _ _ _ (by simp only [World.size_alloc]; omega), Below.heap_alloc _ _ _ (by simp only [World.size_alloc]; omega)]; exact e0
  · rw [Below.heap_alloc _ _ _ (by simp only [World.size_alloc]; omega)]; exact e1
def msJ (w : World) : (Nat → Prop) → List RefD → World → Prop := fun S pre W =>
  ∃ va vc, OutB W (w.heap.size + 1) va vc (missL pre) ∧ ¬ S (w.heap.size + 1) ∧ (∀ g, (Value.slice va (missL pre).length vc).ownBlock = some g → ¬ S g) ∧ Below w.heap.size w W
theorem msJ_step (w : World) : Stable (w.heap.size + 1) (msJ w) := by
  rintro S S' s W W' hS ⟨va, vc, h0, h1, h2, h3⟩ hs
  obtain ⟨k1, k2⟩ := hs.owns h0.own h2
  exact ⟨va, vc, ⟨(hs.boxed h0.box h1).1, k1⟩, (hs.boxed h0.box h1).2, k2, h3.trans (hs.below.mono (by omega))⟩

set_option maxRecDepth 100000 in
set_option maxHeartbeats 4000000 in
theorem nMissing_any (d : DefD) (cs : List Value) (sa : Option Addr) (sc : Nat) (w : World) (h : DefR w cs d sa sc) (hlen : d.steps.length ≤ 1000000) (hrl : (refsF d.steps 0 d.steps).length ≤ 1000000) :
    Calls Try.prog 36 #[.agg cs.toArray] w fun e w' => ∃ v, e = .returned v ∧ RdS w' v 1 (missL (refsF d.steps 0 d.steps)).length (strsV (missL (refsF d.steps 0 d.steps))) ∧ Below w.heap.size w w' := by
  obtain ⟨i0, hi, hz0, hz1, hz2⟩ := info_parts Try.info_str
  obtain ⟨rfl, hna, hta, hva⟩ := h
  obtain ⟨_, _, he1, hl1, hl2⟩ := hva.form
  cases he1
  have g0 := World.alloc_heap_new w (.cells #[.string d.name, .string d.text, .slice sa d.steps.length sc] 24)
  obtain ⟨p0, p1, p2, -, -, -⟩ := cells3h g0
  have HVA := Lib.hid hva
  clear hva g0
  refine (callsIn_wide (n := 0)).1 ?_
  refine callsIn_of_wp_marks Try.func36 rfl trivial ?_ rfl
  simp only [Try.ntmps36, List.size_toArray, List.length_cons, List.length_nil, Nat.reduceAdd, Nat.reduceSub, Array.replicate_succ, Array.replicate_zero, List.push_toArray, List.append_toArray, List.nil_append, List.cons_append]
  gi_wp2_with fail
  refine (callsIn_wide.2 (refs_any _ rfl _)).mono ?_
  rintro e w4 ⟨rfl, rfl⟩
  obtain ⟨gbl, g0, g1, g2, hsz⟩ := alloc3o w (.cells #[.string d.name, .string d.text, .slice sa d.steps.length sc] 24) (.cells #[.slice none 0 0] 31) (.cells #[.string d.name, .string d.text, .slice sa d.steps.length sc] 24)
  clear p0 p1 p2
  gi_wp2_with fail
  generalize (((w.alloc (.cells #[.string d.name, .string d.text, .slice sa d.steps.length sc] 24)).alloc (.cells #[.slice none 0 0] 31)).alloc (.cells #[.string d.name, .string d.text, .slice sa d.steps.length sc] 24)) = w4 at *
  have HRM := Lib.hid (fun r => refsF_mem d.steps d.steps 0 r)
  refine' wpIn_rf rfl (enters_of Try.func147 (by kernel_rfl) rfl) (refs_iter d sa sc (w.heap.size + 1) (w.heap.size + 2) w w4 (by omega) (by omega) g2 hna hta HVA.out hlen gbl (by omega)) (by omega) (by rintro j rfl; omega) (fun _ => rfl)
    (msJ w) (fun _ => fun _ _ _ => False) ?hfin ?hJ ?hJx ?h0 ?Ax ?hAx ?assign ?body ?done ?stop
  case hfin => exact fun h => absurd trivial h
  case hJ => exact msJ_step w
  case hJx => exact fun _ _ _ _ _ _ _ h _ => h
  case h0 => exact ⟨none, 0, ⟨g1, World.ownsRow_nil _ _ _ _⟩, by omega, (fun g hg => by cases hg), gbl⟩
  case Ax => exact fun y a' W => ∃ b, a' = { tmps := #[.agg #[.string d.name, .string d.text, .slice sa d.steps.length sc], .pointer (some ⟨w.heap.size, 0, none⟩), .slice none 0 0, .pointer (some ⟨w.heap.size + 1, 0, none⟩), .pointer (some ⟨b, 0, none⟩), .agg #[.string d.name, .string d.text, .slice sa d.steps.length sc], .func (.func 147) #[] #[.pointer (some ⟨w.heap.size + 1 + 1, 0, none⟩)], .agg #[.int .i64 (y.1 : Int), .string y.2.1, .int .i64 y.2.2], undef, undef, undef, undef, undef, undef, undef, undef, undef, undef, undef, undef, undef, undef, undef, undef], defers := [] } ∧ W.heap[b]? = some (.cells #[.int .i64 (y.1 : Int), .string y.2.1, .int .i64 y.2.2] 129 (0, 0))
  case hAx =>
    rintro y a' l W W' hl hlt ⟨b, rfl, hb⟩ hs ⟨r, hr⟩
    have hne : b ≠ l := by rintro rfl; rw [hr] at hb; cases hb
    exact ⟨b, rfl, (hs.same b (Array.getElem?_eq_some_iff.1 hb).1 hne).trans hb⟩
  case assign =>
    rintro l S pre ⟨i, a, tt⟩ W K hS hw hj hpre hK
    dsimp only [encRf]
    have HS := Lib.hid hS
    have HK := Lib.hid hK
    have HJ := Lib.hid hj
    have hsW : w.heap.size + 1 ≤ W.heap.size := by omega
    clear hS hK hj
    gi_wp2_with fail
    have hal : Below W.heap.size W (W.alloc (.cells #[.int .i64 (i : Int), .string a, .int .i64 tt] 129)) := (Below.refl _ _).alloc (Nat.le_refl _) _
    refine HK.out _ _ ⟨hal.mono hsW, fun j hj => hal.block j (HS.out j hj).2⟩ (msJ_step w S S _ _ _ HS.out HJ.out (Step.of_below hsW hal)) ⟨W.heap.size, rfl, World.alloc_heap_new W _⟩
  case done =>
    rintro D S W hD hS hSD ⟨va, vc, h0, h1, h2, h3⟩ hKD
    have hc := h0.box.cell
    have H0 := Lib.hid h0.own
    have H3 := Lib.hid h3
    have HSP := Lib.hid (Step.putObj (n0 := w.heap.size + 1) (S := S) (W := W) (.deferred none) hSD (hS D hSD).1)
    have H2 := Lib.hid h2
    clear h0 h1 h2 h3 hS
    gi_wp2
    refine ⟨by simp, .inl ⟨_, _, rfl, run_takeDeferred hKD, ?_⟩⟩
    have hr := RdS.of_owns (HSP.out.owns H0.out H2.out).1
    refine ⟨_, results_tmp rfl _ _ _, _, rfl, ?_, H3.out.trans (below_putObj _ _ (by omega))⟩
    exact hr
  case stop => exact fun _ _ _ _ _ _ _ _ _ h => h.elim
  case body =>
    rintro l0 S pre ⟨i, a, tt⟩ a' W hS hw hSl - ⟨va, vc, h0, h1, h2, h3⟩ ⟨b, rfl, hb⟩ hpre
    have hpl := hpre.length_le
    rw [List.length_append, List.length_singleton] at hpl
    have hml := missL_len pre
    have HSN : Hid (missL (pre ++ [(i, a, tt)]) = addM (missL pre) (i, a, tt)) := Lib.hid (missL_snoc _ _)
    obtain ⟨-, p1, p2, -, -, -⟩ := cells3h hb
    have q1 := h0.box.cell
    have HS := Lib.hid hS
    have H0 := Lib.hid h0
    have H1 := Lib.hid h1
    have H2 := Lib.hid h2
    have H3 := Lib.hid h3
    have HB4 := Lib.hid hb
    have HRW := Lib.hid (RdS.of_owns h0.own)
    have hll : (missL pre).length ≤ 1000000 := by omega
    clear hS h0 h1 h2 h3 hb hpre hml hpl
    generalize hll2 : missL pre = l at *
    have HC3 := Lib.hid (fun (W : World) (h : RdS W (.slice va l.length vc) 1 l.length (strsV l)) => ContainsS_any l _ a W h)
    have HAD : Hid (addM l (i, a, tt) = if tt < 0 ∧ hasS l a = false then l ++ [a] else l) := Lib.hid rfl
    dsimp only
    gi_upto_region 4 with fail
    gi_cut [17] from 8 (fun s17 wx => s17 = .bool (decide (tt < 0) && !hasS l a) ∧ wx = W)
    case first =>
      by_cases c1 : tt < 0
      case neg =>
        have d1 : decide (tt < 0) = false := decide_eq_false c1
        have hF : Hid ((decide (tt < 0) && !hasS l a) = false) := Lib.hid (by rw [d1]; rfl)
        clear c1
        gi_wp2_with fail
        gi_meet
        exact ⟨by rw [hF.out], rfl⟩
      have d1 : decide (tt < 0) = true := decide_eq_true c1
      have hF : Hid ((decide (tt < 0) && !hasS l a) = !hasS l a) := Lib.hid (by rw [d1]; rfl)
      clear c1
      generalize hasS l a = b3 at *
      gi_wp2_with (gi_at_call 102; refine (CallsIn.inRound l0 (callsIn_wide.2 (HC3.out W HRW.out))).mono ?_; rintro e W7 ⟨rfl, rfl⟩)
      gi_meet
      exact ⟨by rw [hF.out], rfl⟩
    case rest =>
    obtain ⟨rfl, rfl⟩ := hcut
    by_cases hc : (decide (tt < 0) && !hasS l a) = true
    case neg =>
      have d3 : (decide (tt < 0) && !hasS l a) = false := by simpa using hc
      have hE : Hid (missL (pre ++ [(i, a, tt)]) = l) := Lib.hid (by rw [HSN.out, HAD.out, if_neg]; rintro ⟨h1, h2⟩; rw [decide_eq_true h1, h2] at d3; cases d3)
      rw [d3]
      clear d3 hc p1 p2 q1
      gi_wp2_with fail
      exact ⟨⟨va, vc, by rw [hE.out]; exact H0.out, H1.out, by rw [hE.out]; exact H2.out, H3.out⟩, Keep.refl _ _ _⟩
    have hE : Hid (missL (pre ++ [(i, a, tt)]) = l ++ [a]) := Lib.hid (by rw [HSN.out, HAD.out, if_pos]; simp at hc; exact hc)
    rw [hc]
    clear hc
    have hBV : w.heap.size + 1 < wc.heap.size := H0.out.box.lt
    clear p2 HB4 HRW
    gi_wp2_with (gi_at_builtin; go_must (refine wpListIn_push rfl _ _ 31 rfl (w.heap.size + 1) 9 i0 (.string ByteArray.empty) 1 16 Try.underlying31 hi hz0 hz1 hz2 rfl (by decide) _ _ _ rfl (H0.out.own.alloc _) ⟨wc.heap.size, 0, none⟩ 1 1 [_] rfl rfl (cell_one_new _ _ _) (by simp [Value.oneCell']) (by unfold maxLen; omega) (by omega) (by simp; omega) ?_; intro v' w2 hown' hgrow hfr; obtain ⟨va', vc', rfl, kb1, kb2, kb3, kb4, kb5, kb6, kb7⟩ := out_pushedS (S := S) H0.out HS.out H1.out H2.out hown' hgrow hfr; have hc1 := kb1.cell; have hf1 := kb1.frozen; have KB2 := Lib.hid kb2; have KB3 := Lib.hid kb3; have KB5 := Lib.hid kb5; clear hown' hgrow hfr kb1 kb2 kb3 kb4 kb5 kb6 kb7))
    have hk5 := KB5.out
    rw [show l.length + 1 = (l ++ [a]).length by simp] at hk5
    exact ⟨⟨va', vc', by rw [hE.out]; exact KB2.out, H1.out, by rw [hE.out]; exact hk5, H3.out.trans (KB3.out.below.mono (by omega))⟩, KB3.out⟩
end Go.Proofs.Ytbnggfhofdpdcaa

/-
  bounds and names: note, within; the reference's Real.
-/
namespace Go.Proofs.Ytbnggfhofdpdcaa
open Go Go.RowKit Go.WideShapes

/-- Diags that a box holds. -/
structure OutG (W : World) (B : Nat) (va : Option Addr) (vc : Nat) (l : List DiagD) : Prop where
  box : Boxed W B 51 (.slice va l.length vc)
  own : OwnG W B va vc l
theorem OutG.below {W W' : World} {B vc : Nat} {va : Option Addr} {l : List DiagD} (h : OutG W B va vc l) (hb : Below W.heap.size W W') : OutG W' B va vc l := ⟨(hb.block _ h.box.lt).trans h.box, h.own.below hb⟩
def noteL (l : List DiagD) (b : Bool) (x : DiagD) : List DiagD := if b then l ++ [x] else l
/-- What a note leaves: the list behind the box, and all else. -/
def Noted (W w' : World) (B : Nat) (va : Option Addr) (vc : Nat) (l' l : List DiagD) : Prop :=
  ∃ va' vc', OutG w' B va' vc' l' ∧ Below B W w' ∧ (∀ (q : Nat) (ob : Obj), W.heap[q]? = some ob → q ≠ B → (Value.slice va l.length vc).ownBlock ≠ some q → w'.heap[q]? = some ob) ∧ ∀ q, q < W.heap.size → (Value.slice va l.length vc).ownBlock ≠ some q → (Value.slice va' l'.length vc').ownBlock ≠ some q
theorem outG_pushed {W w1 : World} {B vc : Nat} {va : Option Addr} {l : List DiagD} {x : DiagD} {v' : Value} {tmp : Obj} (h : OutG W B va vc l) (hown' : w1.ownsRow B 61 3 v' (l.length + 1) (flatG l ++ encG x)) (hgrow : (W.alloc tmp).grownBy w1 (Value.slice va l.length vc).ownBlock) (hfr : Fresh (W.alloc tmp) (.slice va l.length vc) v') :
    ∃ va' vc', v' = .slice va' (l.length + 1) vc' ∧ Boxed w1 B 51 (.slice va l.length vc) ∧ OutG (w1.setCell ⟨B, 0, none⟩ v') B va' vc' (noteL l true x) ∧ (Below B W (w1.setCell ⟨B, 0, none⟩ v') ∧ (∀ (q : Nat) (o : Obj), W.heap[q]? = some o → q ≠ B → (Value.slice va l.length vc).ownBlock ≠ some q → (w1.setCell ⟨B, 0, none⟩ v').heap[q]? = some o) ∧
      (∀ q, q < W.heap.size → (Value.slice va l.length vc).ownBlock ≠ some q → (Value.slice va' (noteL l true x).length vc').ownBlock ≠ some q)) := by
  obtain ⟨va', vc', rfl⟩ := (RdS.of_owns hown').form
  obtain ⟨h1, h2, h3, h4, h5⟩ := boxed_pushed (n0 := B) (S := fun _ => False) h.box (by decide) h.own (Nat.le_of_lt h.box.lt) (Nat.le_refl _) (Nat.le_refl _) (fun _ h => h.elim) id (fun _ _ h => h) hown' hgrow hfr
  have hlen : (noteL l true x).length = l.length + 1 := by simp [noteL]
  refine ⟨va', vc', rfl, h1, ⟨by rw [hlen]; exact h2, ?_⟩, h4.below, fun q o ho hq hne => pushed_other hgrow ho hq hne, fun q hq hne e => ?_⟩
  · unfold OwnG
    rw [hlen]
    have : flatG (noteL l true x) = flatG l ++ encG x := by rw [flatG_snoc]; rfl
    rw [this]
    exact h3
  · rw [hlen] at e
    rcases hfr q e with hf | hf
    · exact hne hf
    · simp at hf; omega

set_option maxRecDepth 100000 in
set_option maxHeartbeats 2000000 in
theorem bnote_any (b : Bool) (st er : Int) (tx : ByteArray) (l : List DiagD) (B vc : Nat) (va : Option Addr) (W : World) (ho : OutG W B va vc l) (hl : l.length ≤ 1000000) :
    Calls Try.prog 145 #[.bool b, .int .i64 st, .int .i64 er, .string tx, .pointer (some ⟨B, 0, none⟩)] W fun e w' => e = .returned (.tuple #[]) ∧ Noted W w' B va vc (noteL l b (st, er, tx)) l := by
  obtain ⟨i0, hi, hz0, hz1, hz2⟩ := info_parts Try.info_diag
  have HO := Lib.hid ho
  have hc0 := ho.box.cell
  have hBl := ho.box.lt
  clear ho
  cases b with
  | false =>
    go_enter Try.func145, Try.ntmps145
    go_wp2_with fail
    go_end0
    exact ⟨rfl, va, vc, HO.out, Below.refl _ _, fun _ _ h _ _ => h, fun _ _ h => h⟩
  | true =>
    go_enter Try.func145, Try.ntmps145
    go_wp2_with (at_builtin; go_must (refine wpList_push rfl _ _ 51 rfl B 61 i0 (.agg #[.int .i64 0, .int .i64 0, .string { data := #[] }]) 3 32 Try.underlying51 hi hz0 hz1 hz2 rfl (by decide) _ _ _ rfl (World.ownsRow.alloc HO.out.own _) ⟨W.heap.size, 0, none⟩ 1 1 (encG (st, er, tx)) rfl rfl cells3_new (encG_one (st, er, tx)) (by unfold maxLen; omega) (by omega) (by simp; omega) ?_; intro v' w2 hown' hgrow hfr; obtain ⟨va', vc', rfl, kb1, kb2, kb3⟩ := outG_pushed HO.out hown' hgrow hfr; have hc1 := kb1.cell; have hf1 := kb1.frozen; have KB2 := Lib.hid kb2; have KB3 := Lib.hid kb3; clear hown' hgrow hfr kb1 kb2 kb3))
    go_end0
    exact ⟨rfl, va', vc', KB2.out, KB3.out.1, KB3.out.2.1, KB3.out.2.2⟩

set_option maxRecDepth 100000 in
set_option maxHeartbeats 2000000 in
theorem nnote_any (b : Bool) (st er : Int) (tx : ByteArray) (l : List DiagD) (B vc : Nat) (va : Option Addr) (W : World) (ho : OutG W B va vc l) (hl : l.length ≤ 1000000) :
    Calls Try.prog 93 #[.bool b, .int .i64 st, .int .i64 er, .string tx, .pointer (some ⟨B, 0, none⟩)] W fun e w' => e = .returned (.tuple #[]) ∧ Noted W w' B va vc (noteL l b (st, er, tx)) l := by
  obtain ⟨i0, hi, hz0, hz1, hz2⟩ := info_parts Try.info_diag
  have HO := Lib.hid ho
  have hc0 := ho.box.cell
  have hBl := ho.box.lt
  clear ho
  cases b with
  | false =>
    go_enter Try.func93, Try.ntmps93
    go_wp2_with fail
    go_end0
    exact ⟨rfl, va, vc, HO.out, Below.refl _ _, fun _ _ h _ _ => h, fun _ _ h => h⟩
  | true =>
    go_enter Try.func93, Try.ntmps93
    go_wp2_with (at_builtin; go_must (refine wpList_push rfl _ _ 51 rfl B 61 i0 (.agg #[.int .i64 0, .int .i64 0, .string { data := #[] }]) 3 32 Try.underlying51 hi hz0 hz1 hz2 rfl (by decide) _ _ _ rfl (World.ownsRow.alloc HO.out.own _) ⟨W.heap.size, 0, none⟩ 1 1 (encG (st, er, tx)) rfl rfl cells3_new (encG_one (st, er, tx)) (by unfold maxLen; omega) (by omega) (by simp; omega) ?_; intro v' w2 hown' hgrow hfr; obtain ⟨va', vc', rfl, kb1, kb2, kb3⟩ := outG_pushed HO.out hown' hgrow hfr; have hc1 := kb1.cell; have hf1 := kb1.frozen; have KB2 := Lib.hid kb2; have KB3 := Lib.hid kb3; clear hown' hgrow hfr kb1 kb2 kb3))
    go_end0
    exact ⟨rfl, va', vc', KB2.out, KB3.out.1, KB3.out.2.1, KB3.out.2.2⟩

theorem within_any (x lo hi : Int) (W : World) :
    Calls Try.prog 146 #[.int .i64 x, .int .i64 lo, .int .i64 hi] W fun e w' => e = .returned (.bool (decide (lo ≤ x) && decide (x ≤ hi))) ∧ w' = W := by
  by_cases h1 : lo ≤ x
  · have d1 : decide (lo ≤ x) = true := decide_eq_true h1
    go_enter Try.func146, Try.ntmps146
    go_wp2_with fail
    go_ret
    rw [d1]
    exact ⟨rfl, rfl⟩
  · have d1 : decide (lo ≤ x) = false := decide_eq_false h1
    go_enter Try.func146, Try.ntmps146
    go_wp2_with fail
    go_ret
    exact ⟨rfl, rfl⟩
theorem setc13 {W : World} {B i : Nat} {t : TypeId} {l : List Value} (x : Value) (h : W.heap[B]? = some (.cells l.toArray t (0, 0))) : (W.setCell ⟨B, i, none⟩ x).heap[B]? = some (.cells (l.set i x).toArray t (0, 0)) := by
  have := setCell_heap i x h
  rw [this]
  simp
set_option maxRecDepth 100000 in
set_option maxHeartbeats 4000000 in
theorem rReal_any (s0 s1 s2 : ByteArray) (af : Option Addr) (an ac : Nat) (m f k l : Int) (nk : Int) (nt : ByteArray) (ka : Option Addr) (kn kc : Nat) (da : Option Addr) (dn dc : Nat) (nl : Int) (w : World) :
    Calls Try.prog 25 #[stepV s0 s1 s2 af an ac m f k l nk nt ka kn kc da dn dc nl] w fun e w' => e = .returned (stepV s0 s1 s2 af an ac (or0 m 1) f (or0 k 1) (or0 l 100) nk nt ka kn kc da dn dc nl) ∧ Below w.heap.size w w' := by
  unfold stepV or0
  by_cases h1 : m = 0 <;> by_cases h2 : k = 0 <;> by_cases h3 : l = 0
  all_goals (
    have e1 : (m == 0) = decide (m = 0) := by rw [Bool.eq_iff_iff]; simp
    have e2 : (k == 0) = decide (k = 0) := by rw [Bool.eq_iff_iff]; simp
    have e3 : (l == 0) = decide (l = 0) := by rw [Bool.eq_iff_iff]; simp
    simp only [h1, h2, h3, if_true, if_false, decide_true, decide_false] at e1 e2 e3 ⊢
    go_enter Try.func25, Try.ntmps25
    go_wp2_with fail)
  all_goals refine bodyPost_ret ?_ rfl ⟨rfl, ((Below.refl _ w).alloc (Nat.le_refl _) _).alloc (by simp) _⟩
  all_goals simp [results, Try.results25, go_sem]
end Go.Proofs.Ytbnggfhofdpdcaa

/-
  rescriptref25: among, Missing: contracts.
-/
namespace Go.Proofs.Ytbnggfhofdpdcaa
open Go Go.RowKit Go.WideShapes

/-- A list of texts that the call owns. -/
def OwnT (W : World) (B : Nat) (va : Option Addr) (vc : Nat) (l : List ByteArray) : Prop := W.ownsRow B 9 1 (.slice va l.length vc) l.length (strsV l)
theorem OwnT.alloc {W : World} {B vc : Nat} {va : Option Addr} {l : List ByteArray} (h : OwnT W B va vc l) (ob : Obj) : (W.alloc ob).ownsRow B 9 1 (.slice va l.length vc) l.length (strsV l) := World.ownsRow.alloc h ob
theorem texts_pushed {W w1 : World} {B vc : Nat} {va : Option Addr} {l : List ByteArray} {x : ByteArray} {v' : Value} {tmp : Obj} (h : OwnT W B va vc l) (hB : B ≤ W.heap.size) (hown' : w1.ownsRow B 9 1 v' (l.length + 1) (strsV l ++ [.string x])) (hgrow : (W.alloc tmp).grownBy w1 (Value.slice va l.length vc).ownBlock) :
    ∃ va' vc', v' = .slice va' (l.length + 1) vc' ∧ OwnT w1 B va' vc' (l ++ [x]) ∧ Below B W w1 := by
  obtain ⟨va', vc', rfl⟩ := (RdS.of_owns hown').form
  refine ⟨va', vc', rfl, ?_, ((Below.refl B W).alloc hB tmp).grown hgrow (by simp; omega) (fun j ej => (World.ownsRow.lt h j ej).1)⟩
  have e : strsV l ++ [.string x] = strsV (l ++ [x]) := by simp [strsV]
  rw [e] at hown'
  unfold OwnT
  simpa using hown'
theorem hasS_mem {l : List ByteArray} {n : ByteArray} : hasS l n = decide (n ∈ l) := by
  unfold hasS
  rw [Bool.eq_iff_iff]
  simp
set_option maxRecDepth 100000 in
theorem ramong_any (l : List ByteArray) (n : ByteArray) (v : Value) (w : World) (hv : RdS w v 1 l.length (strsV l)) :
    Calls Try.prog 97 #[v, .string n] w fun e w' => e = .returned (.bool (hasS l n)) ∧ w' = w := by
  have hlen : l.length ≤ 9223372036854775807 := by obtain ⟨_, _, _, _, h1, h2, _⟩ := hv; unfold maxLen at h2; omega
  obtain ⟨a, c, rfl⟩ := hv.form
  rw [hasS_mem]
  have HV := Lib.hid hv
  clear hv
  go_enter Try.func97, Try.ntmps97
  go_wp2_with fail
  go_loopg [5] (l.length + 1) (fun gk i wr => ∃ (k : Nat), k + gk = l.length + 1 ∧ k ≤ l.length ∧ i = .int .i64 k ∧ Hid (n ∉ l.take k) ∧ wr = w)
  case atStart => exact ⟨0, by omega, by omega, rfl, Lib.hid (by simp), rfl⟩
  case round =>
    obtain ⟨k, hgk, hk, rfl, HN, rfl⟩ := hrel
    have hg : gk = l.length + 1 - k := by omega
    subst hg
    by_cases hkl : k < l.length
    · have d1 : decide ((k : Int) < (l.length : Int)) = true := decide_eq_true (by omega)
      have hk1 : (k : Int) < (l.length : Int) := by omega
      obtain ⟨g, off, rfl, q1, q2, z0⟩ := strs_at HV.out hkl
      have HT : Hid (l.take (k + 1) = l.take k ++ [l[k]]) := Lib.hid (by rw [List.take_add_one, List.getElem?_eq_getElem hkl]; rfl)
      have HM := Lib.hid (List.getElem_mem hkl)
      generalize l[k] = x at *
      by_cases hn : x = n
      · have e1 : (x.toList == n.toList) = true := beqS_yes hn
        have HS2 : Hid (decide (n ∈ l) = true) := Lib.hid (decide_eq_true (hn ▸ HM.out))
        clear hn
        go_wp2_with fail
        go_ret
        rw [HS2.out]
        exact ⟨rfl, rfl⟩
      · have e1 : (x.toList == n.toList) = false := beqS_no hn
        have HS2 : Hid (n ∉ l.take (k + 1)) := Lib.hid (by rw [HT.out, List.mem_append]; rintro (h | h); exact HN.out h; simp at h; exact hn h.symm)
        clear hn
        go_wp2_with fail
        go_roundg (l.length + 1 - (k + 1))
        case measure => omega
        case rel => exact ⟨k + 1, by omega, by omega, by go_num, HS2, rfl⟩
    · have d1 : decide ((k : Int) < (l.length : Int)) = false := decide_eq_false (by omega)
      have hk1 : ¬ (k : Int) < (l.length : Int) := by omega
      have HS2 : Hid (decide (n ∈ l) = false) := Lib.hid (decide_eq_false (by have := HN.out; rwa [List.take_of_length_le (by omega)] at this))
      go_wp2_with fail
      go_ret
      rw [HS2.out]
      exact ⟨rfl, rfl⟩

set_option maxRecDepth 100000 in
set_option maxHeartbeats 8000000 in
theorem rMissing_any (d : DefD) (cs : List Value) (sa : Option Addr) (sc : Nat) (w : World) (h : DefR w cs d sa sc) (hrl : (refsF d.steps 0 d.steps).length ≤ 1000000) :
    Calls Try.prog 37 #[.agg cs.toArray] w fun e w' => ∃ v, e = .returned v ∧ RdS w' v 1 (missL (refsF d.steps 0 d.steps)).length (strsV (missL (refsF d.steps 0 d.steps))) ∧ Below w.heap.size w w' := by
  obtain ⟨i0, hi, hz0, hz1, hz2⟩ := info_parts Try.info_str
  obtain ⟨rfl, hna, hta, hva⟩ := h
  obtain ⟨_, _, he1, hl1, hl2⟩ := hva.form
  cases he1
  have g0 := World.alloc_heap_new w (.cells #[.string d.name, .string d.text, .slice sa d.steps.length sc] 24)
  have hb0 : Below w.heap.size w (w.alloc (.cells #[.string d.name, .string d.text, .slice sa d.steps.length sc] 24)) := (Below.refl _ _).alloc (Nat.le_refl _) _
  have HV0 := Lib.hid hva
  have hs0 : (w.alloc (.cells #[.string d.name, .string d.text, .slice sa d.steps.length sc] 24)).heap.size = w.heap.size + 1 := by simp
  clear hva
  go_enter Try.func37, Try.ntmps37
  go_wp2_with fail
  generalize (w.alloc (.cells #[.string d.name, .string d.text, .slice sa d.steps.length sc] 24)) = w1 at *
  have HB0 := Lib.hid hb0
  have G0 := Lib.hid g0
  clear hb0 g0
  go_loopg [4, 3] (d.steps.length + 1) (fun gk i v wr => ∃ (k : Nat) (va : Option Addr) (vc n : Nat), k + gk = d.steps.length + 1 ∧ k ≤ d.steps.length ∧ i = .int .i64 k ∧ v = .slice va n vc ∧ Hid (n = (missL (refsF d.steps 0 (d.steps.take k))).length) ∧ Hid (OwnT wr (w.heap.size + 1) va vc (missL (refsF d.steps 0 (d.steps.take k)))) ∧ Hid (Below (w.heap.size + 1) w1 wr))
  case atStart => exact ⟨0, _, _, _, by omega, by omega, rfl, rfl, Lib.hid rfl, Lib.hid (World.ownsRow_nil _ _ _ _), Lib.hid (Below.refl _ _)⟩
  case round =>
    obtain ⟨k, va, vc, n, hgk, hk, rfl, rfl, HNL, HO, HBR⟩ := hrel
    have hg : gk = d.steps.length + 1 - k := by omega
    subst hg
    have hsr := HBR.out.size
    obtain ⟨p0, p1, p2, -, -, -⟩ := cells3h ((HBR.out.block w.heap.size (by omega)).trans G0.out)
    by_cases hkl : k < d.steps.length
    · have d1 : decide ((k : Int) < (d.steps.length : Int)) = true := decide_eq_true (by omega)
      have hk1 : (k : Int) < (d.steps.length : Int) := by omega
      have HBW := Lib.hid (HB0.out.trans (HBR.out.mono (Nat.le_succ _)))
      obtain ⟨g, off, cap, aa1, ac1, ka1, kc1, ba1, bc1, he, q1, q2, hns0, -, -, -, z3, -⟩ := HV0.out.at hkl
      cases he
      replace z3 := cellB HBW.out z3
      have HA0 := Lib.hid hns0.after
      have HSN := Lib.hid (refsF_snoc d.steps hkl)
      have HPX := Lib.hid (refs_prefix d.steps hkl)
      have hal := hns0.after.2
      obtain ⟨_, _, hae, hal1, hal2, -⟩ := hal
      cases hae
      unfold maxLen at hal2
      clear hns0
      generalize d.steps[k] = s at *
      go_wp2_with fail
      clear p0 p1 p2 z3
      go_loopg [6, 3] (s.after.length + 1) (fun gk i v wi => ∃ (j : Nat) (va : Option Addr) (vc n : Nat), j + gk = s.after.length + 1 ∧ j ≤ s.after.length ∧ i = .int .i64 j ∧ v = .slice va n vc ∧ Hid (n = (missL (refsF d.steps 0 (d.steps.take k) ++ (rowRf d.steps k s).take j)).length) ∧ Hid (OwnT wi (w.heap.size + 1) va vc (missL (refsF d.steps 0 (d.steps.take k) ++ (rowRf d.steps k s).take j))) ∧ Hid (Below (w.heap.size + 1) w1 wi))
      case atStart => exact ⟨0, _, _, _, by omega, by omega, rfl, rfl, by simpa using HNL, by simpa using HO, HBR⟩
      case round =>
        obtain ⟨j, ua, uc, n, hgj, hja, rfl, rfl, HNL2, HU, HBI⟩ := hrel
        rename World => wi
        have hg : gk = s.after.length + 1 - j := by omega
        subst hg
        have hsi := HBI.out.size
        have hnl := HNL2.out
        obtain ⟨p0, p1, p2, -, -, -⟩ := cells3h ((HBI.out.block w.heap.size (by omega)).trans G0.out)
        have HBWI := Lib.hid (HB0.out.trans (HBI.out.mono (Nat.le_succ _)))
        by_cases hjl : j < s.after.length
        · have d2 : decide ((j : Int) < (s.after.length : Int)) = true := decide_eq_true (by omega)
          have hj1 : (j : Int) < (s.after.length : Int) := by omega
          obtain ⟨ag, ao, rfl, y1, y2, y0⟩ := strs_at (HA0.out.below HBWI.out) hjl
          have HT2 : Hid (refsF d.steps 0 (d.steps.take k) ++ (rowRf d.steps k s).take (j + 1) = (refsF d.steps 0 (d.steps.take k) ++ (rowRf d.steps k s).take j) ++ [(k, s.after[j], idxStep d.steps s.after[j] 0)]) := Lib.hid (by rw [rowRf_take d.steps k s hjl, List.append_assoc])
          have HML : Hid (missL (refsF d.steps 0 (d.steps.take k) ++ (rowRf d.steps k s).take (j + 1)) = addM (missL (refsF d.steps 0 (d.steps.take k) ++ (rowRf d.steps k s).take j)) (k, s.after[j], idxStep d.steps s.after[j] 0)) := Lib.hid (by rw [HT2.out, missL_snoc])
          have hml := missL_len (refsF d.steps 0 (d.steps.take k) ++ (rowRf d.steps k s).take j)
          have hpl := (HPX.out j).length_le
          have hll : (missL (refsF d.steps 0 (d.steps.take k) ++ (rowRf d.steps k s).take j)).length ≤ 1000000 := by omega
          have HIX := Lib.hid (fun (W : World) (hb : Below wi.heap.size wi W) => rIdx_any d _ _ sc s.after[j] W ⟨rfl, hna, hta, HV0.out.below (bthen HBWI.out (Nat.le_refl _) hb)⟩)
          clear HT2 hml hpl
          generalize missL (refsF d.steps 0 (d.steps.take k) ++ (rowRf d.steps k s).take j) = l at *
          generalize s.after[j] = a at *
          generalize idxStep d.steps a 0 = tt at *
          subst hnl
          have HRDX := Lib.hid (RdS.of_owns HU.out)
          have HAM := Lib.hid (fun (W : World) h => ramong_any l a (.slice ua l.length uc) W h)
          have HAD : Hid (addM l (k, a, tt) = if tt < 0 ∧ hasS l a = false then l ++ [a] else l) := Lib.hid rfl
          go_upto_region 9 with fail
          by_cases c1 : tt < 0
          case neg =>
            have d3 : decide (tt < 0) = false := decide_eq_false c1
            have HE : Hid (missL (refsF d.steps 0 (d.steps.take k) ++ (rowRf d.steps k s).take (j + 1)) = l) := Lib.hid (by rw [HML.out, HAD.out, if_neg (fun h => c1 h.1)])
            clear c1
            refine E_region (S := (fun W => W.cell? ⟨w.heap.size, 0, none⟩ = some (.string d.name) ∧ W.cell? ⟨w.heap.size, 1, none⟩ = some (.string d.text) ∧ W.cell? ⟨w.heap.size, 2, none⟩ = some (.slice (some ⟨g, off, none⟩) d.steps.length sc) ∧ W.cell? ⟨ag, ao + j, none⟩ = some (.string a))) 15 (by kernel_rfl) ⟨p0, p1, p2, y0⟩ (fun _ _ _ _ _ h => h) (fun Q' hQ hK' hHeld => ?_)
            refine E_take hQ hHeld 0 (v := ?eav1) rfl rfl (by kernel_rfl) (by kernel_rfl) (by kernel_rfl) (by kernel_rfl) (by kernel_rfl) (by rfl) ?eay1 ?ear1
            case eay1 => (intro w hSw; (try dsimp only at hSw); go_simp; (try with_reducible rfl))
            (try simp only [Act.put, List.setIfInBounds_toArray, List.set_cons_zero, List.set_cons_succ])
            refine E_take0 hQ (fun _ => hHeld) 1 (v := ?eav2) rfl rfl (by kernel_rfl) (by kernel_rfl) (by kernel_rfl) (by decide) (by rfl) ?eay2 ?ear2
            case eay2 => (intro w; go_simp; (try with_reducible rfl))
            (try simp only [Act.put, List.setIfInBounds_toArray, List.set_cons_zero, List.set_cons_succ])
            refine E_take0 hQ (fun _ => hHeld) 2 (v := ?eav3) rfl rfl (by kernel_rfl) (by kernel_rfl) (by kernel_rfl) (by decide) (by rfl) ?eay3 ?ear3
            case eay3 => (intro w; go_simp; (try with_reducible rfl))
            (try simp only [Act.put, List.setIfInBounds_toArray, List.set_cons_zero, List.set_cons_succ])
            refine E_take0 hQ (fun _ => hHeld) 3 (v := ?eav4) rfl rfl (by kernel_rfl) (by kernel_rfl) (by kernel_rfl) (by decide) (by rfl) ?eay4 ?ear4
            case eay4 => (intro w; go_simp; (try with_reducible rfl))
            (try simp only [Act.put, List.setIfInBounds_toArray, List.set_cons_zero, List.set_cons_succ])
            refine E_take hQ hHeld 4 (v := ?eav5) rfl rfl (by kernel_rfl) (by kernel_rfl) (by kernel_rfl) (by kernel_rfl) (by kernel_rfl) (by rfl) ?eay5 ?ear5
            case eay5 => (intro w hSw; (try dsimp only at hSw); go_simp; (try with_reducible rfl))
            (try simp only [Act.put, List.setIfInBounds_toArray, List.set_cons_zero, List.set_cons_succ])
            refine E_one 5 (by kernel_rfl) rfl (by rfl) (fun K hK => ?_)
            go_simp
            refine (HIX.out wi.drew ((Below.refl _ _).drew)).mono ?_
            rintro e W10 ⟨rfl, hb10⟩
            have HB10 := Lib.hid hb10
            clear hb10
            (skip)
            refine hK.out _ _ (fun _ _ => ⟨cellB HB10.out hHeld.1, cellB HB10.out hHeld.2.1, cellB HB10.out hHeld.2.2.1, cellB HB10.out hHeld.2.2.2⟩) (fun hHeld' => ?_)
            replace hHeld := hHeld' (by rfl) (by decide)
            clear hK hHeld'
            (try simp only [Act.put, List.setIfInBounds_toArray, List.set_cons_zero, List.set_cons_succ])
            refine E_take0 hQ (fun _ => hHeld) 6 (v := ?eav6) rfl rfl (by kernel_rfl) (by kernel_rfl) (by kernel_rfl) (by decide) (by rfl) ?eay6 ?ear6
            case eay6 => (intro w; go_simp; (try with_reducible rfl))
            (try simp only [Act.put, List.setIfInBounds_toArray, List.set_cons_zero, List.set_cons_succ])
            refine E_take0 hQ (fun _ => hHeld) 7 (v := ?eav7) rfl rfl (by kernel_rfl) (by kernel_rfl) (by kernel_rfl) (by decide) (by rfl) ?eay7 ?ear7
            case eay7 => (intro w; go_simp; (try with_reducible rfl))
            (try simp only [Act.put, List.setIfInBounds_toArray, List.set_cons_zero, List.set_cons_succ])
            refine E_off hQ (fun _ => hHeld) 8 rfl rfl (by kernel_rfl) (by kernel_rfl) (by kernel_rfl) (by decide) (by rfl) ?_
            (try simp only [Act.put, List.setIfInBounds_toArray, List.set_cons_zero, List.set_cons_succ])
            refine E_off hQ (fun _ => hHeld) 9 rfl rfl (by kernel_rfl) (by kernel_rfl) (by kernel_rfl) (by decide) (by rfl) ?_
            (try simp only [Act.put, List.setIfInBounds_toArray, List.set_cons_zero, List.set_cons_succ])
            refine E_off hQ (fun _ => hHeld) 10 rfl rfl (by kernel_rfl) (by kernel_rfl) (by kernel_rfl) (by decide) (by rfl) ?_
            (try simp only [Act.put, List.setIfInBounds_toArray, List.set_cons_zero, List.set_cons_succ])
            refine E_off hQ (fun _ => hHeld) 11 rfl rfl (by kernel_rfl) (by kernel_rfl) (by kernel_rfl) (by decide) (by rfl) ?_
            (try simp only [Act.put, List.setIfInBounds_toArray, List.set_cons_zero, List.set_cons_succ])
            refine E_off hQ (fun _ => hHeld) 12 rfl rfl (by kernel_rfl) (by kernel_rfl) (by kernel_rfl) (by decide) (by rfl) ?_
            (try simp only [Act.put, List.setIfInBounds_toArray, List.set_cons_zero, List.set_cons_succ])
            refine E_off hQ (fun _ => hHeld) 13 rfl rfl (by kernel_rfl) (by kernel_rfl) (by kernel_rfl) (by decide) (by rfl) ?_
            (try simp only [Act.put, List.setIfInBounds_toArray, List.set_cons_zero, List.set_cons_succ])
            refine E_off hQ (fun _ => hHeld) 14 rfl rfl (by kernel_rfl) (by kernel_rfl) (by kernel_rfl) (by decide) (by rfl) ?_
            (try simp only [Act.put, List.setIfInBounds_toArray, List.set_cons_zero, List.set_cons_succ])
            refine E_one 15 (by kernel_rfl) rfl (by rfl) (fun K hK => ?_)
            go_simp
            (try simp only [Act.put, List.setIfInBounds_toArray, List.set_cons_zero, List.set_cons_succ])
            refine hK.out _ _ (fun _ h => absurd rfl h) (fun _ => ?_)
            clear hK hHeld
            (try simp only [Act.put, List.setIfInBounds_toArray, List.set_cons_zero, List.set_cons_succ])
            refine E_done (by kernel_rfl) ?_ _
            refine hK'.out _ _ ?_
            have HBX := Lib.hid (HBI.out.drew.trans (HB10.out.mono (by show _ ≤ wi.heap.size; omega)))
            have HUX : Hid (OwnT W10 (w.heap.size + 1) ua uc l) := Lib.hid (ownsB (w := wi.drew) HU.out HB10.out)
            clear p0 p1 p2 y0
            go_wp2_with fail
            go_roundg (s.after.length + 1 - (j + 1))
            case measure => omega
            case rel => exact ⟨j + 1, ua, uc, _, by omega, by omega, by go_num, rfl, Lib.hid (by rw [HE.out]), Lib.hid (by rw [HE.out]; exact HUX.out), HBX⟩
          have d3 : decide (tt < 0) = true := decide_eq_true c1
          cases hb3 : hasS l a with
          | true =>
            rw [hb3] at HAM HAD
            have HE : Hid (missL (refsF d.steps 0 (d.steps.take k) ++ (rowRf d.steps k s).take (j + 1)) = l) := Lib.hid (by rw [HML.out, HAD.out, if_neg (fun h => by cases h.2)])
            clear c1 hb3
            refine E_region (S := (fun W => W.cell? ⟨w.heap.size, 0, none⟩ = some (.string d.name) ∧ W.cell? ⟨w.heap.size, 1, none⟩ = some (.string d.text) ∧ W.cell? ⟨w.heap.size, 2, none⟩ = some (.slice (some ⟨g, off, none⟩) d.steps.length sc) ∧ W.cell? ⟨ag, ao + j, none⟩ = some (.string a))) 13 (by kernel_rfl) ⟨p0, p1, p2, y0⟩ (fun _ _ _ _ _ h => h) (fun Q' hQ hK' hHeld => ?_)
            refine E_take hQ hHeld 0 (v := ?etv1) rfl rfl (by kernel_rfl) (by kernel_rfl) (by kernel_rfl) (by kernel_rfl) (by kernel_rfl) (by rfl) ?ety1 ?etr1
            case ety1 => (intro w hSw; (try dsimp only at hSw); go_simp; (try with_reducible rfl))
            (try simp only [Act.put, List.setIfInBounds_toArray, List.set_cons_zero, List.set_cons_succ])
            refine E_take0 hQ (fun _ => hHeld) 1 (v := ?etv2) rfl rfl (by kernel_rfl) (by kernel_rfl) (by kernel_rfl) (by decide) (by rfl) ?ety2 ?etr2
            case ety2 => (intro w; go_simp; (try with_reducible rfl))
            (try simp only [Act.put, List.setIfInBounds_toArray, List.set_cons_zero, List.set_cons_succ])
            refine E_take0 hQ (fun _ => hHeld) 2 (v := ?etv3) rfl rfl (by kernel_rfl) (by kernel_rfl) (by kernel_rfl) (by decide) (by rfl) ?ety3 ?etr3
            case ety3 => (intro w; go_simp; (try with_reducible rfl))
            (try simp only [Act.put, List.setIfInBounds_toArray, List.set_cons_zero, List.set_cons_succ])
            refine E_take0 hQ (fun _ => hHeld) 3 (v := ?etv4) rfl rfl (by kernel_rfl) (by kernel_rfl) (by kernel_rfl) (by decide) (by rfl) ?ety4 ?etr4
            case ety4 => (intro w; go_simp; (try with_reducible rfl))
            (try simp only [Act.put, List.setIfInBounds_toArray, List.set_cons_zero, List.set_cons_succ])
            refine E_take hQ hHeld 4 (v := ?etv5) rfl rfl (by kernel_rfl) (by kernel_rfl) (by kernel_rfl) (by kernel_rfl) (by kernel_rfl) (by rfl) ?ety5 ?etr5
            case ety5 => (intro w hSw; (try dsimp only at hSw); go_simp; (try with_reducible rfl))
            (try simp only [Act.put, List.setIfInBounds_toArray, List.set_cons_zero, List.set_cons_succ])
            refine E_one 5 (by kernel_rfl) rfl (by rfl) (fun K hK => ?_)
            go_simp
            refine (HIX.out wi.drew ((Below.refl _ _).drew)).mono ?_
            rintro e W10 ⟨rfl, hb10⟩
            have HB10 := Lib.hid hb10
            clear hb10
            (skip)
            refine hK.out _ _ (fun _ _ => ⟨cellB HB10.out hHeld.1, cellB HB10.out hHeld.2.1, cellB HB10.out hHeld.2.2.1, cellB HB10.out hHeld.2.2.2⟩) (fun hHeld' => ?_)
            replace hHeld := hHeld' (by rfl) (by decide)
            clear hK hHeld'
            (try simp only [Act.put, List.setIfInBounds_toArray, List.set_cons_zero, List.set_cons_succ])
            refine E_take0 hQ (fun _ => hHeld) 6 (v := ?etv6) rfl rfl (by kernel_rfl) (by kernel_rfl) (by kernel_rfl) (by decide) (by rfl) ?ety6 ?etr6
            case ety6 => (intro w; go_simp; (try with_reducible rfl))
            (try simp only [Act.put, List.setIfInBounds_toArray, List.set_cons_zero, List.set_cons_succ])
            refine E_take0 hQ (fun _ => hHeld) 7 (v := ?etv7) rfl rfl (by kernel_rfl) (by kernel_rfl) (by kernel_rfl) (by decide) (by rfl) ?ety7 ?etr7
            case ety7 => (intro w; go_simp; (try with_reducible rfl))
            (try simp only [Act.put, List.setIfInBounds_toArray, List.set_cons_zero, List.set_cons_succ])
            refine E_take0 hQ (fun _ => hHeld) 8 (v := ?etv8) rfl rfl (by kernel_rfl) (by kernel_rfl) (by kernel_rfl) (by decide) (by rfl) ?ety8 ?etr8
            case ety8 => (intro w; go_simp; (try with_reducible rfl))
            (try simp only [Act.put, List.setIfInBounds_toArray, List.set_cons_zero, List.set_cons_succ])
            refine E_take0 hQ (fun _ => hHeld) 9 (v := ?etv9) rfl rfl (by kernel_rfl) (by kernel_rfl) (by kernel_rfl) (by decide) (by rfl) ?ety9 ?etr9
            case ety9 => (intro w; go_simp; (try with_reducible rfl))
            (try simp only [Act.put, List.setIfInBounds_toArray, List.set_cons_zero, List.set_cons_succ])
            refine E_take0 hQ (fun _ => hHeld) 10 (v := ?etv10) rfl rfl (by kernel_rfl) (by kernel_rfl) (by kernel_rfl) (by decide) (by rfl) ?ety10 ?etr10
            case ety10 => (intro w; go_simp; (try with_reducible rfl))
            (try simp only [Act.put, List.setIfInBounds_toArray, List.set_cons_zero, List.set_cons_succ])
            refine E_take0 hQ (fun _ => hHeld) 11 (v := ?etv11) rfl rfl (by kernel_rfl) (by kernel_rfl) (by kernel_rfl) (by decide) (by rfl) ?ety11 ?etr11
            case ety11 => (intro w; go_simp; (try with_reducible rfl))
            (try simp only [Act.put, List.setIfInBounds_toArray, List.set_cons_zero, List.set_cons_succ])
            refine E_take hQ hHeld 12 (v := ?etv12) rfl rfl (by kernel_rfl) (by kernel_rfl) (by kernel_rfl) (by kernel_rfl) (by kernel_rfl) (by rfl) ?ety12 ?etr12
            case ety12 => (intro w hSw; (try dsimp only at hSw); go_simp; (try with_reducible rfl))
            (try simp only [Act.put, List.setIfInBounds_toArray, List.set_cons_zero, List.set_cons_succ])
            refine E_one 13 (by kernel_rfl) rfl (by rfl) (fun K hK => ?_)
            go_simp
            refine (HAM.out W10 (HRDX.out.below (bthen ((Below.refl _ _).drew) (Nat.le_refl _) HB10.out))).mono ?_
            rintro e W13 ⟨rfl, rfl⟩
            (skip)
            refine hK.out _ _ (fun _ h => absurd rfl h) (fun _ => ?_)
            clear hK hHeld
            (try simp only [Act.put, List.setIfInBounds_toArray, List.set_cons_zero, List.set_cons_succ])
            refine E_take0 hQ (fun h => absurd h (by decide)) 14 (v := ?etv13) rfl rfl (by kernel_rfl) (by kernel_rfl) (by kernel_rfl) (by decide) (by rfl) ?ety13 ?etr13
            case ety13 => (intro w; go_simp; (try with_reducible rfl))
            (try simp only [Act.put, List.setIfInBounds_toArray, List.set_cons_zero, List.set_cons_succ])
            refine E_take0 hQ (fun h => absurd h (by decide)) 15 (v := ?etv14) rfl rfl (by kernel_rfl) (by kernel_rfl) (by kernel_rfl) (by decide) (by rfl) ?ety14 ?etr14
            case ety14 => (intro w; go_simp; (try with_reducible rfl))
            (try simp only [Act.put, List.setIfInBounds_toArray, List.set_cons_zero, List.set_cons_succ])
            refine E_done (by kernel_rfl) ?_ _
            refine hK'.out _ _ ?_
            have HBX := Lib.hid (HBI.out.drew.trans (HB10.out.mono (by show _ ≤ wi.heap.size; omega)))
            have HUX : Hid (OwnT W13 (w.heap.size + 1) ua uc l) := Lib.hid (ownsB (w := wi.drew) HU.out HB10.out)
            clear p0 p1 p2 y0
            go_wp2_with fail
            go_roundg (s.after.length + 1 - (j + 1))
            case measure => omega
            case rel => exact ⟨j + 1, ua, uc, _, by omega, by omega, by go_num, rfl, Lib.hid (by rw [HE.out]), Lib.hid (by rw [HE.out]; exact HUX.out), HBX⟩
          | false =>
            rw [hb3] at HAM HAD
            have HE : Hid (missL (refsF d.steps 0 (d.steps.take k) ++ (rowRf d.steps k s).take (j + 1)) = l ++ [a]) := Lib.hid (by rw [HML.out, HAD.out, if_pos ⟨c1, rfl⟩])
            clear c1 hb3
            refine E_region (S := (fun W => W.cell? ⟨w.heap.size, 0, none⟩ = some (.string d.name) ∧ W.cell? ⟨w.heap.size, 1, none⟩ = some (.string d.text) ∧ W.cell? ⟨w.heap.size, 2, none⟩ = some (.slice (some ⟨g, off, none⟩) d.steps.length sc) ∧ W.cell? ⟨ag, ao + j, none⟩ = some (.string a))) 13 (by kernel_rfl) ⟨p0, p1, p2, y0⟩ (fun _ _ _ _ _ h => h) (fun Q' hQ hK' hHeld => ?_)
            refine E_take hQ hHeld 0 (v := ?efv1) rfl rfl (by kernel_rfl) (by kernel_rfl) (by kernel_rfl) (by kernel_rfl) (by kernel_rfl) (by rfl) ?efy1 ?efr1
            case efy1 => (intro w hSw; (try dsimp only at hSw); go_simp; (try with_reducible rfl))
            (try simp only [Act.put, List.setIfInBounds_toArray, List.set_cons_zero, List.set_cons_succ])
            refine E_take0 hQ (fun _ => hHeld) 1 (v := ?efv2) rfl rfl (by kernel_rfl) (by kernel_rfl) (by kernel_rfl) (by decide) (by rfl) ?efy2 ?efr2
            case efy2 => (intro w; go_simp; (try with_reducible rfl))
            (try simp only [Act.put, List.setIfInBounds_toArray, List.set_cons_zero, List.set_cons_succ])
            refine E_take0 hQ (fun _ => hHeld) 2 (v := ?efv3) rfl rfl (by kernel_rfl) (by kernel_rfl) (by kernel_rfl) (by decide) (by rfl) ?efy3 ?efr3
            case efy3 => (intro w; go_simp; (try with_reducible rfl))
            (try simp only [Act.put, List.setIfInBounds_toArray, List.set_cons_zero, List.set_cons_succ])
            refine E_take0 hQ (fun _ => hHeld) 3 (v := ?efv4) rfl rfl (by kernel_rfl) (by kernel_rfl) (by kernel_rfl) (by decide) (by rfl) ?efy4 ?efr4
            case efy4 => (intro w; go_simp; (try with_reducible rfl))
            (try simp only [Act.put, List.setIfInBounds_toArray, List.set_cons_zero, List.set_cons_succ])
            refine E_take hQ hHeld 4 (v := ?efv5) rfl rfl (by kernel_rfl) (by kernel_rfl) (by kernel_rfl) (by kernel_rfl) (by kernel_rfl) (by rfl) ?efy5 ?efr5
            case efy5 => (intro w hSw; (try dsimp only at hSw); go_simp; (try with_reducible rfl))
            (try simp only [Act.put, List.setIfInBounds_toArray, List.set_cons_zero, List.set_cons_succ])
            refine E_one 5 (by kernel_rfl) rfl (by rfl) (fun K hK => ?_)
            go_simp
            refine (HIX.out wi.drew ((Below.refl _ _).drew)).mono ?_
            rintro e W10 ⟨rfl, hb10⟩
            have HB10 := Lib.hid hb10
            clear hb10
            (skip)
            refine hK.out _ _ (fun _ _ => ⟨cellB HB10.out hHeld.1, cellB HB10.out hHeld.2.1, cellB HB10.out hHeld.2.2.1, cellB HB10.out hHeld.2.2.2⟩) (fun hHeld' => ?_)
            replace hHeld := hHeld' (by rfl) (by decide)
            clear hK hHeld'
            (try simp only [Act.put, List.setIfInBounds_toArray, List.set_cons_zero, List.set_cons_succ])
            refine E_take0 hQ (fun _ => hHeld) 6 (v := ?efv6) rfl rfl (by kernel_rfl) (by kernel_rfl) (by kernel_rfl) (by decide) (by rfl) ?efy6 ?efr6
            case efy6 => (intro w; go_simp; (try with_reducible rfl))
            (try simp only [Act.put, List.setIfInBounds_toArray, List.set_cons_zero, List.set_cons_succ])
            refine E_take0 hQ (fun _ => hHeld) 7 (v := ?efv7) rfl rfl (by kernel_rfl) (by kernel_rfl) (by kernel_rfl) (by decide) (by rfl) ?efy7 ?efr7
            case efy7 => (intro w; go_simp; (try with_reducible rfl))
            (try simp only [Act.put, List.setIfInBounds_toArray, List.set_cons_zero, List.set_cons_succ])
            refine E_take0 hQ (fun _ => hHeld) 8 (v := ?efv8) rfl rfl (by kernel_rfl) (by kernel_rfl) (by kernel_rfl) (by decide) (by rfl) ?efy8 ?efr8
            case efy8 => (intro w; go_simp; (try with_reducible rfl))
            (try simp only [Act.put, List.setIfInBounds_toArray, List.set_cons_zero, List.set_cons_succ])
            refine E_take0 hQ (fun _ => hHeld) 9 (v := ?efv9) rfl rfl (by kernel_rfl) (by kernel_rfl) (by kernel_rfl) (by decide) (by rfl) ?efy9 ?efr9
            case efy9 => (intro w; go_simp; (try with_reducible rfl))
            (try simp only [Act.put, List.setIfInBounds_toArray, List.set_cons_zero, List.set_cons_succ])
            refine E_take0 hQ (fun _ => hHeld) 10 (v := ?efv10) rfl rfl (by kernel_rfl) (by kernel_rfl) (by kernel_rfl) (by decide) (by rfl) ?efy10 ?efr10
            case efy10 => (intro w; go_simp; (try with_reducible rfl))
            (try simp only [Act.put, List.setIfInBounds_toArray, List.set_cons_zero, List.set_cons_succ])
            refine E_take0 hQ (fun _ => hHeld) 11 (v := ?efv11) rfl rfl (by kernel_rfl) (by kernel_rfl) (by kernel_rfl) (by decide) (by rfl) ?efy11 ?efr11
            case efy11 => (intro w; go_simp; (try with_reducible rfl))
            (try simp only [Act.put, List.setIfInBounds_toArray, List.set_cons_zero, List.set_cons_succ])
            refine E_take hQ hHeld 12 (v := ?efv12) rfl rfl (by kernel_rfl) (by kernel_rfl) (by kernel_rfl) (by kernel_rfl) (by kernel_rfl) (by rfl) ?efy12 ?efr12
            case efy12 => (intro w hSw; (try dsimp only at hSw); go_simp; (try with_reducible rfl))
            (try simp only [Act.put, List.setIfInBounds_toArray, List.set_cons_zero, List.set_cons_succ])
            refine E_one 13 (by kernel_rfl) rfl (by rfl) (fun K hK => ?_)
            go_simp
            refine (HAM.out W10 (HRDX.out.below (bthen ((Below.refl _ _).drew) (Nat.le_refl _) HB10.out))).mono ?_
            rintro e W13 ⟨rfl, rfl⟩
            (skip)
            refine hK.out _ _ (fun _ h => absurd rfl h) (fun _ => ?_)
            clear hK hHeld
            (try simp only [Act.put, List.setIfInBounds_toArray, List.set_cons_zero, List.set_cons_succ])
            refine E_take0 hQ (fun h => absurd h (by decide)) 14 (v := ?efv13) rfl rfl (by kernel_rfl) (by kernel_rfl) (by kernel_rfl) (by decide) (by rfl) ?efy13 ?efr13
            case efy13 => (intro w; go_simp; (try with_reducible rfl))
            (try simp only [Act.put, List.setIfInBounds_toArray, List.set_cons_zero, List.set_cons_succ])
            refine E_take0 hQ (fun h => absurd h (by decide)) 15 (v := ?efv14) rfl rfl (by kernel_rfl) (by kernel_rfl) (by kernel_rfl) (by decide) (by rfl) ?efy14 ?efr14
            case efy14 => (intro w; go_simp; (try with_reducible rfl))
            (try simp only [Act.put, List.setIfInBounds_toArray, List.set_cons_zero, List.set_cons_succ])
            refine E_done (by kernel_rfl) ?_ _
            refine hK'.out _ _ ?_
            have HBX := Lib.hid (HBI.out.drew.trans (HB10.out.mono (by show _ ≤ wi.heap.size; omega)))
            have HUX : Hid (OwnT W13 (w.heap.size + 1) ua uc l) := Lib.hid (ownsB (w := wi.drew) HU.out HB10.out)
            have y0X := cellB HB10.out (show wi.drew.cell? ⟨ag, ao + j, none⟩ = some (.string a) from y0)
            clear p0 p1 p2 y0
            go_wp2_with (at_builtin; go_must (refine wpList_push rfl _ _ 31 rfl (w.heap.size + 1) 9 i0 (.string ByteArray.empty) 1 16 Try.underlying31 hi hz0 hz1 hz2 rfl (by decide) _ _ _ rfl (OwnT.alloc HUX.out _) ⟨W13.heap.size, 0, none⟩ 1 1 [_] rfl rfl (cell_one_new _ _ _) (by simp [Value.oneCell']) (by unfold maxLen; omega) (by omega) (by have := HBX.out.size; simp; omega) ?_; intro v' w2 hown' hgrow hfr; obtain ⟨va', vc', rfl, kb1, kb2⟩ := texts_pushed HUX.out (by have := HBX.out.size; omega) hown' hgrow; have KB1 := Lib.hid kb1; have KB2 := Lib.hid kb2; clear hown' hgrow hfr kb1 kb2))
            go_roundg (s.after.length + 1 - (j + 1))
            case measure => omega
            case rel => exact ⟨j + 1, va', vc', _, by omega, by omega, by go_num, rfl, Lib.hid (by rw [HE.out, List.length_append]; rfl), Lib.hid (by rw [HE.out]; exact KB1.out), Lib.hid (HBX.out.trans KB2.out)⟩
        · have d2 : decide ((j : Int) < (s.after.length : Int)) = false := decide_eq_false (by omega)
          have hj1 : ¬ (j : Int) < (s.after.length : Int) := by omega
          have HE : Hid (refsF d.steps 0 (d.steps.take k) ++ (rowRf d.steps k s).take j = refsF d.steps 0 (d.steps.take (k + 1))) := Lib.hid (by rw [HSN.out, List.take_of_length_le (l := rowRf d.steps k s) (by unfold rowRf; simp; omega)])
          go_wp2_with fail
          go_roundg (d.steps.length + 1 - (k + 1))
          case measure => omega
          case rel => exact ⟨k + 1, ua, uc, n, by omega, by omega, by go_num, (by first | rfl | rw [hnl]), Lib.hid (by rw [← HE.out]; exact hnl), Lib.hid (by rw [← HE.out]; exact HU.out), HBI⟩
    · have d1 : decide ((k : Int) < (d.steps.length : Int)) = false := decide_eq_false (by omega)
      have hk1 : ¬ (k : Int) < (d.steps.length : Int) := by omega
      have hr := RdS.of_owns HO.out
      rw [List.take_of_length_le (by omega)] at hr
      have hn := HNL.out
      rw [List.take_of_length_le (by omega)] at hn
      rw [← hn] at hr
      have HR := Lib.hid hr
      clear hr
      go_wp2_with fail
      go_ret
      refine ⟨_, rfl, ?_, HB0.out.trans (HBR.out.mono (Nat.le_succ _))⟩
      rw [← hn]
      exact HR.out
end Go.Proofs.Ytbnggfhofdpdcaa
