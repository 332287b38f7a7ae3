/-
  parse.Of: the readers of a step, of all steps: contracts.
-/
import Derived.Test.YtgafjjgnbcjmpaaBq27
namespace Go.Proofs.Ytgafjjgnbcjmpaa
open Go Go.RowKit Go.Maps Go.WideShapes

theorem Try.info_stepY : (Try.prog.info? 45).map (fun i => (i.zero, i.size, i.bytes)) = some (some (.agg #[.string { data := #[] }, .string { data := #[] }, .string { data := #[] }, .slice none 0 0, .int .i64 0, .int .i64 0, .int .i64 0, .int .i64 0, .int .u8 0, .string { data := #[] }, .slice none 0 0, .slice none 0 0, .int .i64 0]), 13, 184) := by kernel_rfl
/-- The steps that are read so far. -/
def InvA (B N : Nat) (sds : List StepD) (i : Nat) (W : World) : Prop := ∃ (va : Option Addr) (vc : Nat) (rows : List (List Value)), W.heap[B]? = some (.cells #[.slice va i vc] 22 (0, 0)) ∧ rows.length = i ∧ W.ownsRow N 45 13 (.slice va i vc) i rows.flatten ∧ ∀ (j : Nat) (r : List Value) (s : StepD), rows[j]? = some r → sds[j]? = some s → StepQ W (inSpanBut N W.heap.size (.slice va i vc)) r (normS s)
theorem InvA.move {B N : Nat} {sds : List StepD} {i : Nat} {W W' : World} (h : InvA B N sds i W) (hs : W.heap.size ≤ W'.heap.size) (hk : ∀ j, j < W.heap.size → (j = B ∨ N ≤ j) → W'.heap[j]? = W.heap[j]?) : InvA B N sds i W' := by
  obtain ⟨va, vc, rows, h1, h2, h3, h4⟩ := h
  exact ⟨va, vc, rows, (hk _ (Array.getElem?_eq_some_iff.1 h1).1 (.inl rfl)).trans h1, h2, ownsRow_keepB h3 (fun g hg => hk g (World.ownsRow.lt h3 g hg).2 (.inr (World.ownsRow.lt h3 g hg).1)), fun j r s hr hs' => (h4 j r s hr hs').keep (fun g hg hl => hk g hl (.inr hg.1)) (fun g hg => ⟨hg.1, Nat.lt_of_lt_of_le hg.2.1 hs, hg.2.2⟩)⟩
theorem InvA.lower {B N N' : Nat} {sds : List StepD} {i : Nat} {W : World} (h : InvA B N sds i W) (hN : N' ≤ N) : InvA B N' sds i W := by
  obtain ⟨va, vc, rows, h1, h2, h3, h4⟩ := h
  exact ⟨va, vc, rows, h1, h2, ownsRow_mono h3 hN, fun j r s hr hs => (h4 j r s hr hs).keep (fun _ _ _ => rfl) (fun g hg => ⟨Nat.le_trans hN hg.1, hg.2⟩)⟩
theorem invA_keep {B N M : Nat} {sds : List StepD} (hB : B < M) (hN : M + 2 ≤ N) : ∀ i W W', InvA B N sds i W → Keep2 M W W' → InvA B N sds i W' :=
  fun i W W' h hk => h.move hk.low.size (fun j hj hh => hk.block j hj (by omega) (by omega))
theorem own_not_fault {W : World} {base f n : Nat} {v : Value} {xs : List Value} {c : Array Value} (h : W.ownsRow base 45 13 v n xs) (hf : W.heap[f]? = some (.cells c 29 (0, 0))) : v.ownBlock ≠ some f := by
  intro e
  obtain ⟨cur, hcur⟩ := owns_block' h e
  rw [hf] at hcur
  injection hcur with hcur
  injection hcur with _ t2 _
  revert t2
  decide
theorem StepQ.len {W : World} {P : Nat → Prop} {r : List Value} {s : StepD} (h : StepQ W P r s) : r.length = 13 := by
  obtain ⟨aa, ac, ka, kc, ba, bc, rfl, _⟩ := h
  rfl

set_option maxRecDepth 100000 in
set_option maxHeartbeats 4000000 in
theorem add_any (sds : List StepD) (i : Nat) (sd : StepD) (t : Tree) (cs : List Value) (B N : Nat) (w0 w : World) (hT : t = stepT sd) (h : NodeR w0 cs t) (hb : Below w0.heap.size w0 w) (hp : StepP sd) (hi : sds[i]? = some sd) (hinv : InvA B N sds i w) (hBN : B < N) (hN : N ≤ w.heap.size) (hlen : i ≤ 1024) :
    Calls Try.prog 24 #[.agg cs.toArray, .pointer (some ⟨B, 0, none⟩)] w fun e w' => e = .returned zeroF ∧ InvA B N sds (i + 1) w' ∧ TurnS (fun j => j = B ∨ N ≤ j) w w' := by
  obtain ⟨i0, hi0, hz0, hz1, hz2⟩ := info_parts Try.info_stepY
  obtain ⟨ka, kc, ba, bc, rfl⟩ := h.cells
  have HN := Lib.hid h
  have HW0 := Lib.hid hb
  have HINV := Lib.hid hinv
  have HI := Lib.hid hi
  have hw0 := hb.size
  have hltB : B < w.heap.size := by omega
  obtain ⟨hb0, g0, f0, hs0⟩ := enter5 w (.int .u8 (t.kind : Int)) (.string t.text) (.slice ka t.keys.length kc) (.slice ba t.kids.length bc) (.int .i64 t.line)
  have HB0 := Lib.hid hb0
  have HF0 := Lib.hid f0
  have HWZ := Lib.hid (hb.trans (hb0.mono hw0))
  have HSTEP := Lib.hid (fun W hW => step_any sd t _ w0 W hT h hW hp)
  clear h hb hinv hi hT hp
  go_enter Try.func24, Try.ntmps24
  go_upto_region 1 with fail
  generalize (w.alloc (.cells #[.int .u8 (t.kind : Int), .string t.text, .slice ka t.keys.length kc, .slice ba t.kids.length bc, .int .i64 t.line] 34)).alloc (.cells #[.int .i64 0, .int .i64 0] 29) = wz at *
  obtain ⟨q0, q1, q2, q3, q4⟩ := cells5n g0
  clear f0 g0 hb0
  go_wp2_with fail
  refine (HSTEP.out _ HWZ.out).mono ?_
  rintro e w3 ⟨r, rfl, hq, hb3⟩
  have HB3 := Lib.hid (bthen HB0.out (Nat.le_refl _) hb3)
  have hrl := hq.len
  obtain ⟨aa, ac, na, nc, oa, oc, rfl, hq2⟩ := hq
  have hal : (normS sd).after.length ≤ ac ∧ ac ≤ 9223372036854775807 := by
    obtain ⟨_, _, _, hve, h1, h2, _⟩ := hq2.1
    cases hve
    unfold maxLen at h2
    exact ⟨h1, h2⟩
  have HQ3 : Hid (StepQ w3 (inSpan wz.heap.size w3.heap.size) _ (normS sd)) := Lib.hid ⟨aa, ac, na, nc, oa, oc, rfl, hq2⟩
  have hsz3 := hb3.size
  have HF3 := Lib.hid ((hb3.block _ (by omega)).trans HF0.out)
  clear hq2 hb3 q0 q1 q2 q3 q4 HSTEP HWZ
  generalize hse : normS sd = s at *
  unfold zeroF
  go_upto_region 2 with fail
  obtain ⟨hb4, hsz4, hf4⟩ := allocs_facts [.cells #[.string s.name, .string s.action, .string s.undo, .slice aa s.after.length ac, .int .i64 s.most, .int .i64 s.first, .int .i64 s.factor, .int .i64 s.limit, .int .u8 (s.note.kind : Int), .string s.note.text, .slice na s.note.keys.length nc, .slice oa s.note.kids.length oc, .int .i64 s.note.line] 45, .cells #[.int .i64 0, .int .i64 0] 29] w3
  have gs := hf4 0 _ rfl
  have gf := hf4 1 _ rfl
  clear hf4
  simp only [List.foldl_cons, List.foldl_nil, List.length_cons, List.length_nil, Nat.reduceAdd, Nat.add_zero] at hb4 hsz4 gs gf
  generalize (w3.alloc (.cells #[.string s.name, .string s.action, .string s.undo, .slice aa s.after.length ac, .int .i64 s.most, .int .i64 s.first, .int .i64 s.factor, .int .i64 s.limit, .int .u8 (s.note.kind : Int), .string s.note.text, .slice na s.note.keys.length nc, .slice oa s.note.kids.length oc, .int .i64 s.note.line] 45)).alloc (.cells #[.int .i64 0, .int .i64 0] 29) = w4 at *
  have hbw4 := bthen HB3.out (Nat.le_refl _) hb4
  have HQ4 : Hid (StepQ w4 (inSpan wz.heap.size w3.heap.size) _ s) := Lib.hid (HQ3.out.keep (fun g hg hl => hb4.block g hl) (fun _ h => h))
  have HF4 := Lib.hid ((hb4.block _ (by omega)).trans HF3.out)
  have HBW4 := Lib.hid hbw4
  have HGF := Lib.hid gf
  obtain ⟨va, vc, rows, hBw, hrows, hownw, hallw⟩ := HINV.out
  have hB4 := (hbw4.block B hltB).trans hBw
  have HLTW := Lib.hid (fun g hg => World.ownsRow.lt hownw g hg)
  have hown4 := ownsRow_keepB hownw (fun g hg => hbw4.block g (HLTW.out g hg).2)
  have hall4 := fun j r s' hr hs => (hallw j r s' hr hs).keep (fun g _ hl => hbw4.block g hl) (fun g (h : inSpanBut N w.heap.size (.slice va i vc) g) => h)
  clear hBw hownw hallw
  have HB4 := Lib.hid hB4
  have HOW := Lib.hid hown4
  have HALL := Lib.hid hall4
  have hlt4 := fun g hg => World.ownsRow.lt hown4 g hg
  obtain ⟨b0, b1⟩ := cell1n hB4
  obtain ⟨s0, s1, s2, s3, s4, s5, s6, s7, s8, s9, s10, s11, s12⟩ := cells13q gs
  have hvc : i ≤ vc ∧ vc ≤ 9223372036854775807 := by
    obtain ⟨_, _, _, hve, h1, h2, _⟩ := RdS.of_owns hown4
    cases hve
    unfold maxLen at h2
    exact ⟨h1, h2⟩
  have hw4 := hbw4.size
  clear hb4 gs gf hB4 hall4 hbw4 hown4
  have HLT4 := Lib.hid hlt4
  clear hlt4
  have HNEW : Hid ((w4.alloc (.cells #[.string s.name, .string s.action, .string s.undo, .slice aa s.after.length ac, .int .i64 s.most, .int .i64 s.first, .int .i64 s.factor, .int .i64 s.limit, .int .u8 (s.note.kind : Int), .string s.note.text, .slice na s.note.keys.length nc, .slice oa s.note.kids.length oc, .int .i64 s.note.line] 45)).heap[w3.heap.size + 2]? = some (.cells #[.string s.name, .string s.action, .string s.undo, .slice aa s.after.length ac, .int .i64 s.most, .int .i64 s.first, .int .i64 s.factor, .int .i64 s.limit, .int .u8 (s.note.kind : Int), .string s.note.text, .slice na s.note.keys.length nc, .slice oa s.note.kids.length oc, .int .i64 s.note.line] 45 (0, 0))) := Lib.hid (by have := World.alloc_heap_new w4 (.cells #[.string s.name, .string s.action, .string s.undo, .slice aa s.after.length ac, .int .i64 s.most, .int .i64 s.first, .int .i64 s.factor, .int .i64 s.limit, .int .u8 (s.note.kind : Int), .string s.note.text, .slice na s.note.keys.length nc, .slice oa s.note.kids.length oc, .int .i64 s.note.line] 45); rwa [hsz4] at this)
  go_wp2_with (at_builtin; go_must (refine wpList_pushS rfl _ _ 22 rfl N 45 i0 (.agg #[.string { data := #[] }, .string { data := #[] }, .string { data := #[] }, .slice none 0 0, .int .i64 0, .int .i64 0, .int .i64 0, .int .i64 0, .int .u8 0, .string { data := #[] }, .slice none 0 0, .slice none 0 0, .int .i64 0]) 13 184 Try.underlying22 hi0 hz0 hz1 hz2 rfl (by decide) _ _ _ rfl (HOW.out.alloc _) _ 1 [.string s.name, .string s.action, .string s.undo, .slice aa s.after.length ac, .int .i64 s.most, .int .i64 s.first, .int .i64 s.factor, .int .i64 s.limit, .int .u8 (s.note.kind : Int), .string s.note.text, .slice na s.note.keys.length nc, .slice oa s.note.kids.length oc, .int .i64 s.note.line] rfl (rds_row 1 13 HNEW.out rfl (by decide)) (by simp [Value.oneCell']) (by unfold maxLen; omega) (by omega) (by rw [World.size_alloc]; omega) ?_; intro v' w5 hown' hgrow hfr; obtain ⟨va', vc', rfl⟩ := (RdS.of_owns hown').form; have hB5 := (hgrow.block B (by rw [World.size_alloc]; omega) (fun e => by have := (HLT4.out B e.symm).1; omega)).trans ((Below.heap_alloc w4 _ B (by omega)).trans HB4.out); have hf5 := (hgrow.block (w3.heap.size + 1) (by rw [World.size_alloc]; omega) (fun e => by have := (HLT4.out _ e.symm).1; have := own_not_fault HOW.out HGF.out; exact this e.symm)).trans ((Below.heap_alloc w4 _ (w3.heap.size + 1) (by omega)).trans HGF.out); obtain ⟨b2, b3⟩ := cell1n hB5; obtain ⟨y0, y1, y2, y3⟩ := cells2 hf5; have hr5 := (hgrow.block (w.heap.size + 1) (by rw [World.size_alloc]; omega) (fun e => own_not_fault HOW.out HF4.out e.symm)).trans ((Below.heap_alloc w4 _ (w.heap.size + 1) (by omega)).trans HF4.out); obtain ⟨x0, x1, x2, x3⟩ := cells2 hr5))
  clear b0 b1 b2 b3 s0 s1 s2 s3 s4 s5 s6 s7 s8 s9 s10 s11 s12 y0 y1 y2 y3 x0 x1 x2 x3
  have hal4 : Below w4.heap.size w4 (w4.alloc (.cells #[.string s.name, .string s.action, .string s.undo, .slice aa s.after.length ac, .int .i64 s.most, .int .i64 s.first, .int .i64 s.factor, .int .i64 s.limit, .int .u8 (s.note.kind : Int), .string s.note.text, .slice na s.note.keys.length nc, .slice oa s.note.kids.length oc, .int .i64 s.note.line] 45)) := (Below.refl _ _).alloc (Nat.le_refl _) _
  have hown5 : w5.ownsRow N 45 13 (.slice va' (i + 1) vc') (i + 1) (rows ++ ([[.string s.name, .string s.action, .string s.undo, .slice aa s.after.length ac, .int .i64 s.most, .int .i64 s.first, .int .i64 s.factor, .int .i64 s.limit, .int .u8 (s.note.kind : Int), .string s.note.text, .slice na s.note.keys.length nc, .slice oa s.note.kids.length oc, .int .i64 s.note.line]] : List (List Value))).flatten := by rw [flatten_snoc]; exact hown'
  have hneBR : B ≠ w.heap.size + 1 := by omega
  have hs6 := set1n (x := .slice va' (i + 1) vc') hB5
  have ho6 : ∀ j, j ≠ B → (w5.setCell ⟨B, 0, none⟩ (.slice va' (i + 1) vc')).heap[j]? = w5.heap[j]? := fun j hj => Below.heap_setCell _ _ _ _ hj
  have hsz6 : (w5.setCell ⟨B, 0, none⟩ (.slice va' (i + 1) vc')).heap.size = w5.heap.size := by simp
  have hr6 := (ho6 _ hneBR.symm).trans hr5
  have ht6 : TurnS (fun j => j = B ∨ N ≤ j) w (w5.setCell ⟨B, 0, none⟩ (.slice va' (i + 1) vc')) := TurnS.setCell (S := fun j => j = B ∨ N ≤ j) (((TurnS.of_below HBW4.out).alloc (.cells #[.string s.name, .string s.action, .string s.undo, .slice aa s.after.length ac, .int .i64 s.most, .int .i64 s.first, .int .i64 s.factor, .int .i64 s.limit, .int .u8 (s.note.kind : Int), .string s.note.text, .slice na s.note.keys.length nc, .slice oa s.note.kids.length oc, .int .i64 s.note.line] 45)).trans ⟨⟨hgrow.os, hgrow.tape, hgrow.output, hgrow.size, fun k hk => absurd hk (Nat.not_lt_zero k)⟩, fun j h1 h2 => hgrow.block j h1 (fun e => h2 (.inr (HLT4.out j e.symm).1))⟩) (p := ⟨B, 0, none⟩) (fun _ => .inl rfl) _
  have hgs := hgrow.size
  rw [World.size_alloc] at hgs
  generalize w5.setCell ⟨B, 0, none⟩ (.slice va' (i + 1) vc') = w6 at *
  have hset := two_set (x := .int .i64 0) (y := .int .i64 0) hr6
  have ho7 : ∀ j, j ≠ w.heap.size + 1 → ((w6.setCell ⟨w.heap.size + 1, 0, none⟩ (.int .i64 0)).setCell ⟨w.heap.size + 1, 1, none⟩ (.int .i64 0)).heap[j]? = w6.heap[j]? := fun j hj => by rw [Below.heap_setCell _ _ _ _ hj, Below.heap_setCell _ _ _ _ hj]
  have ht7 : TurnS (fun j => j = B ∨ N ≤ j) w ((w6.setCell ⟨w.heap.size + 1, 0, none⟩ (.int .i64 0)).setCell ⟨w.heap.size + 1, 1, none⟩ (.int .i64 0)) := (ht6.setCell (p := ⟨w.heap.size + 1, 0, none⟩) (fun h => absurd h (by simp)) _).setCell (p := ⟨w.heap.size + 1, 1, none⟩) (fun h => absurd h (by simp)) _
  have hsz7 : ((w6.setCell ⟨w.heap.size + 1, 0, none⟩ (.int .i64 0)).setCell ⟨w.heap.size + 1, 1, none⟩ (.int .i64 0)).heap.size = w6.heap.size := by simp
  generalize (w6.setCell ⟨w.heap.size + 1, 0, none⟩ (.int .i64 0)).setCell ⟨w.heap.size + 1, 1, none⟩ (.int .i64 0) = w7 at *
  obtain ⟨z0, z1, -, -⟩ := cells2 hset
  have hownR : ∀ g, (Value.slice va' (i + 1) vc').ownBlock = some g → g ≠ w.heap.size + 1 := by
    rintro g hg rfl
    exact own_not_fault hown5 hr5 hg
  have hnewg : ∀ g, (Value.slice va' (i + 1) vc').ownBlock = some g → (Value.slice va i vc).ownBlock = some g ∨ w4.heap.size ≤ g := fun g hg => by
    rcases hfr g hg with h | h
    · exact .inl h
    · rw [World.size_alloc] at h
      exact .inr (by omega)
  refine bodyPost_ret (v := zeroF) (by unfold zeroF; simp [results, Try.results24, go_sem, z0, z1]) rfl ⟨rfl, ⟨va', vc', rows ++ ([[.string s.name, .string s.action, .string s.undo, .slice aa s.after.length ac, .int .i64 s.most, .int .i64 s.first, .int .i64 s.factor, .int .i64 s.limit, .int .u8 (s.note.kind : Int), .string s.note.text, .slice na s.note.keys.length nc, .slice oa s.note.kids.length oc, .int .i64 s.note.line]] : List (List Value)), (ho7 _ hneBR).trans hs6, by rw [List.length_append, hrows]; rfl, ownsRow_keepB hown5 (fun g hg => (ho7 g (hownR g hg)).trans (ho6 g (by have := (World.ownsRow.lt hown5 g hg).1; omega))), fun j r s' hr hs' => ?_⟩, ht7⟩
  have hkeep : ∀ g, N ≤ g → g < w4.heap.size → (Value.slice va i vc).ownBlock ≠ some g → g ≠ w.heap.size + 1 → w7.heap[g]? = w4.heap[g]? := fun g h1 h2 h3 h4 =>
    (ho7 g h4).trans ((ho6 g (by omega)).trans ((hgrow.block g (by rw [World.size_alloc]; omega) (fun e => h3 e.symm)).trans (hal4.block g h2)))
  rcases Nat.lt_trichotomy j i with hji | rfl | hji
  · rw [List.getElem?_append_left (by omega)] at hr
    refine (HALL.out j r s' hr hs').keep (fun g hg hl => hkeep g hg.1 (by have := hg.2.1; omega) hg.2.2 (by have := hg.2.1; omega)) (fun g hg => ⟨hg.1, by have := hg.2.1; omega, fun e => ?_⟩)
    rcases hnewg g e with h | h
    · exact hg.2.2 h
    · have := hg.2.1
      omega
  · rw [List.getElem?_append_right (by omega), hrows, Nat.sub_self] at hr
    cases hr
    rw [HI.out] at hs'
    cases hs'
    rw [hse]
    refine HQ4.out.keep (fun g hg hl => hkeep g (by have := hg.1; omega) (by have := hg.2; omega) (fun e => by have := (HLTW.out g e).2; have := hg.1; omega) (by have := hg.1; omega)) (fun g hg => ⟨by have := hg.1; omega, by have := hg.2; omega, fun e => ?_⟩)
    rcases hnewg g e with h | h
    · have := (HLTW.out g h).2
      have := hg.1
      omega
    · have := hg.2
      omega
  · rw [List.getElem?_eq_none (by simp; omega)] at hr
    cases hr
theorem invA_reads {B N N0 : Nat} {sds : List StepD} {t : Tree} {w0 : World} (hT : t = seqT (sds.map stepT)) (hp : ∀ s ∈ sds, StepP s) (hlen : sds.length ≤ 1024) (hB : B < N) (hw0 : N0 = w0.heap.size) : ReadsK (fun j => j = B ∨ N ≤ j) N0 N w0 t (.add B) (InvA B N sds) := by
  subst hw0
  intro i kid hkid V cs hinv hN hbw hn
  rw [hT] at hkid
  change (sds.map stepT)[i]? = some kid at hkid
  rw [List.getElem?_map] at hkid
  cases hsd : sds[i]? with
  | none => rw [hsd] at hkid; cases hkid
  | some sd =>
    rw [hsd] at hkid
    cases hkid
    obtain ⟨hil, hie⟩ := List.getElem?_eq_some_iff.1 hsd
    exact add_any sds i sd _ cs B N w0 V rfl hn hbw (hp sd (List.mem_of_getElem? hsd)) hsd hinv hB hN (by omega)

set_option maxRecDepth 100000 in
set_option maxHeartbeats 4000000 in
theorem all1_any (sds : List StepD) (t : Tree) (cs : List Value) (B fb : Nat) (old : Value) (w0 w : World) (hT : t = seqT (sds.map stepT)) (h : NodeR w0 cs t) (hb : Below w0.heap.size w0 w) (hBl : w0.heap.size ≤ B) (hsp : ∀ s ∈ sds, StepP s) (hlen : sds.length ≤ 1024)
    (hp : w.heap[fb]? = some (.cells #[rkV (.add B)] 63 (0, 0))) (hB : w.heap[B]? = some (.cells #[old] 22 (0, 0))) :
    Calls Try.prog 26 #[.agg cs.toArray, .pointer (some ⟨B, 0, none⟩), .pointer (some ⟨fb, 0, none⟩)] w fun e w' => e = .returned zeroF ∧ InvA B w.heap.size sds sds.length w' ∧ TurnS (fun j => j = B) w w' := by
  obtain ⟨ka, kc, ba, bc, rfl⟩ := h.cells
  have hk : t.kind = 2 := by rw [hT]; rfl
  have hkl : t.kids.length = sds.length := by rw [hT]; exact List.length_map _
  have hk1 : (t.kind : Int) = 2 := by omega
  rw [hk1] at h ⊢
  have HN := Lib.hid h
  have HK := Lib.hid hk
  have HT := Lib.hid hT
  have HLEN := Lib.hid hlen
  have HSP := Lib.hid hsp
  have HKL := Lib.hid hkl
  have hltp := (Array.getElem?_eq_some_iff.1 hp).1
  have hltB := (Array.getElem?_eq_some_iff.1 hB).1
  have hpB : fb ≠ B := by
    rintro rfl
    rw [hB] at hp
    injection hp with hp
    injection hp with _ t2 _
    revert t2
    decide
  have HMK := Lib.hid (fun W => mkRow_any 1024 (.add B) W)
  clear h hk hk1 hsp hT hkl
  obtain ⟨hb0, g0, f0, hs0⟩ := enter5 w (.int .u8 2) (.string t.text) (.slice ka t.keys.length kc) (.slice ba t.kids.length bc) (.int .i64 t.line)
  have hpz := (hb0.block _ hltp).trans hp
  have hBz := (hb0.block _ hltB).trans hB
  have HB0 := Lib.hid hb0
  have HWZ := Lib.hid (hb.trans (hb0.mono hb.size))
  have hw0 := hb.size
  clear hb0 hp hB hb
  go_enter Try.func26, Try.ntmps26
  go_upto_region 1 with fail
  generalize (w.alloc (.cells #[.int .u8 2, .string t.text, .slice ka t.keys.length kc, .slice ba t.kids.length bc, .int .i64 t.line] 34)).alloc (.cells #[.int .i64 0, .int .i64 0] 29) = wz at *
  obtain ⟨b0, b1⟩ := cell1n hBz
  go_upto_region 2 with fail
  have hnB : w.heap.size ≠ B := by omega
  have hrB : w.heap.size + 1 ≠ B := by omega
  have g2 := (Below.heap_setCell wz ⟨B, 0, none⟩ (.slice none 0 0) (w.heap.size) hnB).trans g0
  have HR2 := Lib.hid ((Below.heap_setCell wz ⟨B, 0, none⟩ (.slice none 0 0) (w.heap.size + 1) hrB).trans f0)
  have hp2 := (Below.heap_setCell wz ⟨B, 0, none⟩ (.slice none 0 0) fb hpB).trans hpz
  have HB2 := Lib.hid (set1n (x := .slice none 0 0) hBz)
  have HT2 : Hid (TurnS (fun j => j = B) w (wz.setCell ⟨B, 0, none⟩ (.slice none 0 0))) := Lib.hid (TurnS.setCell (S := fun j => j = B) (TurnS.of_below HB0.out) (p := ⟨B, 0, none⟩) (fun _ => rfl) _)
  have HW2 : Hid (Below w0.heap.size w0 (wz.setCell ⟨B, 0, none⟩ (.slice none 0 0))) := Lib.hid (HWZ.out.setCell (p := ⟨B, 0, none⟩) hBl _)
  have hs2 : (wz.setCell ⟨B, 0, none⟩ (.slice none 0 0)).heap.size = w.heap.size + 2 := by simp [hs0]
  have hkl := HKL.out
  clear b0 b1 g0 f0 hpz hBz HWZ
  generalize wz.setCell ⟨B, 0, none⟩ (.slice none 0 0) = w2 at *
  obtain ⟨q0, q1, q2, q3, q4⟩ := cells5n g2
  obtain ⟨m0, -⟩ := cell1n hp2
  clear g2 hp2 hkl
  refine E_region (S := (fun W => W.cell? ⟨w.heap.size, 0, none⟩ = some (.int .u8 2) ∧ W.cell? ⟨w.heap.size, 1, none⟩ = some (.string t.text) ∧ W.cell? ⟨w.heap.size, 2, none⟩ = some (.slice ka t.keys.length kc) ∧ W.cell? ⟨w.heap.size, 3, none⟩ = some (.slice ba t.kids.length bc) ∧ W.cell? ⟨w.heap.size, 4, none⟩ = some (.int .i64 t.line) ∧ W.cell? ⟨fb, 0, none⟩ = some (rkV (.add B)))) 3 (by kernel_rfl) ⟨q0, q1, q2, q3, q4, m0⟩ (fun _ _ _ _ _ h => h) (fun Q' hQ hK' hHeld => ?_)
  refine E_take hQ hHeld 0 (v := ?nv1) rfl rfl (by kernel_rfl) (by kernel_rfl) (by kernel_rfl) (by kernel_rfl) (by kernel_rfl) (by rfl) ?ny1 ?nr1
  case ny1 => (intro w hSw; (try dsimp only at hSw); go_simp; (try with_reducible rfl))
  (try simp only [Act.put, List.setIfInBounds_toArray, List.set_cons_zero, List.set_cons_succ])
  refine E_take hQ hHeld 2 (v := ?nv2) rfl rfl (by kernel_rfl) (by kernel_rfl) (by kernel_rfl) (by kernel_rfl) (by kernel_rfl) (by rfl) ?ny2 ?nr2
  case ny2 => (intro w hSw; (try dsimp only at hSw); go_simp; (try with_reducible rfl))
  (try simp only [Act.put, List.setIfInBounds_toArray, List.set_cons_zero, List.set_cons_succ])
  refine E_one 1 (by kernel_rfl) rfl (by rfl) (fun K hK => ?_)
  go_simp
  refine (HMK.out _).mono ?_
  rintro e V1 ⟨c, q, rfl, hc1, hc2, hc3, hc4, hb⟩
  have hc2' : w2.heap.size ≤ q := hc2
  have hqV := (Array.getElem?_eq_some_iff.1 hc4).1
  have HY1 := Lib.hid hb
  have hz1 : Below w2.heap.size w2 V1 := ((Below.refl _ w2).drew).trans hb
  have HZ1 := Lib.hid hz1
  have hsz1 := hz1.size
  clear hb hz1
  unfold rowV
  (skip)
  refine hK.out _ _ (fun _ _ => ⟨cellB HY1.out hHeld.1, cellB HY1.out hHeld.2.1, cellB HY1.out hHeld.2.2.1, cellB HY1.out hHeld.2.2.2.1, cellB HY1.out hHeld.2.2.2.2.1, cellB HY1.out hHeld.2.2.2.2.2⟩) (fun hHeld' => ?_)
  replace hHeld := hHeld' (by rfl) (by decide)
  clear hK hHeld'
  (try simp only [Act.put, List.setIfInBounds_toArray, List.set_cons_zero, List.set_cons_succ])
  refine E_one 3 (by kernel_rfl) rfl (by rfl) (fun K hK => ?_)
  have hB1 := (HZ1.out.block _ (by omega)).trans HB2.out
  have HCALL := row1_any (fun j => j = B ∨ V1.heap.size + 2 ≤ j) t [.int .u8 2, .string t.text, .slice ka t.keys.length kc, .slice ba t.kids.length bc, .int .i64 t.line] c q 1024 (.add B) (InvA B (V1.heap.size + 2) sds) w0 V1 HN.out (HW2.out.trans (HZ1.out.mono (by omega))) HK.out (by rw [HKL.out]; have := HLEN.out; omega) (by rw [HKL.out]; have := HLEN.out; omega) (by rintro j (rfl | hj) <;> omega) (by rintro (h | h) <;> omega) (by rintro (h | h) <;> omega) hc3 hc4 (by rintro (h | h) <;> omega)
    (invA_keep (by omega) (by omega)) (invA_reads HT.out HSP.out HLEN.out (by omega) rfl) ⟨none, 0, [], hB1, rfl, World.ownsRow_nil _ _ _ _, fun j r s h => by cases h⟩
  go_simp
  refine HCALL.mono ?_
  rintro e V3 ⟨rfl, hinv, ht3⟩
  have HI3 := Lib.hid hinv
  have HT3 := Lib.hid ht3
  have hr3 := (HT3.out.block (w.heap.size + 1) (by omega) (by rintro (h | h) <;> omega)).trans ((HZ1.out.block _ (by omega)).trans HR2.out)
  obtain ⟨x0, x1, x2, x3⟩ := cells2 hr3
  have HR3 := Lib.hid hr3
  unfold zeroF
  clear hinv ht3 hr3 hB1 HCALL
  (skip)
  refine hK.out _ _ (fun _ h => absurd rfl h) (fun _ => ?_)
  clear hK hHeld
  (try simp only [Act.put, List.setIfInBounds_toArray, List.set_cons_zero, List.set_cons_succ])
  refine E_one 4 (by kernel_rfl) rfl (by rfl) (fun K hK => ?_)
  go_simp
  (try simp only [Act.put, List.setIfInBounds_toArray, List.set_cons_zero, List.set_cons_succ])
  refine hK.out _ _ (fun h => absurd h (by decide)) (fun _ => ?_)
  clear hK
  (try simp only [Act.put, List.setIfInBounds_toArray, List.set_cons_zero, List.set_cons_succ])
  refine E_done (by kernel_rfl) ?_ _
  refine hK'.out _ _ ?_
  clear q0 q1 q2 q3 q4 m0 hK' hQ
  have hi3 := HI3.out
  rw [HKL.out] at hi3
  have hset := two_set (x := .int .i64 0) (y := .int .i64 0) HR3.out
  have hot : ∀ j, j ≠ w.heap.size + 1 → ((V3.setCell ⟨w.heap.size + 1, 0, none⟩ (.int .i64 0)).setCell ⟨w.heap.size + 1, 1, none⟩ (.int .i64 0)).heap[j]? = V3.heap[j]? := fun j hj => by rw [Below.heap_setCell _ _ _ _ hj, Below.heap_setCell _ _ _ _ hj]
  have hi8 : InvA B (V1.heap.size + 2) sds sds.length ((V3.setCell ⟨w.heap.size + 1, 0, none⟩ (.int .i64 0)).setCell ⟨w.heap.size + 1, 1, none⟩ (.int .i64 0)) := hi3.move (by simp) (fun j hj hh => hot j (by omega))
  have ht3 : TurnS (fun j => j = B) w V3 := (HT2.out.trans (TurnS.of_below HZ1.out)).new HT3.out (by rintro j (rfl | hj) hlt <;> omega)
  have ht8 : TurnS (fun j => j = B) w ((V3.setCell ⟨w.heap.size + 1, 0, none⟩ (.int .i64 0)).setCell ⟨w.heap.size + 1, 1, none⟩ (.int .i64 0)) := (ht3.setCell (p := ⟨w.heap.size + 1, 0, none⟩) (fun h => absurd h (by simp)) _).setCell (p := ⟨w.heap.size + 1, 1, none⟩) (fun h => absurd h (by simp)) _
  clear x0 x1 x2 x3
  go_wp2_with fail
  generalize (V3.setCell ⟨w.heap.size + 1, 0, none⟩ (.int .i64 0)).setCell ⟨w.heap.size + 1, 1, none⟩ (.int .i64 0) = w9 at *
  obtain ⟨z0, z1, -, -⟩ := cells2 hset
  refine bodyPost_ret (v := zeroF) (by unfold zeroF; simp [results, Try.results26, go_sem, z0, z1]) rfl ⟨rfl, hi8.lower (by omega), ht8⟩
end Go.Proofs.Ytgafjjgnbcjmpaa

/-
  parse.Of: the plain part; what the readers keep, what each does.
-/
namespace Go.Proofs.Ytgafjjgnbcjmpaa
open Go Go.RowKit Go.Maps Go.WideShapes

/-- What a definition must be to be read. -/
structure DefP (d : DefD) : Prop where
  name : c64 d.name = 0
  text : checkN (bsN d.text) 4096 = 0
  slen : d.steps.length ≤ 1024
  each : ∀ s ∈ d.steps, StepP s
theorem defP_of {d : DefD} (h : (defC d).1 = 0) (hs : SmallD d) : DefP d := by
  unfold defC at h
  split at h
  · rename_i h1; exact absurd h h1
  · split at h
    · rename_i h1; exact absurd h h1
    · split at h
      · cases h
      · exact ⟨by omega, by omega, by omega, fun s hs' => stepP_of (stepsC_zero (stepsC_fst h) s hs') (hs.each s hs')⟩
def zeroDef : DefD := ⟨{ data := #[] }, { data := #[] }, []⟩
/-- A definition as it is read. -/
def normD (d : DefD) : DefD := { d with steps := d.steps.map normS }
def updD (d σ : DefD) (key : ByteArray) : DefD :=
  if key = sSaga then { σ with name := d.name }
  else if key = sText then { σ with text := d.text }
  else { σ with steps := d.steps.map normS }
theorem updD_0 (d σ : DefD) : updD d σ sSaga = { σ with name := d.name } := by unfold updD; rw [if_pos rfl]
theorem updD_1 (d σ : DefD) : updD d σ sText = { σ with text := d.text } := by unfold updD; rw [if_neg (by decide), if_pos rfl]
theorem updD_2 (d σ : DefD) : updD d σ sSteps = { σ with steps := d.steps.map normS } := by unfold updD; rw [if_neg (by decide), if_neg (by decide)]
/-- What has been read behind the first i keys. -/
def stD (d : DefD) (i : Nat) : DefD := ((defKs d).take i).foldl (updD d) zeroDef
theorem stD_zero (d : DefD) : stD d 0 = zeroDef := rfl
theorem stD_succ (d : DefD) {i : Nat} {key : ByteArray} (h : (defKs d)[i]? = some key) : stD d (i + 1) = updD d (stD d i) key := by
  obtain ⟨hi, rfl⟩ := List.getElem?_eq_some_iff.1 h
  unfold stD
  rw [List.take_succ_eq_append_getElem hi, List.foldl_append]
  rfl
theorem stD_all (d : DefD) : stD d (defKs d).length = normD d := by
  unfold stD
  rw [List.take_length]
  unfold defKs
  rw [List.foldl_append]
  simp only [foldl_consIf, List.foldl_cons, List.foldl_nil, updD_0, updD_1, updD_2]
  have ht : hasText d = false → d.text = { data := #[] } := fun h => bytes_empty h
  unfold normD
  generalize hasText d = b1 at *
  obtain ⟨x0, x1, x2⟩ := d
  dsimp only at ht ⊢
  unfold zeroDef
  cases b1 <;> simp_all
theorem def_pairs (d : DefD) {i : Nat} {key : ByteArray} {kid : Tree} (h1 : (defKs d)[i]? = some key) (h2 : (defCs d)[i]? = some kid) :
    (key = sSaga ∧ kid = scalarT d.name) ∨ (key = sText ∧ kid = scalarT d.text) ∨ (key = sSteps ∧ kid = seqT (d.steps.map stepT)) := by
  unfold defKs at h1
  unfold defCs at h2
  have hl : (consIf (hasText d) [sSaga] sText).length = (consIf (hasText d) [scalarT d.name] (scalarT d.text)).length := consIf_lens _ _ _ rfl
  by_cases hi : i < (consIf (hasText d) [sSaga] sText).length
  · rw [List.getElem?_append_left hi] at h1
    rw [List.getElem?_append_left (by omega)] at h2
    rcases consIf_get (l := [sSaga]) (m := [scalarT d.name]) rfl h1 h2 with ⟨h1, h2⟩ | ⟨_, ha, hc⟩
    · rcases i with _ | i
      · cases h1; cases h2; exact .inl ⟨rfl, rfl⟩
      · cases h1
    · exact .inr (.inl ⟨ha, hc⟩)
  · rw [List.getElem?_append_right (by omega)] at h1
    rw [List.getElem?_append_right (by omega), ← hl] at h2
    generalize i - (consIf (hasText d) [sSaga] sText).length = j at h1 h2
    rcases j with _ | j
    · cases h1; cases h2; exact .inr (.inr ⟨rfl, rfl⟩)
    · cases h1
theorem def_must (d : DefD) : ∀ k ∈ [sSaga, sSteps], k ∈ (defT d).keys := by
  intro k hk
  show k ∈ defKs d
  unfold defKs
  rcases List.mem_cons.1 hk with rfl | hk
  · exact List.mem_append.2 (.inl (by cases hasText d <;> simp [consIf]))
  · exact List.mem_append.2 (.inr hk)
theorem defCs_len (d : DefD) : (defCs d).length ≤ 3 := by
  unfold defCs
  rw [List.length_append]
  have := consIf_len (hasText d) [scalarT d.name] (scalarT d.text)
  simp only [List.length_cons, List.length_nil] at *
  omega
/-- The boxes that a definition's readers write. -/
structure BoxD (n3 n4 n5 E : Nat) (σ : DefD) (W : World) : Prop where
  name : W.heap[n3]? = some (.cells #[.string σ.name] 9 (0, 0))
  text : W.heap[n4]? = some (.cells #[.string σ.text] 9 (0, 0))
  steps : ∃ (va : Option Addr) (vc : Nat) (rows : List (List Value)), W.heap[n5]? = some (.cells #[.slice va σ.steps.length vc] 22 (0, 0)) ∧ rows.length = σ.steps.length ∧ W.ownsRow E 45 13 (.slice va σ.steps.length vc) σ.steps.length rows.flatten ∧ ∀ (j : Nat) (r : List Value) (s : StepD), rows[j]? = some r → σ.steps[j]? = some s → StepQ W (inSpan E W.heap.size) r s
/-- The boxes that they have. -/
structure ClsD (n3 n4 n5 c1 q1 c3 q3 n6 : Nat) (W : World) : Prop where
  t1 : W.heap[c1]? = some (.cells #[.pointer (some ⟨n3, 0, none⟩)] 68 (0, 0))
  m1 : W.heap[q1]? = some (.cells #[.int .i64 64] 3 (0, 0))
  t3 : W.heap[c3]? = some (.cells #[.pointer (some ⟨n4, 0, none⟩)] 68 (0, 0))
  m3 : W.heap[q3]? = some (.cells #[.int .i64 4096] 3 (0, 0))
  f6 : W.heap[n6]? = some (.cells #[rkV (.add n5)] 63 (0, 0))
theorem ClsD.keep {n3 n4 n5 c1 q1 c3 q3 n6 : Nat} {W W' : World} (h : ClsD n3 n4 n5 c1 q1 c3 q3 n6 W) (hk : ∀ (j : Nat) (ob : Obj), (j = c1 ∨ j = q1 ∨ j = c3 ∨ j = q3 ∨ j = n6) → W.heap[j]? = some ob → W'.heap[j]? = some ob) : ClsD n3 n4 n5 c1 q1 c3 q3 n6 W' :=
  ⟨hk _ _ (by simp) h.t1, hk _ _ (by simp) h.m1, hk _ _ (by simp) h.t3, hk _ _ (by simp) h.m3, hk _ _ (by simp) h.f6⟩
def InvD (n3 n4 n5 c1 q1 c3 q3 n6 E : Nat) (d : DefD) (i : Nat) (W : World) : Prop := BoxD n3 n4 n5 E (stD d i) W ∧ ClsD n3 n4 n5 c1 q1 c3 q3 n6 W
theorem steps_keep {n5 E : Nat} {l : List StepD} {W W' : World} (h : ∃ (va : Option Addr) (vc : Nat) (rows : List (List Value)), W.heap[n5]? = some (.cells #[.slice va l.length vc] 22 (0, 0)) ∧ rows.length = l.length ∧ W.ownsRow E 45 13 (.slice va l.length vc) l.length rows.flatten ∧ ∀ (j : Nat) (r : List Value) (s : StepD), rows[j]? = some r → l[j]? = some s → StepQ W (inSpan E W.heap.size) r s)
    (hs : W.heap.size ≤ W'.heap.size) (hk : ∀ j, (j = n5 ∨ E ≤ j) → j < W.heap.size → W'.heap[j]? = W.heap[j]?) : ∃ (va : Option Addr) (vc : Nat) (rows : List (List Value)), W'.heap[n5]? = some (.cells #[.slice va l.length vc] 22 (0, 0)) ∧ rows.length = l.length ∧ W'.ownsRow E 45 13 (.slice va l.length vc) l.length rows.flatten ∧ ∀ (j : Nat) (r : List Value) (s : StepD), rows[j]? = some r → l[j]? = some s → StepQ W' (inSpan E W'.heap.size) r s := by
  obtain ⟨va, vc, rows, h1, h2, h3, h4⟩ := h
  exact ⟨va, vc, rows, (hk _ (.inl rfl) (Array.getElem?_eq_some_iff.1 h1).1).trans h1, h2, ownsRow_keepB h3 (fun g hg => hk g (.inr (World.ownsRow.lt h3 g hg).1) (World.ownsRow.lt h3 g hg).2), fun j r s hr hs' => (h4 j r s hr hs').keep (fun g hg hl => hk g (.inr hg.1) hl) (fun g hg => ⟨hg.1, Nat.lt_of_lt_of_le hg.2 hs⟩)⟩
theorem BoxD.keep {n3 n4 n5 E : Nat} {σ : DefD} {W W' : World} (h : BoxD n3 n4 n5 E σ W) (hs : W.heap.size ≤ W'.heap.size) (hk : ∀ j, (j = n3 ∨ j = n4 ∨ j = n5 ∨ E ≤ j) → j < W.heap.size → W'.heap[j]? = W.heap[j]?) : BoxD n3 n4 n5 E σ W' := by
  have hh : ∀ (j : Nat) (ob : Obj), (j = n3 ∨ j = n4 ∨ j = n5 ∨ E ≤ j) → W.heap[j]? = some ob → W'.heap[j]? = some ob := fun j ob hj ho => (hk j hj (Array.getElem?_eq_some_iff.1 ho).1).trans ho
  exact ⟨hh _ _ (by simp) h.name, hh _ _ (by simp) h.text, steps_keep h.steps hs (fun j hj hl => hk j (by rcases hj with hj | hj <;> simp [hj]) hl)⟩
theorem invD_keep {n3 n4 n5 c1 q1 c3 q3 n6 E N : Nat} {d : DefD} (hc : ∀ j, (j = n3 ∨ j = n4 ∨ j = n5 ∨ j = c1 ∨ j = q1 ∨ j = c3 ∨ j = q3 ∨ j = n6) → j < N) (hE : N + 2 ≤ E) : ∀ i W W', InvD n3 n4 n5 c1 q1 c3 q3 n6 E d i W → Keep2 N W W' → InvD n3 n4 n5 c1 q1 c3 q3 n6 E d i W' := by
  rintro i W W' ⟨h1, h2⟩ hk
  exact ⟨h1.keep hk.low.size (fun j hj hl => hk.block j hl (by have := hc j; omega) (by have := hc j; omega)), h2.keep (fun j ob hj ho => (hk.block j (Array.getElem?_eq_some_iff.1 ho).1 (by have := hc j (by omega); omega) (by have := hc j (by omega); omega)).trans ho)⟩
theorem readsD {n3 n4 n5 c1 q1 c3 q3 n6 E : Nat} {d : DefD} {w0 : World} {g : ByteArray → Option Value} {S : Nat → Prop} (hp : DefP d)
    (h0 : g sSaga = some (rdV (.text c1 q1))) (h1 : g sText = some (rdV (.text c3 q3))) (h2 : g sSteps = some (rdV (.all n5 n6)))
    (hd : n3 < n4 ∧ n4 < n5 ∧ n5 < n6 ∧ n6 < E) (hlo : w0.heap.size ≤ n3) (hC : ∀ j, (j = c1 ∨ j = q1 ∨ j = c3 ∨ j = q3) → n6 < j) (hS : ∀ j, (j = n3 ∨ j = n4 ∨ j = n5) → S j) : Reads S w0.heap.size E w0 (defT d) g (InvD n3 n4 n5 c1 q1 c3 q3 n6 E d) := by
  intro i kid key hkid hkey
  rcases def_pairs d hkey hkid with ⟨rfl, rfl⟩ | ⟨rfl, rfl⟩ | ⟨rfl, rfl⟩
  · refine ⟨_, h0, fun V cs hi hN hw hn => ?_⟩
    obtain ⟨hbx, hcl⟩ := hi
    refine (text1_any (scalarT d.name) cs c1 q1 n3 64 _ w0 V hn rfl hp.name hcl.t1 hcl.m1 hbx.name).mono ?_
    rintro e w' ⟨rfl, hnew, ht⟩
    have K : ∀ (j : Nat) (ob : Obj), V.heap[j]? = some ob → j ≠ n3 → w'.heap[j]? = some ob := fun j ob ho hj => (ht.block j (Array.getElem?_eq_some_iff.1 ho).1 hj).trans ho
    refine ⟨rfl, ⟨by rw [stD_succ d hkey, updD_0]; exact ⟨hnew, K _ _ hbx.text (by omega), steps_keep hbx.steps ht.size (fun j hj hl => ht.block j hl (by omega))⟩, hcl.keep (fun j ob hj ho => K j ob ho (by rcases hj with hj | hj | hj | hj | hj <;> first | omega | (have := hC j (by simp [hj]); omega)))⟩, ht.mono (fun j hj => hS j (by simp [hj]))⟩
  · refine ⟨_, h1, fun V cs hi hN hw hn => ?_⟩
    obtain ⟨hbx, hcl⟩ := hi
    refine (text1_any (scalarT d.text) cs c3 q3 n4 4096 _ w0 V hn rfl hp.text hcl.t3 hcl.m3 hbx.text).mono ?_
    rintro e w' ⟨rfl, hnew, ht⟩
    have K : ∀ (j : Nat) (ob : Obj), V.heap[j]? = some ob → j ≠ n4 → w'.heap[j]? = some ob := fun j ob ho hj => (ht.block j (Array.getElem?_eq_some_iff.1 ho).1 hj).trans ho
    refine ⟨rfl, ⟨by rw [stD_succ d hkey, updD_1]; exact ⟨K _ _ hbx.name (by omega), hnew, steps_keep hbx.steps ht.size (fun j hj hl => ht.block j hl (by omega))⟩, hcl.keep (fun j ob hj ho => K j ob ho (by rcases hj with hj | hj | hj | hj | hj <;> first | omega | (have := hC j (by simp [hj]); omega)))⟩, ht.mono (fun j hj => hS j (by simp [hj]))⟩
  · refine ⟨_, h2, fun V cs hi hN hw hn => ?_⟩
    obtain ⟨hbx, hcl⟩ := hi
    obtain ⟨va0, vc0, rows0, hb5, -⟩ := hbx.steps
    refine (all1_any d.steps (seqT (d.steps.map stepT)) cs n5 n6 _ w0 V rfl hn hw (by omega) hp.each hp.slen hcl.f6 hb5).mono ?_
    rintro e w' ⟨rfl, ⟨va, vc, rows, g1, g2, g3, g4⟩, ht⟩
    have K : ∀ (j : Nat) (ob : Obj), V.heap[j]? = some ob → j ≠ n5 → w'.heap[j]? = some ob := fun j ob ho hj => (ht.block j (Array.getElem?_eq_some_iff.1 ho).1 hj).trans ho
    have hnew : ∃ (va : Option Addr) (vc : Nat) (rows : List (List Value)), w'.heap[n5]? = some (.cells #[.slice va (d.steps.map normS).length vc] 22 (0, 0)) ∧ rows.length = (d.steps.map normS).length ∧ w'.ownsRow E 45 13 (.slice va (d.steps.map normS).length vc) (d.steps.map normS).length rows.flatten ∧ ∀ (j : Nat) (r : List Value) (s : StepD), rows[j]? = some r → (d.steps.map normS)[j]? = some s → StepQ w' (inSpan E w'.heap.size) r s := by
      rw [List.length_map]
      refine ⟨va, vc, rows, g1, g2, ownsRow_mono g3 hN, fun j r s hr hs => ?_⟩
      rw [List.getElem?_map] at hs
      cases hsd : d.steps[j]? with
      | none => rw [hsd] at hs; cases hs
      | some sd =>
        rw [hsd] at hs
        cases hs
        exact (g4 j r sd hr hsd).keep (fun _ _ _ => rfl) (fun g hg => ⟨Nat.le_trans hN hg.1, hg.2.1⟩)
    refine ⟨rfl, ⟨by rw [stD_succ d hkey, updD_2]; exact ⟨K _ _ hbx.name (by omega), K _ _ hbx.text (by omega), hnew⟩, hcl.keep (fun j ob hj ho => K j ob ho (by rcases hj with hj | hj | hj | hj | hj <;> first | omega | (have := hC j (by simp [hj]); omega)))⟩, ht.mono (fun j hj => hS j (by simp [hj]))⟩
end Go.Proofs.Ytgafjjgnbcjmpaa
