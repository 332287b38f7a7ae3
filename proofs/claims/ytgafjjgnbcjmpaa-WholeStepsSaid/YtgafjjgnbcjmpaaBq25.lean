/-
  parse: the reader of a name among texts: contract.
-/
import Derived.Test.YtgafjjgnbcjmpaaBq24
namespace Go.Proofs.Ytgafjjgnbcjmpaa
open Go Go.RowKit Go.Maps Go.WideShapes

theorem owns_block' {w : World} {base : Nat} {e : TypeId} {size n : Nat} {v : Value} {xs : List Value} (h : w.ownsRow base e size v n xs) {g : Nat} (hg : v.ownBlock = some g) : ∃ cur, w.heap[g]? = some (.cells cur e (0, 0)) := by
  rcases h.2 with ⟨h1, _⟩ | ⟨g', cap', cur, hv, _, hg', _⟩
  · subst h1
    cases hg
  · subst hv
    simp [Value.ownBlock] at hg
    subst hg
    exact ⟨cur, hg'⟩
set_option maxRecDepth 100000 in
set_option maxHeartbeats 4000000 in
theorem nm_any (t : Tree) (cs : List Value) (p B N : Nat) (l : List ByteArray) (va : Option Addr) (vc : Nat) (w0 w : World) (h : NodeR w0 cs t) (hk : t.kind = 1) (hc : checkN (bsN t.text) 64 = 0)
    (hp : w.heap[p]? = some (.cells #[.pointer (some ⟨B, 0, none⟩)] 86 (0, 0))) (hB : w.heap[B]? = some (.cells #[.slice va l.length vc] 31 (0, 0))) (hBN : B < N) (hN : N ≤ w.heap.size) (ho : w.ownsRow N 9 1 (.slice va l.length vc) l.length (strsV l)) (hl : l.length ≤ 1000) :
    Calls Try.prog 63 #[.agg cs.toArray, .pointer (some ⟨p, 0, none⟩)] w fun e w' => e = .returned zeroF ∧ (∃ va' vc', w'.heap[B]? = some (.cells #[.slice va' (l.length + 1) vc'] 31 (0, 0)) ∧ w'.ownsRow N 9 1 (.slice va' (l.length + 1) vc') (l.length + 1) (strsV (l ++ [t.text]))) ∧ TurnS (fun j => j = B ∨ N ≤ j) w w' := by
  obtain ⟨i0, hi, hz0, hz1, hz2⟩ := info_parts Try.info_str
  obtain ⟨ka, kc, ba, bc, rfl⟩ := h.cells
  have hk1 : (t.kind : Int) = 1 := by omega
  rw [hk1] at h ⊢
  have HN := Lib.hid h
  have HC := Lib.hid hc
  have HK := Lib.hid hk
  have hltp := (Array.getElem?_eq_some_iff.1 hp).1
  have hltB := (Array.getElem?_eq_some_iff.1 hB).1
  have HOW := Lib.hid ho
  have hown := fun g hg => World.ownsRow.lt ho g hg
  have HNB : Hid ((Value.slice va l.length vc).ownBlock ≠ some B) := Lib.hid (fun e => by have := (hown B e).1; omega)
  have HNP : Hid ((Value.slice va l.length vc).ownBlock ≠ some p) := Lib.hid (fun e => by
    obtain ⟨cur, hcur⟩ := owns_block' ho e
    rw [hp] at hcur
    injection hcur with hcur
    injection hcur with _ t2 _
    revert t2
    decide)
  have HNS : Hid ((Value.slice va l.length vc).ownBlock ≠ some (w.heap.size + 2)) := Lib.hid (fun e => by have := (hown _ e).2; omega)
  have HNR : Hid ((Value.slice va l.length vc).ownBlock ≠ some (w.heap.size + 1)) := Lib.hid (fun e => by have := (hown _ e).2; omega)
  clear h hk hk1 hc hown
  obtain ⟨hb0, g0, f0, hs0⟩ := enter5 w (.int .u8 1) (.string t.text) (.slice ka t.keys.length kc) (.slice ba t.kids.length bc) (.int .i64 t.line)
  have HB0 := Lib.hid hb0
  have HF0 := Lib.hid f0
  have HG0 := Lib.hid g0
  clear hb0 f0 g0
  go_enter Try.func63, Try.ntmps63
  go_upto_region 1 with fail
  generalize (w.alloc (.cells #[.int .u8 1, .string t.text, .slice ka t.keys.length kc, .slice ba t.kids.length bc, .int .i64 t.line] 34)).alloc (.cells #[.int .i64 0, .int .i64 0] 29) = wz at *
  go_upto_region 2 with fail
  have hal : Below wz.heap.size wz (wz.alloc (.cells #[.string { data := #[] }] 9)) := (Below.refl _ _).alloc (Nat.le_refl _) _
  have hs3 := World.alloc_heap_new wz (.cells #[.string { data := #[] }] 9)
  rw [hs0] at hs3
  have hsz : (wz.alloc (.cells #[.string { data := #[] }] 9)).heap.size = w.heap.size + 3 := by simp [hs0]
  have HB3 := Lib.hid (bthen HB0.out (Nat.le_refl _) hal)
  have HG3' := (hal.block _ (by omega)).trans HG0.out
  have HF3 := Lib.hid ((hal.block _ (by omega)).trans HF0.out)
  clear hal
  generalize wz.alloc (.cells #[.string { data := #[] }] 9) = w3 at *
  have HG3 : Hid (w3.drew.heap[w.heap.size]? = _) := Lib.hid HG3'
  have HS3 : Hid (w3.drew.heap[w.heap.size + 2]? = some (.cells #[.string { data := #[] }] 9 (0, 0))) := Lib.hid hs3
  have HSZ3 : Hid (w3.drew.heap.size = w.heap.size + 3) := Lib.hid hsz
  have HLT3 : Hid (w.heap.size < w3.drew.heap.size) := Lib.hid (by rw [HSZ3.out]; omega)
  have HLT5 : Hid (w.heap.size + 2 < w3.drew.heap.size) := Lib.hid (by rw [HSZ3.out]; omega)
  clear HG3' hs3 hsz
  refine E_inv (fun listed a W => ∃ (b0 b1 b2 b3 b4 : Bool) (x5 x6 x7 x8 : Value), listed = #[b0, b1, b2, b3, b4] ∧ a = { tmps := #[.agg #[.int .u8 1, .string t.text, .slice ka t.keys.length kc, .slice ba t.kids.length bc, .int .i64 t.line], .pointer (some ⟨p, 0, none⟩), .pointer (some ⟨w.heap.size, 0, none⟩), .pointer (some ⟨(w.heap.size + 1), 0, none⟩), .pointer (some ⟨(w.heap.size + 2), 0, none⟩), x5, x6, x7, x8, undef, undef, undef, undef, undef, undef, undef, undef, undef], defers := [] } ∧ (b2 = false → Below w3.drew.heap.size w3.drew W) ∧ (b0 = true → ∃ c q, x6 = rdV (.text c q) ∧ (b2 = false → w3.drew.heap.size ≤ c ∧ w3.drew.heap.size ≤ q ∧ W.heap[c]? = some (.cells #[.pointer (some ⟨(w.heap.size + 2), 0, none⟩)] 68 (0, 0)) ∧ W.heap[q]? = some (.cells #[.int .i64 64] 3 (0, 0)))) ∧ (b1 = true → x7 = .agg #[.int .u8 1, .string t.text, .slice ka t.keys.length kc, .slice ba t.kids.length bc, .int .i64 t.line]) ∧ (b2 = true → x8 = .agg #[.int .i64 0, .int .i64 0] ∧ W.heap[w.heap.size + 2]? = some (.cells #[.string t.text] 9 (0, 0)) ∧ TurnS (fun j => j = w.heap.size + 2) w3.drew W) ∧ (b3 = true → ∃ f, x5 = .pointer (some ⟨f, 0, none⟩) ∧ w3.drew.heap.size ≤ f ∧ W.heap[f]? = some (.cells #[.int .i64 0, .int .i64 0] 29 (0, 0)))) (by kernel_rfl) (by kernel_rfl) ?fstep ?fdone ?fstart
  case fstart => exact ⟨false, false, false, false, false, undef, undef, undef, undef, rfl, rfl, (fun _ => Below.refl _ _), (fun h => by cases h), (fun h => by cases h), (fun h => by cases h), (fun h => by cases h)⟩
  case fstep =>
    rintro Q0 listed a W hcl ⟨b0, b1, b2, b3, b4, x5, x6, x7, x8, rfl, rfl, FA, F0, F1, F2, F3⟩ i hi
    have hlt : i < 5 := ready_lt hi
    obtain rfl | rfl | rfl | rfl | rfl : i = 0 ∨ i = 1 ∨ i = 2 ∨ i = 3 ∨ i = 4 := by omega
    · have hu : b0 = false := ready_un hi
      subst hu
      have hn2 : b2 = false := by
        cases hh : b2 with
        | false => rfl
        | true => exact Bool.noConfusion (show false = true from (hcl 2 0 (by kernel_rfl) (show _ = true from hh)))
      have hn4 : b4 = false := by
        cases hh : b4 with
        | false => rfl
        | true => exact Bool.noConfusion (show false = true from (hcl 4 0 (by kernel_rfl) (show _ = true from hh)))
      subst hn2 hn4
      clear hi hlt hcl
      refine wpOp_lit rfl (by rfl) (fun K hK => ?_)
      go_simp
      refine (mkText_any (w.heap.size + 2) 64 W).mono ?_
      rintro e V ⟨c, q, rfl, hc1, hc2, hc3, hc4, hb⟩
      have hkc := KeepC.of_below hb
      have hFA := bthen (FA rfl) (Nat.le_refl _) hb
      have hsA := (FA rfl).size
      (skip)
      exact hK.out _ _ ⟨_, _, _, _, _, _, _, _, _, rfl, rfl, (fun _ => hFA), (fun _ => ⟨c, q, rfl, fun _ => ⟨Nat.le_trans hsA hc1, Nat.le_trans hsA hc2, hc3, hc4⟩⟩), F1, (fun h => by cases h), (fun h => by obtain ⟨f, e1, e2, e3⟩ := F3 h; exact ⟨f, e1, e2, hkc _ _ _ _ e3⟩)⟩
    · have hu : b1 = false := ready_un hi
      subst hu
      have hn2 : b2 = false := by
        cases hh : b2 with
        | false => rfl
        | true => exact Bool.noConfusion (show false = true from (hcl 2 1 (by kernel_rfl) (show _ = true from hh)))
      have hn4 : b4 = false := by
        cases hh : b4 with
        | false => rfl
        | true => exact Bool.noConfusion (show false = true from (hcl 4 1 (by kernel_rfl) (show _ = true from hh)))
      subst hn2 hn4
      clear hi hlt hcl
      refine wpOp_lit rfl (by rfl) (fun K hK => ?_)
      obtain ⟨q0, q1, q2, q3, q4⟩ := cells5n (t := 34) (((FA rfl).block _ HLT3.out).trans HG3.out)
      go_simp
      clear q0 q1 q2 q3 q4
      (try simp only [Act.put, List.setIfInBounds_toArray, List.set_cons_zero, List.set_cons_succ])
      exact hK.out _ _ ⟨_, _, _, _, _, _, _, _, _, rfl, rfl, FA, F0, (fun _ => rfl), (fun h => by cases h), F3⟩
    · have hu : b2 = false := ready_un hi
      have ht0 : b0 = true := (ready_dep hi 0 (by kernel_rfl))
      have ht1 : b1 = true := (ready_dep hi 1 (by kernel_rfl))
      subst hu
      have hn4 : b4 = false := by
        cases hh : b4 with
        | false => rfl
        | true => exact Bool.noConfusion (show false = true from (hcl 4 2 (by kernel_rfl) (show _ = true from hh)))
      subst ht0 ht1 hn4
      clear hi hlt hcl
      refine wpOp_lit rfl (by rfl) (fun K hK => ?_)
      obtain ⟨c, q, rfl, hcq⟩ := F0 rfl
      obtain ⟨hc1, hc2, hc3, hc4⟩ := hcq rfl
      obtain rfl := F1 rfl
      have hfa := FA rfl
      dsimp only [rdV]
      go_simp
      refine (text1_any t _ c q (w.heap.size + 2) 64 { data := #[] } w0 W HN.out HK.out HC.out hc3 hc4 ((hfa.block _ HLT5.out).trans HS3.out)).mono ?_
      rintro e V ⟨rfl, hs, ht⟩
      have hz3 := HSZ3.out
      have hsW := hfa.size
      have ht2 : TurnS (fun j => j = w.heap.size + 2) w3.drew V := (TurnS.of_below hfa).trans ht
      unfold zeroF
      have hF3 : b3 = true → ∃ f, x5 = .pointer (some ⟨f, 0, none⟩) ∧ w3.drew.heap.size ≤ f ∧ V.heap[f]? = some (.cells #[.int .i64 0, .int .i64 0] 29 (0, 0)) := fun h => by
        obtain ⟨f, e1, e2, e3⟩ := F3 h
        exact ⟨f, e1, e2, (ht.block _ (Array.getElem?_eq_some_iff.1 e3).1 (by have := HLT5.out; omega)).trans e3⟩
      (skip)
      exact hK.out _ _ ⟨_, _, _, _, _, _, _, _, _, rfl, rfl, (fun h => by cases h), (fun _ => ⟨c, q, rfl, fun h => by cases h⟩), (fun _ => rfl), (fun _ => ⟨rfl, hs, ht2⟩), hF3⟩
    · have hu : b3 = false := ready_un hi
      subst hu
      have hn4 : b4 = false := by
        cases hh : b4 with
        | false => rfl
        | true => exact Bool.noConfusion (show false = true from (hcl 4 3 (by kernel_rfl) (show _ = true from hh)))
      subst hn4
      clear hi hlt hcl
      refine wpOp_lit rfl (by rfl) (fun K hK => ?_)
      have hb : Below W.heap.size W (W.alloc (.cells #[.int .i64 0, .int .i64 0] 29)) := (Below.refl _ _).alloc (Nat.le_refl _) _
      have hkc := KeepC.of_below hb
      have hnew := World.alloc_heap_new W (.cells #[.int .i64 0, .int .i64 0] 29)
      have hle : w3.drew.heap.size ≤ W.heap.size := by
        cases b2 with
        | false => exact (FA rfl).size
        | true => exact (F2 rfl).2.2.size
      have hFA : b2 = false → Below w3.drew.heap.size w3.drew (W.alloc (.cells #[.int .i64 0, .int .i64 0] 29)) := fun h => bthen (FA h) (Nat.le_refl _) hb
      have hF2 : b2 = true → x8 = .agg #[.int .i64 0, .int .i64 0] ∧ (W.alloc (.cells #[.int .i64 0, .int .i64 0] 29)).heap[w.heap.size + 2]? = some (.cells #[.string t.text] 9 (0, 0)) ∧ TurnS (fun j => j = w.heap.size + 2) w3.drew (W.alloc (.cells #[.int .i64 0, .int .i64 0] 29)) := fun h => ⟨(F2 h).1, hkc _ _ _ _ (F2 h).2.1, (F2 h).2.2.alloc _⟩
      go_simp
      (try simp only [Act.put, List.setIfInBounds_toArray, List.set_cons_zero, List.set_cons_succ])
      exact hK.out _ _ ⟨_, _, _, _, _, _, _, _, _, rfl, rfl, hFA, (fun h => by obtain ⟨c, q, e1, e2⟩ := F0 h; exact ⟨c, q, e1, fun h2 => by obtain ⟨u1, u2, u3, u4⟩ := e2 h2; exact ⟨u1, u2, hkc _ _ _ _ u3, hkc _ _ _ _ u4⟩⟩), F1, hF2, (fun _ => ⟨_, rfl, hle, hnew⟩)⟩
    · have hu : b4 = false := ready_un hi
      have ht0 : b0 = true := (ready_dep hi 0 (by kernel_rfl))
      have ht1 : b1 = true := (ready_dep hi 1 (by kernel_rfl))
      have ht2 : b2 = true := (ready_dep hi 2 (by kernel_rfl))
      have ht3 : b3 = true := (ready_dep hi 3 (by kernel_rfl))
      subst hu
      subst ht0 ht1 ht2 ht3
      clear hi hlt hcl
      refine wpOp_lit rfl (by rfl) (fun K hK => ?_)
      obtain ⟨f, rfl, hf1, hf2⟩ := F3 rfl
      obtain ⟨rfl, hs, ht⟩ := F2 rfl
      obtain ⟨y0, y1, y2, y3⟩ := cells2 hf2
      have hz3 := HSZ3.out
      have hset := two_set (x := .int .i64 0) (y := .int .i64 0) hf2
      have hne : w.heap.size + 2 ≠ f := by have := HLT5.out; omega
      have hs2 : ((W.setCell ⟨f, 0, none⟩ (.int .i64 0)).setCell ⟨f, 1, none⟩ (.int .i64 0)).heap[w.heap.size + 2]? = some (.cells #[.string t.text] 9 (0, 0)) := by
        rw [Below.heap_setCell _ _ _ _ hne, Below.heap_setCell _ _ _ _ hne]; exact hs
      have ht2 : TurnS (fun j => j = w.heap.size + 2) w3.drew ((W.setCell ⟨f, 0, none⟩ (.int .i64 0)).setCell ⟨f, 1, none⟩ (.int .i64 0)) := (ht.setCell (p := ⟨f, 0, none⟩) (fun h => absurd h (by show ¬ f < _; omega)) _).setCell (p := ⟨f, 1, none⟩) (fun h => absurd h (by show ¬ f < _; omega)) _
      go_simp
      (try simp only [Act.put, List.setIfInBounds_toArray, List.set_cons_zero, List.set_cons_succ])
      exact hK.out _ _ ⟨_, _, _, _, _, _, _, _, _, rfl, rfl, (fun h => by cases h), (fun h => by obtain ⟨c, q, e1, e2⟩ := F0 h; exact ⟨c, q, e1, fun h => by cases h⟩), (fun _ => rfl), (fun _ => ⟨rfl, hs2, ht2⟩), (fun _ => ⟨_, rfl, hf1, hset⟩)⟩
  case fdone =>
    rintro listed a W - hall ⟨b0, b1, b2, b3, b4, x5, x6, x7, x8, rfl, rfl, FA, F0, F1, F2, F3⟩
    obtain rfl : b0 = true := hall 0 (by decide)
    obtain rfl : b1 = true := hall 1 (by decide)
    obtain rfl : b2 = true := hall 2 (by decide)
    obtain rfl : b3 = true := hall 3 (by decide)
    obtain rfl : b4 = true := hall 4 (by decide)
    clear hall
    obtain ⟨f, rfl, hf1, hf2⟩ := F3 rfl
    obtain ⟨rfl, hs5, ht5⟩ := F2 rfl
    obtain ⟨c, q, rfl, -⟩ := F0 rfl
    obtain rfl := F1 rfl
    clear FA F0 F1 F2 F3
    rename World => W5
    have hz3 := HSZ3.out
    have hsz5 := ht5.size
    have hB5 : W5.heap[B]? = some (.cells #[.slice va l.length vc] 31 (0, 0)) := (ht5.block B (by omega) (by omega)).trans ((HB3.out.block B hltB).trans hB)
    have hp5 : W5.heap[p]? = some (.cells #[.pointer (some ⟨B, 0, none⟩)] 86 (0, 0)) := (ht5.block p (by omega) (by omega)).trans ((HB3.out.block p hltp).trans hp)
    have ho5 : W5.ownsRow N 9 1 (.slice va l.length vc) l.length (strsV l) := ownsRow_keepB ho (fun g hg => by
      have := (World.ownsRow.lt ho g hg).2
      exact (ht5.block g (by omega) (by omega)).trans (HB3.out.block g this))
    have hr5 := (ht5.block (w.heap.size + 1) (by omega) (by omega)).trans HF3.out
    have HT5 : Hid (TurnS (fun j => j = B ∨ N ≤ j) w W5) := Lib.hid ((TurnS.of_below HB3.out.drew).new ht5 (fun j hj hlt => by omega))
    have HOW5 : Hid (W5.drew.ownsRow N 9 1 (.slice va l.length vc) l.length (strsV l)) := Lib.hid ho5
    have HB5 : Hid (W5.drew.heap[B]? = _) := Lib.hid hB5
    have HP5 : Hid (W5.drew.heap[p]? = _) := Lib.hid hp5
    have HSB5 : Hid (W5.drew.heap[w.heap.size + 2]? = _) := Lib.hid hs5
    have HR5 := Lib.hid hr5
    have HFB5 := Lib.hid hf2
    obtain ⟨p0, -⟩ := cell1n hp5
    obtain ⟨r0, -⟩ := cell1n hB5
    obtain ⟨s0, -⟩ := cell1n hs5
    have hltf := (Array.getElem?_eq_some_iff.1 hf2).1
    clear hB5 hp5 ho5 hr5 hs5 ht5 hf2 hp hB ho
    go_upto_region 3 with fail
    refine E_region (S := (fun W => W.cell? ⟨p, 0, none⟩ = some (.pointer (some ⟨B, 0, none⟩)) ∧ W.cell? ⟨B, 0, none⟩ = some (.slice va l.length vc) ∧ W.cell? ⟨w.heap.size + 2, 0, none⟩ = some (.string t.text))) 8 (by kernel_rfl) ⟨p0, r0, s0⟩ (fun _ _ _ _ _ h => h) (fun Q' hQ hK' hHeld => ?_)
    refine E_take hQ hHeld 0 (v := ?nv1) rfl rfl (by kernel_rfl) (by kernel_rfl) (by kernel_rfl) (by kernel_rfl) (by kernel_rfl) (by rfl) ?ny1 ?nr1
    case ny1 => (intro w hSw; (try dsimp only at hSw); go_simp; (try with_reducible rfl))
    (try simp only [Act.put, List.setIfInBounds_toArray, List.set_cons_zero, List.set_cons_succ])
    refine E_take hQ hHeld 1 (v := ?nv2) rfl rfl (by kernel_rfl) (by kernel_rfl) (by kernel_rfl) (by kernel_rfl) (by kernel_rfl) (by rfl) ?ny2 ?nr2
    case ny2 => (intro w hSw; (try dsimp only at hSw); go_simp; (try with_reducible rfl))
    (try simp only [Act.put, List.setIfInBounds_toArray, List.set_cons_zero, List.set_cons_succ])
    refine E_take0 hQ (fun _ => hHeld) 2 (v := ?nv3) rfl rfl (by kernel_rfl) (by kernel_rfl) (by kernel_rfl) (by decide) (by rfl) ?ny3 ?nr3
    case ny3 => (intro w; go_simp; (try with_reducible rfl))
    (try simp only [Act.put, List.setIfInBounds_toArray, List.set_cons_zero, List.set_cons_succ])
    refine E_take hQ hHeld 3 (v := ?nv4) rfl rfl (by kernel_rfl) (by kernel_rfl) (by kernel_rfl) (by kernel_rfl) (by kernel_rfl) (by rfl) ?ny4 ?nr4
    case ny4 => (intro w hSw; (try dsimp only at hSw); go_simp; (try with_reducible rfl))
    (try simp only [Act.put, List.setIfInBounds_toArray, List.set_cons_zero, List.set_cons_succ])
    refine E_take hQ hHeld 4 (v := ?nv5) rfl rfl (by kernel_rfl) (by kernel_rfl) (by kernel_rfl) (by kernel_rfl) (by kernel_rfl) (by rfl) ?ny5 ?nr5
    case ny5 => (intro w hSw; (try dsimp only at hSw); go_simp; (try with_reducible rfl))
    (try simp only [Act.put, List.setIfInBounds_toArray, List.set_cons_zero, List.set_cons_succ])
    refine E_one 5 (by kernel_rfl) rfl (by rfl) (fun K hK => ?_)
    go_simp
    have hal : Below W5.drew.heap.size W5.drew (W5.drew.alloc (.cells #[.string t.text] 9)) := (Below.refl _ _).alloc (Nat.le_refl _) _
    have HAL := Lib.hid hal
    clear hal
    (try simp only [Act.put, List.setIfInBounds_toArray, List.set_cons_zero, List.set_cons_succ])
    refine hK.out _ _ (fun _ _ => ⟨cellB HAL.out hHeld.1, cellB HAL.out hHeld.2.1, cellB HAL.out hHeld.2.2⟩) (fun hHeld' => ?_)
    replace hHeld := hHeld' (by rfl) (by decide)
    clear hK hHeld'
    (try simp only [Act.put, List.setIfInBounds_toArray, List.set_cons_zero, List.set_cons_succ])
    refine E_one 6 (by kernel_rfl) rfl (by rfl) (fun K hK => ?_)
    have hww : (W5.alloc (.cells #[.string t.text] 9)).drew = W5.drew.alloc (.cells #[.string t.text] 9) := rfl
    try rw [hww]
    refine wp_append_lies _ (.tmp 12) (.tmp 14) 31 (by rfl) N 9 i0 (.string ByteArray.empty) 1 16 Try.underlying31 hi hz0 hz1 hz2 rfl (by decide) (.slice va l.length vc) l.length (strsV l) (by rfl) (World.ownsRow.alloc (w := W5.drew) HOW5.out _) ⟨W5.heap.size, 0, none⟩ 1 1 [.string t.text] (by rfl) rfl (World.news_of_block (World.alloc_heap_new W5.drew _)) (by simp [Value.oneCell']) (by omega) (by unfold maxLen; omega) (by omega) (by rw [World.size_alloc]; show _ ≤ W5.heap.size + 1; omega) (W5.heap.size + 1) (by rw [World.size_alloc]; rfl) ?_
    intro g6 cap6 w6 hown6 hgrow hat hlt6
    have HOW6 := Lib.hid hown6
    have HGR := Lib.hid hgrow
    have hB6 := (hgrow.block B (by rw [World.size_alloc]; show _ < W5.heap.size + 1; omega) (by have := HNB.out; exact fun e => this e.symm)).trans (((Below.refl _ _).alloc (Nat.le_refl _) _ : Below W5.drew.heap.size W5.drew _).block B (by show _ < W5.heap.size; omega) |>.trans HB5.out)
    have HB6 := Lib.hid hB6
    obtain ⟨r6, rf6⟩ := cell1n hB6
    have p6 : w6.cell? ⟨p, 0, none⟩ = some (.pointer (some ⟨B, 0, none⟩)) := (cell1n (t := 86) ((hgrow.block p (by rw [World.size_alloc]; show _ < W5.heap.size + 1; omega) (by have := HNP.out; exact fun e => this e.symm)).trans (((Below.refl _ _).alloc (Nat.le_refl _) _ : Below W5.drew.heap.size W5.drew _).block p (by show _ < W5.heap.size; omega) |>.trans HP5.out))).1
    have s6 : w6.cell? ⟨w.heap.size + 2, 0, none⟩ = some (.string t.text) := (cell1n (t := 9) ((hgrow.block (w.heap.size + 2) (by rw [World.size_alloc]; show _ < W5.heap.size + 1; omega) (by have := HNS.out; exact fun e => this e.symm)).trans (((Below.refl _ _).alloc (Nat.le_refl _) _ : Below W5.drew.heap.size W5.drew _).block (w.heap.size + 2) (by show _ < W5.heap.size; omega) |>.trans HSB5.out))).1
    clear hown6 hgrow hat
    (try simp only [Act.put, List.setIfInBounds_toArray, List.set_cons_zero, List.set_cons_succ])
    refine hK.out _ _ (fun _ _ => ⟨p6, r6, s6⟩) (fun hHeld' => ?_)
    replace hHeld := hHeld' (by rfl) (by decide)
    clear hK hHeld'
    (try simp only [Act.put, List.setIfInBounds_toArray, List.set_cons_zero, List.set_cons_succ])
    refine E_take0 hQ (fun _ => hHeld) 7 (v := ?nv6) rfl rfl (by kernel_rfl) (by kernel_rfl) (by kernel_rfl) (by decide) (by rfl) ?ny6 ?nr6
    case ny6 => (intro w; go_simp; (try with_reducible rfl))
    (try simp only [Act.put, List.setIfInBounds_toArray, List.set_cons_zero, List.set_cons_succ])
    refine E_one 8 (by kernel_rfl) rfl (by rfl) (fun K hK => ?_)
    go_simp
    (try simp only [Act.put, List.setIfInBounds_toArray, List.set_cons_zero, List.set_cons_succ])
    refine hK.out _ _ (fun _ h => absurd rfl h) (fun _ => ?_)
    clear hK hHeld
    (try simp only [Act.put, List.setIfInBounds_toArray, List.set_cons_zero, List.set_cons_succ])
    refine E_done (by kernel_rfl) ?_ _
    refine hK'.out _ _ ?_
    clear p0 r0 s0 hK' hQ p6 s6 r6
    have hgr := HGR.out
    have hal5 : Below W5.drew.heap.size W5.drew (W5.drew.alloc (.cells #[.string t.text] 9)) := (Below.refl _ _).alloc (Nat.le_refl _) _
    have hnf : (Value.slice va l.length vc).ownBlock ≠ some f := fun e => by have := (World.ownsRow.lt HOW.out f e).2; omega
    have hf6 : w6.heap[f]? = some (.cells #[.int .i64 0, .int .i64 0] 29 (0, 0)) := (hgr.block f (by rw [World.size_alloc]; show _ < W5.heap.size + 1; omega) (fun e => hnf e.symm)).trans ((hal5.block f hltf).trans HFB5.out)
    have hr6 : w6.heap[w.heap.size + 1]? = some (.cells #[.int .i64 0, .int .i64 0] 29 (0, 0)) := (hgr.block _ (by rw [World.size_alloc]; show _ < W5.heap.size + 1; omega) (fun e => HNR.out e.symm)).trans ((hal5.block _ (by show _ < W5.heap.size; omega)).trans HR5.out)
    have ht6 : TurnS (fun j => j = B ∨ N ≤ j) w w6 := (HT5.out.drew.alloc (.cells #[.string t.text] 9)).trans ⟨⟨hgr.os, hgr.tape, hgr.output, hgr.size, fun k hk => absurd hk (Nat.not_lt_zero k)⟩, fun j h1 h2 => hgr.block j h1 (fun e => h2 (.inr (World.ownsRow.lt HOW.out j e.symm).1))⟩
    have hb7 := set1n (x := .slice (some ⟨g6, 0, none⟩) (l.length + 1) cap6) HB6.out
    have hnfB : f ≠ B := by omega
    have hnrB : w.heap.size + 1 ≠ B := by omega
    have hf7 := (Below.heap_setCell w6 ⟨B, 0, none⟩ (.slice (some ⟨g6, 0, none⟩) (l.length + 1) cap6) f hnfB).trans hf6
    have hr7 := (Below.heap_setCell w6 ⟨B, 0, none⟩ (.slice (some ⟨g6, 0, none⟩) (l.length + 1) cap6) (w.heap.size + 1) hnrB).trans hr6
    have ho7 : (w6.setCell ⟨B, 0, none⟩ (.slice (some ⟨g6, 0, none⟩) (l.length + 1) cap6)).ownsRow N 9 1 (.slice (some ⟨g6, 0, none⟩) (l.length + 1) cap6) (l.length + 1) (strsV (l ++ [t.text])) := by
      have h1 := HOW6.out
      rw [show strsV l ++ [Value.string t.text] = strsV (l ++ [t.text]) by simp [strsV]] at h1
      exact ownsRow_keepB h1 (fun g hg => Below.heap_setCell _ _ _ _ (by have := (World.ownsRow.lt h1 g hg).1; show g ≠ B; omega))
    have ht7 : TurnS (fun j => j = B ∨ N ≤ j) w (w6.setCell ⟨B, 0, none⟩ (.slice (some ⟨g6, 0, none⟩) (l.length + 1) cap6)) := ht6.setCell (p := ⟨B, 0, none⟩) (fun _ => .inl rfl) _
    clear hgr hal5 hf6 hr6 ht6
    generalize w6.setCell ⟨B, 0, none⟩ (.slice (some ⟨g6, 0, none⟩) (l.length + 1) cap6) = w7 at *
    obtain ⟨y0, y1, -, -⟩ := cells2 hf7
    obtain ⟨x0, x1, x2, x3⟩ := cells2 hr7
    have HB7 := Lib.hid hb7
    have HO7 := Lib.hid ho7
    have HT7 := Lib.hid ht7
    have HR7 := Lib.hid hr7
    clear hf7 hb7 ho7 ht7 hr7
    go_wp2_with fail
    have hset := two_set (x := .int .i64 0) (y := .int .i64 0) HR7.out
    have hneR : B ≠ w.heap.size + 1 := by omega
    have hb8 : ((w7.setCell ⟨w.heap.size + 1, 0, none⟩ (.int .i64 0)).setCell ⟨w.heap.size + 1, 1, none⟩ (.int .i64 0)).heap[B]? = some (.cells #[.slice (some ⟨g6, 0, none⟩) (l.length + 1) cap6] 31 (0, 0)) := by
      rw [Below.heap_setCell _ _ _ _ hneR, Below.heap_setCell _ _ _ _ hneR]; exact HB7.out
    have ho8 : ((w7.setCell ⟨w.heap.size + 1, 0, none⟩ (.int .i64 0)).setCell ⟨w.heap.size + 1, 1, none⟩ (.int .i64 0)).ownsRow N 9 1 (.slice (some ⟨g6, 0, none⟩) (l.length + 1) cap6) (l.length + 1) (strsV (l ++ [t.text])) := ownsRow_keepB HO7.out (fun g hg => by
      have hg' : g ≠ w.heap.size + 1 := by
        rintro rfl
        obtain ⟨cur, hcur⟩ := owns_block' HO7.out hg
        rw [HR7.out] at hcur
        injection hcur with hcur
        injection hcur with _ t2 _
        revert t2
        decide
      rw [Below.heap_setCell _ _ _ _ hg', Below.heap_setCell _ _ _ _ hg'])
    have ht8 : TurnS (fun j => j = B ∨ N ≤ j) w ((w7.setCell ⟨w.heap.size + 1, 0, none⟩ (.int .i64 0)).setCell ⟨w.heap.size + 1, 1, none⟩ (.int .i64 0)) := (HT7.out.setCell (p := ⟨w.heap.size + 1, 0, none⟩) (fun h => absurd h (by simp)) _).setCell (p := ⟨w.heap.size + 1, 1, none⟩) (fun h => absurd h (by simp)) _
    clear x0 x1 x2 x3 y0 y1
    generalize (w7.setCell ⟨w.heap.size + 1, 0, none⟩ (.int .i64 0)).setCell ⟨w.heap.size + 1, 1, none⟩ (.int .i64 0) = w9 at *
    obtain ⟨z0, z1, -, -⟩ := cells2 hset
    refine bodyPost_ret (v := zeroF) (by unfold zeroF; simp [results, Try.results63, go_sem, z0, z1]) rfl ⟨rfl, ⟨_, _, hb8, ho8⟩, ht8⟩
end Go.Proofs.Ytgafjjgnbcjmpaa

/-
  parse: the reader of names: contract.
-/
namespace Go.Proofs.Ytgafjjgnbcjmpaa
open Go Go.RowKit Go.Maps Go.WideShapes

/-- What a reader of names has read so far. -/
def InvN (B p N : Nat) (t : Tree) (i : Nat) (W : World) : Prop := ∃ va vc, W.heap[B]? = some (.cells #[.slice va i vc] 31 (0, 0)) ∧ W.ownsRow N 9 1 (.slice va i vc) i (strsV ((t.kids.map Tree.text).take i)) ∧ W.heap[p]? = some (.cells #[.pointer (some ⟨B, 0, none⟩)] 86 (0, 0))
theorem invN_keep {B p N M : Nat} {t : Tree} (hB : B ≠ M ∧ B ≠ M + 1 ∧ p ≠ M ∧ p ≠ M + 1) (hN : M + 2 ≤ N) : ∀ i W W', InvN B p N t i W → Keep2 M W W' → InvN B p N t i W' := by
  rintro i W W' ⟨va, vc, h1, h2, h3⟩ hk
  exact ⟨va, vc, (hk.block _ (Array.getElem?_eq_some_iff.1 h1).1 hB.1 hB.2.1).trans h1, ownsRow_keepB h2 (fun g hg => by have := World.ownsRow.lt h2 g hg; exact hk.block g this.2 (by omega) (by omega)), (hk.block _ (Array.getElem?_eq_some_iff.1 h3).1 hB.2.2.1 hB.2.2.2).trans h3⟩
theorem invN_reads {B p N N0 : Nat} {t : Tree} {w0 : World} (hs : ∀ x ∈ t.kids, x.kind = 1 ∧ checkN (bsN x.text) 64 = 0) (hlen : t.kids.length ≤ 64) (hB : B < N) (hp : p < N) : ReadsK (fun j => j = B ∨ N ≤ j) N0 N w0 t (.nm p) (InvN B p N t) := by
  rintro i kid hkid V cs ⟨va, vc, h1, h2, h3⟩ hN _ hn
  obtain ⟨hi, rfl⟩ := List.getElem?_eq_some_iff.1 hkid
  obtain ⟨s1, s2⟩ := hs _ (List.getElem_mem hi)
  have hl : ((t.kids.map Tree.text).take i).length = i := by rw [List.length_take, List.length_map]; omega
  have hpB : p ≠ B := by
    rintro rfl
    rw [h1] at h3
    injection h3 with h3
    injection h3 with _ t2 _
    revert t2
    decide
  refine (nm_any t.kids[i] cs p B N ((t.kids.map Tree.text).take i) va vc w0 V hn s1 s2 h3 (by rw [hl]; exact h1) hB (by omega) (by rw [hl]; exact h2) (by omega)).mono ?_
  rintro e w' ⟨rfl, ⟨va', vc', h4, h5⟩, h6⟩
  rw [hl] at h4 h5
  refine ⟨rfl, ⟨va', vc', h4, ?_, (h6.block p (Array.getElem?_eq_some_iff.1 h3).1 (by rintro (h | h) <;> omega)).trans h3⟩, h6⟩
  rw [List.take_succ_eq_append_getElem (by rw [List.length_map]; exact hi), List.getElem_map]
  exact h5

set_option maxRecDepth 100000 in
set_option maxHeartbeats 4000000 in
theorem names1_any (t : Tree) (cs : List Value) (p B : Nat) (old : Value) (w0 w : World) (h : NodeR w0 cs t) (hb : Below w0.heap.size w0 w) (hBl : w0.heap.size ≤ B) (hk : t.kind = 2) (hlen : t.kids.length ≤ 64) (hs : ∀ x ∈ t.kids, x.kind = 1 ∧ checkN (bsN x.text) 64 = 0)
    (hp : w.heap[p]? = some (.cells #[.pointer (some ⟨B, 0, none⟩)] 86 (0, 0))) (hB : w.heap[B]? = some (.cells #[old] 31 (0, 0))) :
    Calls Try.prog 62 #[.agg cs.toArray, .pointer (some ⟨p, 0, none⟩)] w fun e w' => e = .returned zeroF ∧ (∃ va vc, w'.heap[B]? = some (.cells #[.slice va t.kids.length vc] 31 (0, 0)) ∧ w'.ownsRow w.heap.size 9 1 (.slice va t.kids.length vc) t.kids.length (strsV (t.kids.map Tree.text))) ∧ TurnS (fun j => j = B) w w' := by
  obtain ⟨ka, kc, ba, bc, rfl⟩ := h.cells
  have hk1 : (t.kind : Int) = 2 := by omega
  rw [hk1] at h ⊢
  have HN := Lib.hid h
  have HK := Lib.hid hk
  have HLEN := Lib.hid hlen
  have HSC := Lib.hid hs
  have hltp := (Array.getElem?_eq_some_iff.1 hp).1
  have hltB := (Array.getElem?_eq_some_iff.1 hB).1
  have hpB : p ≠ B := by
    rintro rfl
    rw [hB] at hp
    injection hp with hp
    injection hp with _ t2 _
    revert t2
    decide
  have HMK := Lib.hid (fun W => mkRow_any 64 (.nm p) W)
  clear h hk hk1 hs
  obtain ⟨hb0, g0, f0, hs0⟩ := enter5 w (.int .u8 2) (.string t.text) (.slice ka t.keys.length kc) (.slice ba t.kids.length bc) (.int .i64 t.line)
  have hpz := (hb0.block _ hltp).trans hp
  have hBz := (hb0.block _ hltB).trans hB
  have HB0 := Lib.hid hb0
  have HWZ := Lib.hid (hb.trans (hb0.mono hb.size))
  have hw0 := hb.size
  clear hb0 hp hB hb
  go_enter Try.func62, Try.ntmps62
  go_upto_region 1 with fail
  generalize (w.alloc (.cells #[.int .u8 2, .string t.text, .slice ka t.keys.length kc, .slice ba t.kids.length bc, .int .i64 t.line] 34)).alloc (.cells #[.int .i64 0, .int .i64 0] 29) = wz at *
  obtain ⟨n0, -⟩ := cell1n hpz
  obtain ⟨b0, b1⟩ := cell1n hBz
  go_upto_region 2 with fail
  have hnB : w.heap.size ≠ B := by omega
  have hrB : w.heap.size + 1 ≠ B := by omega
  have g2 := (Below.heap_setCell wz ⟨B, 0, none⟩ (.slice none 0 0) (w.heap.size) hnB).trans g0
  have HR2 := Lib.hid ((Below.heap_setCell wz ⟨B, 0, none⟩ (.slice none 0 0) (w.heap.size + 1) hrB).trans f0)
  have HP2 := Lib.hid ((Below.heap_setCell wz ⟨B, 0, none⟩ (.slice none 0 0) p hpB).trans hpz)
  have HB2 := Lib.hid (set1n (x := .slice none 0 0) hBz)
  have HT2 : Hid (TurnS (fun j => j = B) w (wz.setCell ⟨B, 0, none⟩ (.slice none 0 0))) := Lib.hid (TurnS.setCell (S := fun j => j = B) (TurnS.of_below HB0.out) (p := ⟨B, 0, none⟩) (fun _ => rfl) _)
  have HW2 : Hid (Below w0.heap.size w0 (wz.setCell ⟨B, 0, none⟩ (.slice none 0 0))) := Lib.hid (HWZ.out.setCell (p := ⟨B, 0, none⟩) hBl _)
  have hs2 : (wz.setCell ⟨B, 0, none⟩ (.slice none 0 0)).heap.size = w.heap.size + 2 := by simp [hs0]
  clear n0 b0 b1 g0 f0 hpz hBz HWZ
  generalize wz.setCell ⟨B, 0, none⟩ (.slice none 0 0) = w2 at *
  obtain ⟨q0, q1, q2, q3, q4⟩ := cells5n g2
  clear g2
  refine E_region (S := (fun W => W.cell? ⟨w.heap.size, 0, none⟩ = some (.int .u8 2) ∧ W.cell? ⟨w.heap.size, 1, none⟩ = some (.string t.text) ∧ W.cell? ⟨w.heap.size, 2, none⟩ = some (.slice ka t.keys.length kc) ∧ W.cell? ⟨w.heap.size, 3, none⟩ = some (.slice ba t.kids.length bc) ∧ W.cell? ⟨w.heap.size, 4, none⟩ = some (.int .i64 t.line))) 3 (by kernel_rfl) ⟨q0, q1, q2, q3, q4⟩ (fun _ _ _ _ _ h => h) (fun Q' hQ hK' hHeld => ?_)
  refine E_take hQ hHeld 2 (v := ?nv1) rfl rfl (by kernel_rfl) (by kernel_rfl) (by kernel_rfl) (by kernel_rfl) (by kernel_rfl) (by rfl) ?ny1 ?nr1
  case ny1 => (intro w hSw; (try dsimp only at hSw); go_simp; (try with_reducible rfl))
  (try simp only [Act.put, List.setIfInBounds_toArray, List.set_cons_zero, List.set_cons_succ])
  refine E_one 0 (by kernel_rfl) rfl (by rfl) (fun K hK => ?_)
  go_simp
  (try simp only [Act.put, List.setIfInBounds_toArray, List.set_cons_zero, List.set_cons_succ])
  refine hK.out _ _ (fun _ _ => hHeld) (fun hHeld' => ?_)
  replace hHeld := hHeld' (by rfl) (by decide)
  clear hK hHeld'
  (try simp only [Act.put, List.setIfInBounds_toArray, List.set_cons_zero, List.set_cons_succ])
  refine E_one 1 (by kernel_rfl) rfl (by rfl) (fun K hK => ?_)
  dsimp only [rkV] at HMK
  go_simp
  refine (HMK.out _).mono ?_
  rintro e V1 ⟨c, q, rfl, hc1, hc2, hc3, hc4, hb⟩
  have hc2' : w2.heap.size ≤ q := hc2
  have hqV := (Array.getElem?_eq_some_iff.1 hc4).1
  have HY1 := Lib.hid hb
  have hz1 : Below w2.heap.size w2 V1 := ((Below.refl _ w2).drew).trans hb
  have HZ1 := Lib.hid hz1
  have hsz1 := hz1.size
  clear hb hz1
  unfold rowV
  (skip)
  refine hK.out _ _ (fun _ _ => ⟨cellB HY1.out hHeld.1, cellB HY1.out hHeld.2.1, cellB HY1.out hHeld.2.2.1, cellB HY1.out hHeld.2.2.2.1, cellB HY1.out hHeld.2.2.2.2⟩) (fun hHeld' => ?_)
  replace hHeld := hHeld' (by rfl) (by decide)
  clear hK hHeld'
  (try simp only [Act.put, List.setIfInBounds_toArray, List.set_cons_zero, List.set_cons_succ])
  refine E_one 3 (by kernel_rfl) rfl (by rfl) (fun K hK => ?_)
  have hB1 := (HZ1.out.block _ (by omega)).trans HB2.out
  have hp1 := (HZ1.out.block _ (by omega)).trans HP2.out
  have HCALL := row1_any (fun j => j = B ∨ V1.heap.size + 2 ≤ j) t [.int .u8 2, .string t.text, .slice ka t.keys.length kc, .slice ba t.kids.length bc, .int .i64 t.line] c q 64 (.nm p) (InvN B p (V1.heap.size + 2) t) w0 V1 HN.out (HW2.out.trans (HZ1.out.mono (by omega))) HK.out (by omega) (by omega) (by rintro j (rfl | hj) <;> omega) (by rintro (h | h) <;> omega) (by rintro (h | h) <;> omega) hc3 hc4 (by rintro (h | h) <;> omega)
    (invN_keep (by omega) (by omega)) (invN_reads HSC.out HLEN.out (by omega) (by omega)) ⟨none, 0, hB1, World.ownsRow_nil _ _ _ _, hp1⟩
  go_simp
  refine HCALL.mono ?_
  rintro e V3 ⟨rfl, hinv, ht3⟩
  have HI3 := Lib.hid hinv
  have HT3 := Lib.hid ht3
  have hr3 := (HT3.out.block (w.heap.size + 1) (by omega) (by rintro (h | h) <;> omega)).trans ((HZ1.out.block _ (by omega)).trans HR2.out)
  obtain ⟨x0, x1, x2, x3⟩ := cells2 hr3
  have HR3 := Lib.hid hr3
  unfold zeroF
  clear hinv ht3 hr3 hB1 hp1 HCALL
  (skip)
  refine hK.out _ _ (fun _ h => absurd rfl h) (fun _ => ?_)
  clear hK hHeld
  (try simp only [Act.put, List.setIfInBounds_toArray, List.set_cons_zero, List.set_cons_succ])
  refine E_one 4 (by kernel_rfl) rfl (by rfl) (fun K hK => ?_)
  go_simp
  (try simp only [Act.put, List.setIfInBounds_toArray, List.set_cons_zero, List.set_cons_succ])
  refine hK.out _ _ (fun h => absurd h (by decide)) (fun _ => ?_)
  clear hK
  (try simp only [Act.put, List.setIfInBounds_toArray, List.set_cons_zero, List.set_cons_succ])
  refine E_done (by kernel_rfl) ?_ _
  refine hK'.out _ _ ?_
  clear q0 q1 q2 q3 q4 hK' hQ
  obtain ⟨va, vc, hB3, ho3, -⟩ := HI3.out
  rw [List.take_of_length_le (by rw [List.length_map]; omega)] at ho3
  have hset := two_set (x := .int .i64 0) (y := .int .i64 0) HR3.out
  have hne : B ≠ w.heap.size + 1 := by omega
  have hb8 : ((V3.setCell ⟨w.heap.size + 1, 0, none⟩ (.int .i64 0)).setCell ⟨w.heap.size + 1, 1, none⟩ (.int .i64 0)).heap[B]? = some (.cells #[.slice va t.kids.length vc] 31 (0, 0)) := by
    rw [Below.heap_setCell _ _ _ _ hne, Below.heap_setCell _ _ _ _ hne]; exact hB3
  have ho8 : ((V3.setCell ⟨w.heap.size + 1, 0, none⟩ (.int .i64 0)).setCell ⟨w.heap.size + 1, 1, none⟩ (.int .i64 0)).ownsRow w.heap.size 9 1 (.slice va t.kids.length vc) t.kids.length (strsV (t.kids.map Tree.text)) := ownsRow_mono (ownsRow_keepB ho3 (fun g hg => by
    have h1 := (World.ownsRow.lt ho3 g hg).1
    have hg' : g ≠ w.heap.size + 1 := by omega
    rw [Below.heap_setCell _ _ _ _ hg', Below.heap_setCell _ _ _ _ hg'])) (by omega)
  have ht3 : TurnS (fun j => j = B) w V3 := (HT2.out.trans (TurnS.of_below HZ1.out)).new HT3.out (by rintro j (rfl | hj) hlt <;> omega)
  have ht8 : TurnS (fun j => j = B) w ((V3.setCell ⟨w.heap.size + 1, 0, none⟩ (.int .i64 0)).setCell ⟨w.heap.size + 1, 1, none⟩ (.int .i64 0)) := (ht3.setCell (p := ⟨w.heap.size + 1, 0, none⟩) (fun h => absurd h (by simp)) _).setCell (p := ⟨w.heap.size + 1, 1, none⟩) (fun h => absurd h (by simp)) _
  clear x0 x1 x2 x3
  go_wp2_with fail
  generalize (V3.setCell ⟨w.heap.size + 1, 0, none⟩ (.int .i64 0)).setCell ⟨w.heap.size + 1, 1, none⟩ (.int .i64 0) = w9 at *
  obtain ⟨z0, z1, -, -⟩ := cells2 hset
  refine bodyPost_ret (v := zeroF) (by unfold zeroF; simp [results, Try.results62, go_sem, z0, z1]) rfl ⟨rfl, ⟨va, vc, hb8, ho8⟩, ht8⟩
end Go.Proofs.Ytgafjjgnbcjmpaa
