/-
  tok.Line: contract.
-/
import Derived.Test.YtdhgcgejdoedbaaGreatDoorBw30
namespace Go.Proofs.YtdhgcgejdoedbaaGreatDoor
open Go.RowKit Go.WideShapes
attribute [local go_sem] Oper.semAt_some wide_fn wide_depth wide_fn' wide_depth'

theorem wpIn_rfT {P : Program} {α : Type} {g : Operand} {ps : Array Tmp} {assign body : Code} {Q : Exit → Act → World → Prop} {a : Act} {w : World}
    {gf : Nat} {lb : Array Value} (hg : a.eval g = .func (.func gf) #[] lb) (eg : ∀ args w, (callFunc gf args).run P w = .ok (.enter gf args) w)
    {encs : α → Array Value} {xs : List α} {n0 : Nat} {S0 : Nat → Prop} {fin : Prop} (hit : IterAt P n0 gf lb encs xs fin S0 w)
    (hn0 : n0 ≤ w.heap.size) (hS0 : ∀ k, S0 k → n0 ≤ k ∧ k < w.heap.size) (hps : ∀ x, (encs x).size = ps.size)
    (J : (Nat → Prop) → List α → World → Prop) (Jx : Code → (Nat → Prop) → List α → World → Prop) (hfin : ¬ fin → ∀ S W, ¬ J S xs W) (hJ : Stable n0 J) (hJx : ∀ c, Stable n0 (Jx c)) (h0 : J S0 [] w)
    (F : α → Nat → Act) (cs : α → Array Value) (t : TypeId)
    (hassign : ∀ (l : Nat) (S : Nat → Prop) (pre : List α) (x : α) (W : World) (K : Act → World → Prop), (∀ k, S k → n0 ≤ k ∧ k < W.heap.size) → w.heap.size ≤ W.heap.size → J S pre W → (∀ b W', Keep n0 S W W' → J S pre W' → W'.heap[b]? = some (.cells (cs x) t (0, 0)) → K (F x b) W') →
      assign.wpIn (Fence.wide.inRound l) 0 P (Exit.then K (fun _ _ _ => False)) { tmps := (ps.zip (encs x)).foldl (fun t (p, v) => t.setIfInBounds p v) a.tmps, defers := [] } W)
    (hbody : ∀ (l : Nat) (S : Nat → Prop) (pre : List α) (x : α) (b : Nat) (W : World), (∀ k, S k → n0 ≤ k ∧ k < W.heap.size) → w.heap.size ≤ W.heap.size → S l → (∃ r, W.heap[l]? = some (.loop r)) → J S pre W → W.heap[b]? = some (.cells (cs x) t (0, 0)) → pre ++ [x] <+: xs →
      body.wpIn (Fence.wide.inRound l) 0 P (rfPost n0 S J Jx (pre ++ [x]) W) (F x b) W)
    (hdone : ∀ (D : Nat) (S : Nat → Prop) (W : World), w.heap.size ≤ D → (∀ k, S k → n0 ≤ k ∧ k < W.heap.size) → S D → J S xs W → W.heap[D]? = some (.deferred (some [])) → Q .normal { a with defers := { target := .collected D, args := #[] } :: a.defers } W)
    (hstop : ∀ (D : Nat) (c : Code) (S : Nat → Prop) (pre : List α) (W : World), w.heap.size ≤ D → (∀ k, S k → n0 ≤ k ∧ k < W.heap.size) → S D → pre <+: xs → Jx c S pre W → W.heap[D]? = some (.deferred (some [])) → c.wpIn Fence.wide 0 P Q { a with defers := { target := .collected D, args := #[] } :: a.defers } W) :
    (Code.rangeFunc g ps assign body).wpIn Fence.wide 0 P Q a w := by
  refine wpIn_rf hg eg hit hn0 hS0 hps J Jx hfin hJ hJx h0 (fun x a' W => ∃ b, a' = F x b ∧ W.heap[b]? = some (.cells (cs x) t (0, 0))) ?_ ?_ ?_ hdone hstop
  · rintro x a' l W W' hl hlt ⟨b, rfl, hb⟩ hs ⟨r, hr⟩
    have hne : b ≠ l := by rintro rfl; rw [hr] at hb; cases hb
    exact ⟨b, rfl, (hs.same b (Array.getElem?_eq_some_iff.1 hb).1 hne).trans hb⟩
  · exact fun l S pre x W K h1 h2 h3 h4 hk => hassign l S pre x W K h1 h2 h3 fun b W' k1 k2 k3 => hk _ W' k1 k2 ⟨b, rfl, k3⟩
  · rintro l S pre x a' W h1 h2 h3 h4 h5 ⟨b, rfl, hb⟩ h7
    exact hbody l S pre x b W h1 h2 h3 h4 h5 hb h7

def tokC (t : TokD) : List Value := [.int .u8 (t.1 : Nat), .string t.2.1, .int .i64 (t.2.2.1 : Nat), .int .i64 (t.2.2.2 : Nat)]
theorem tokC_get : ∀ (l : List TokD) (k : Nat) (h : k < l.length) (j : Nat), j < 4 → (l.flatMap tokC)[k * 4 + j]? = (tokC l[k])[j]?
  | [], k, h, _, _ => absurd h (by simp)
  | x :: l, 0, _, j, hj => by
    rw [List.flatMap_cons, List.getElem?_append_left (by simp [tokC]; omega)]
    simp
  | x :: l, k + 1, h, j, hj => by
    rw [List.flatMap_cons, List.getElem?_append_right (by simp [tokC]; omega)]
    have : (k + 1) * 4 + j - (tokC x).length = k * 4 + j := by simp [tokC]; omega
    rw [this, tokC_get l k (by simpa using h) j hj]
    simp
theorem Tryz.info_tok : (Tryz.prog.info? 39).map (fun i => (i.zero, i.size, i.bytes)) = some (some (.agg #[.int .u8 0, .string { data := #[] }, .int .i64 0, .int .i64 0]), 4, 40) := by kernel_rfl
theorem new4 (W : World) (a b c d : Value) (t : TypeId) : ∀ j u, [a, b, c, d][j]? = some u → (W.alloc (.cells #[a, b, c, d] t)).cell? (Addr.add ⟨W.heap.size, 0, none⟩ j) = some u := by
  intro j u h
  rcases j with _ | _ | _ | _ | j
  · simpa [Addr.add, World.cell?_alloc_new] using h
  · simpa [Addr.add, World.cell?_alloc_new] using h
  · simpa [Addr.add, World.cell?_alloc_new] using h
  · simpa [Addr.add, World.cell?_alloc_new] using h
  · simp at h
theorem alloc_two (w : World) (a b : Obj) : ((w.alloc a).alloc b).heap[w.heap.size]? = some a ∧ ((w.alloc a).alloc b).heap[w.heap.size + 1]? = some b ∧ ((w.alloc a).alloc b).heap.size = w.heap.size + 2 ∧ Below w.heap.size w ((w.alloc a).alloc b) := by
  have h2 := World.alloc_heap_new (w.alloc a) b
  rw [World.size_alloc] at h2
  exact ⟨(Below.heap_alloc _ _ _ (by simp)).trans (World.alloc_heap_new w a), h2, by simp, ((Below.refl _ w).alloc (Nat.le_refl _) _).alloc (by simp) _⟩
theorem alloc_five (w : World) (a b c d e : Obj) : (((((w.alloc a).alloc b).alloc c).alloc d).alloc e).heap[w.heap.size + 1]? = some b ∧ (((((w.alloc a).alloc b).alloc c).alloc d).alloc e).heap[w.heap.size + 1 + 1]? = some c ∧ (((((w.alloc a).alloc b).alloc c).alloc d).alloc e).heap[w.heap.size + 1 + 1 + 1]? = some d ∧ (((((w.alloc a).alloc b).alloc c).alloc d).alloc e).heap[w.heap.size + 1 + 1 + 1 + 1]? = some e ∧ (((((w.alloc a).alloc b).alloc c).alloc d).alloc e).heap.size = w.heap.size + 5 ∧ Below w.heap.size w (((((w.alloc a).alloc b).alloc c).alloc d).alloc e) := by
  obtain ⟨h1, h2, h3, h4⟩ := alloc_two w a b
  obtain ⟨k1, k2, k3, k4⟩ := alloc_two ((w.alloc a).alloc b) c d
  rw [h3] at k1 k2 k3
  have e5 := World.alloc_heap_new ((((w.alloc a).alloc b).alloc c).alloc d) e
  rw [k3] at e5
  have l1 : ∀ j : Nat, j < w.heap.size + 4 → (((((w.alloc a).alloc b).alloc c).alloc d).alloc e).heap[j]? = ((((w.alloc a).alloc b).alloc c).alloc d).heap[j]? := fun j hj => Below.heap_alloc _ _ _ (by rw [k3]; exact hj)
  have l2 : ∀ j : Nat, j < w.heap.size + 2 → ((((w.alloc a).alloc b).alloc c).alloc d).heap[j]? = ((w.alloc a).alloc b).heap[j]? := fun j hj => k4.block j (by rw [h3]; exact hj)
  refine ⟨(l1 _ (by omega)).trans ((l2 _ (by omega)).trans h2), (l1 _ (by omega)).trans k1, (l1 _ (by omega)).trans k2, e5, by rw [World.size_alloc, k3], ?_⟩
  exact (h4.trans (k4.mono (by rw [h3]; omega))).alloc (by rw [k3]; omega) _
theorem bodyK_len (n : Nat) : ∀ (b : BodyD) (c : Nat), (bodyK n c b).length ≤ (bodyS b).length
  | .leaf x, c => by
    obtain ⟨a, m, h, _⟩ := leafL_ends x
    show 1 ≤ (leafL x).length
    rw [h]; simp
  | .key k none, c => by show 1 ≤ (wrL (bsN k) ++ [58]).length; simp
  | .key k (some x), c => by show 2 ≤ (wrL (bsN k) ++ 58 :: 32 :: leafL x).length; simp; omega
  | .dash b, c => by
    have := bodyK_len n b (c + 2)
    show (bodyK n (c + 2) b).length + 1 ≤ (45 :: 32 :: bodyS b).length
    simp; omega

set_option maxRecDepth 100000 in
set_option maxHeartbeats 4000000 in
theorem tkLine_any (n c : Nat) (s : ByteArray) (b : BodyD) (w : World) (hs : s.size ≤ 536870912) (hc : c ≤ 536870912) (hn : n ≤ 1073741824) (hb : bsN s = bodyS b) (hok : OkB b) :
    Calls Tryz.prog 22 #[.agg #[.int .i64 (n : Int), .int .i64 (c : Int), .string s]] w fun e w' => ∃ v, e = .returned (.tuple #[v, .int .i64 0]) ∧ w'.ownsRow w.heap.size 39 4 v (bodyK n c b).length ((bodyK n c b).flatMap tokC) ∧ Below w.heap.size w w' := by
  obtain ⟨i0, hi, hz0, hz1, hz2⟩ := info_parts Tryz.info_tok
  have hbl := bodyK_len n b c
  have hzs := bsN_len s
  rw [← hb, hzs] at hbl
  refine (callsIn_wide (n := 0)).1 ?_
  refine callsIn_of_wp_marks Tryz.func22 rfl trivial ?_ rfl
  simp only [Tryz.ntmps22, List.size_toArray, List.length_cons, List.length_nil, Nat.reduceAdd, Nat.reduceSub, Array.replicate_succ, Array.replicate_zero, List.push_toArray, List.append_toArray, List.nil_append, List.cons_append]
  gi_wp2_with fail
  refine callsIn_wide.2 ?_
  refine (tkEach_any n c s _).mono ?_
  rintro e w1 ⟨rfl, rfl⟩
  gi_wp2_with fail
  obtain ⟨hR2, hR3, hO, hX, hsz, hbw⟩ := alloc_five w (.cells #[.int .i64 (n : Int), .int .i64 (c : Int), .string s] 67) (.cells #[.slice none 0 0] 31) (.cells #[.int .i64 0] 28) (.cells #[.slice none 0 0] 31) (.cells #[.int .i64 (n : Int), .int .i64 (c : Int), .string s] 67)
  generalize (((((w.alloc (.cells #[.int .i64 (n : Int), .int .i64 (c : Int), .string s] 67)).alloc (.cells #[.slice none 0 0] 31)).alloc (.cells #[.int .i64 0] 28)).alloc (.cells #[.slice none 0 0] 31)).alloc (.cells #[.int .i64 (n : Int), .int .i64 (c : Int), .string s] 67)) = w5 at *
  have HBW := Lib.hid hbw
  have HR2 := Lib.hid hR2
  have HR3 := Lib.hid hR3
  have HO := Lib.hid hO
  clear hbw hR2 hR3
  generalize hOO : w.heap.size + 1 + 1 + 1 = O at *
  refine' wpIn_rfT rfl (enters_of Tryz.func65 (by kernel_rfl) rfl) (tkEach_iter n c s b O (O + 1) w5 hs hc hn hb hok hX) (by omega) (fun k h => h.elim) (fun _ => rfl)
    (fun S pre W => ∃ va vc, Boxed W O 31 (.slice va pre.length vc) ∧ ¬ S O ∧ W.ownsRow O 39 4 (.slice va pre.length vc) pre.length (pre.flatMap tokC) ∧ (∀ g, (Value.slice va pre.length vc).ownBlock = some g → ¬ S g) ∧ Below O w5 W)
    (fun _ _ _ _ => False) ?hfin ?hJ ?hJx ?h0 _ (fun x => #[.int .u8 (x.1 : Nat), .string x.2.1, .int .i64 (x.2.2.1 : Nat), .int .i64 (x.2.2.2 : Nat)]) 39 ?assign ?body ?done ?stop
  case assign =>
    rintro l S pre x W K hS hw ⟨va, vc, h0, h1, h2, h3, h4⟩ hK
    dsimp only [encTk, tokA]
    have hW0 : O ≤ W.heap.size := by omega
    have hal : Below W.heap.size W (W.alloc (.cells #[.int .u8 (x.1 : Nat), .string x.2.1, .int .i64 (x.2.2.1 : Nat), .int .i64 (x.2.2.2 : Nat)] 39)) := (Below.refl _ _).alloc (Nat.le_refl _) _
    have HKK := Lib.hid (hK W.heap.size _ (keepOf hW0 hS hal) ⟨va, vc, h0.alloc _, h1, h2.alloc _, h3, bthen h4 (by omega) hal⟩ (World.alloc_heap_new W _))
    clear hK hS hal
    gi_wp2
    generalize W.heap.size = bb at *
    exact HKK.out
  case hfin => exact fun h => absurd trivial h
  case hJ =>
    rintro S S' s W W' hS ⟨va, vc, h0, h1, h2, h3, h4⟩ hs
    exact ⟨va, vc, (hs.boxed h0 h1).1, (hs.boxed h0 h1).2, (hs.owns h2 h3).1, (hs.owns h2 h3).2, h4.trans hs.below⟩
  case hJx => exact fun _ _ _ _ _ _ _ h _ => h
  case h0 => exact ⟨none, 0, HO.out, fun h => h, World.ownsRow_nil _ _ _ _, by simp [Value.ownBlock], Below.refl _ _⟩
  case body =>
    rintro l S pre x bb W hS hw hl hlr ⟨va, vc, h0, h1, h2, h3, h4⟩ hbx hpre
    obtain ⟨q0, q1, q2, q3, -⟩ := tcells4 hbx
    have r0 := h0.cell
    have hpl := hpre.length_le
    rw [List.length_append, List.length_singleton] at hpl
    have HS := Lib.hid hS
    have hW0 : O ≤ W.heap.size := by omega
    clear hS hpre hbx
    gi_wp2_with (gi_at_builtin; go_must (refine wpListIn_push rfl _ _ 31 rfl O 39 i0 (.agg #[.int .u8 0, .string { data := #[] }, .int .i64 0, .int .i64 0]) 4 40 Tryz.underlying31 hi hz0 hz1 hz2 rfl (by decide) _ _ _ rfl (h2.alloc _) ⟨W.heap.size, 0, none⟩ 1 1 [_, _, _, _] rfl rfl (new4 _ _ _ _ _ _) (by simp [Value.oneCell']) (by unfold maxLen; omega) (by omega) (by simp; omega) ?_; intro v' w6 hown' hgrow hfr; obtain ⟨g', cap', rfl⟩ := ownsRow_succ hown'; obtain ⟨hv1, hv2, hr2, hk2, hn2⟩ := boxed_pushed (n0 := O) (S := S) h0 (by decide) h2 hW0 (Nat.le_refl _) (Nat.le_refl _) HS.out h1 h3 hown' hgrow hfr; have hc1 := hv1.cell; have hf1 := hv1.frozen))
    refine ⟨?_, hk2⟩
    dsimp only
    rw [List.length_append, List.flatMap_append]
    exact ⟨_, _, hv2, h1, hr2, hn2, h4.trans hk2.below⟩
  case done =>
    rintro D S W hD hS hSD ⟨va, vc, h0, h1, h2, h3, h4⟩ hKD
    have r0 := h0.cell
    have hA2 := (h4.block _ (show w.heap.size + 1 < O by omega)).trans HR2.out
    have hA3 := (h4.block _ (show w.heap.size + 1 + 1 < O by omega)).trans HR3.out
    have a0 : W.cell? ⟨w.heap.size + 1, 0, none⟩ = some (.slice none 0 0) := by simp [World.cell?, hA2]
    have a1 : W.frozen? ⟨w.heap.size + 1, 0, none⟩ = false := by simp [World.frozen?, hA2]
    have HA3 := Lib.hid hA3
    have HA2 := Lib.hid hA2
    have HS := Lib.hid hS
    have HO2 := Lib.hid h2
    have HB5 := Lib.hid (HBW.out.trans (h4.mono (by omega)))
    have hne : w.heap.size + 1 ≠ D := by omega
    have hne2 : w.heap.size + 1 + 1 ≠ D := by omega
    have hA4 : ((W.setCell ⟨w.heap.size + 1, 0, none⟩ (.slice va (bodyK n c b).length vc)).heap[w.heap.size + 1 + 1]?) = some (.cells #[.int .i64 0] 28 (0, 0)) := by
      rw [Below.heap_setCell _ _ _ _ (show w.heap.size + 1 + 1 ≠ w.heap.size + 1 by omega)]; exact hA3
    have b0 : (W.setCell ⟨w.heap.size + 1, 0, none⟩ (.slice va (bodyK n c b).length vc)).cell? ⟨w.heap.size + 1 + 1, 0, none⟩ = some (.int .i64 0) := by simp only [World.cell?, hA4]; rfl
    have b1 : (W.setCell ⟨w.heap.size + 1, 0, none⟩ (.slice va (bodyK n c b).length vc)).frozen? ⟨w.heap.size + 1 + 1, 0, none⟩ = false := by simp only [World.frozen?, hA4]; rfl
    have HA4 := Lib.hid hA4
    clear hS h2 h4 hA2 hA3 hA4
    gi_wp2_with fail
    have hS' := HS.out D hSD
    have hk2 : ((W.setCell ⟨w.heap.size + 1, 0, none⟩ (.slice va (bodyK n c b).length vc)).setCell ⟨w.heap.size + 1 + 1, 0, none⟩ (.int .i64 0)).heap[D]? = some (.deferred (some [])) := by
      rw [Below.heap_setCell _ _ _ _ (fun e => hne2 e.symm), Below.heap_setCell _ _ _ _ (fun e => hne e.symm)]; exact hKD
    have h5 : ((W.setCell ⟨w.heap.size + 1, 0, none⟩ (.slice va (bodyK n c b).length vc)).setCell ⟨w.heap.size + 1 + 1, 0, none⟩ (.int .i64 0)).heap[w.heap.size + 1]? = some (.cells #[.slice va (bodyK n c b).length vc] 31 (0, 0)) := by
      rw [Below.heap_setCell _ _ _ _ (show w.heap.size + 1 ≠ w.heap.size + 1 + 1 by omega)]
      have h6 := HA2.out
      simp [World.setCell, h6, Array.getElem?_modify]
    have h6 : ((W.setCell ⟨w.heap.size + 1, 0, none⟩ (.slice va (bodyK n c b).length vc)).setCell ⟨w.heap.size + 1 + 1, 0, none⟩ (.int .i64 0)).heap[w.heap.size + 1 + 1]? = some (.cells #[.int .i64 0] 28 (0, 0)) := by
      have h7 := HA4.out
      generalize (W.setCell ⟨w.heap.size + 1, 0, none⟩ (.slice va (bodyK n c b).length vc)) = V at *
      simp [World.setCell, h7, Array.getElem?_modify]
    have hb5 : Below w.heap.size w ((W.setCell ⟨w.heap.size + 1, 0, none⟩ (.slice va (bodyK n c b).length vc)).setCell ⟨w.heap.size + 1 + 1, 0, none⟩ (.int .i64 0)) := (HB5.out.setCell (p := ⟨w.heap.size + 1, 0, none⟩) (show w.heap.size ≤ w.heap.size + 1 by omega) _).setCell (p := ⟨w.heap.size + 1 + 1, 0, none⟩) (show w.heap.size ≤ w.heap.size + 1 + 1 by omega) _
    have ho5 : ((W.setCell ⟨w.heap.size + 1, 0, none⟩ (.slice va (bodyK n c b).length vc)).setCell ⟨w.heap.size + 1 + 1, 0, none⟩ (.int .i64 0)).ownsRow O 39 4 (.slice va (bodyK n c b).length vc) (bodyK n c b).length ((bodyK n c b).flatMap tokC) := own_off _ (own_off _ HO2.out (by omega)) (by omega)
    generalize ((W.setCell ⟨w.heap.size + 1, 0, none⟩ (.slice va (bodyK n c b).length vc)).setCell ⟨w.heap.size + 1 + 1, 0, none⟩ (.int .i64 0)) = W5 at *
    have h8 : (W5.putObj D (.deferred none)).heap[w.heap.size + 1]? = _ := (World.putObj_heap_other hne).trans h5
    have h9 : (W5.putObj D (.deferred none)).heap[w.heap.size + 1 + 1]? = _ := (World.putObj_heap_other hne2).trans h6
    have s0 : (W5.putObj D (.deferred none)).cell? ⟨w.heap.size + 1, 0, none⟩ = some (.slice va (bodyK n c b).length vc) := by simp [World.cell?, h8]
    have s1 : (W5.putObj D (.deferred none)).cell? ⟨w.heap.size + 1 + 1, 0, none⟩ = some (.int .i64 0) := by simp [World.cell?, h9]
    refine ⟨by simp, .inl ⟨_, _, rfl, run_takeDeferred hk2, ?_⟩⟩
    exact ⟨.tuple #[.slice va (bodyK n c b).length vc, .int .i64 0], by simp [results, Tryz.results22, go_sem, s0, s1], _, rfl, ownsRow_mono (ownsRow_putObj ho5 _ hk2 rfl) (by omega), hb5.trans (below_putObj _ _ (by omega))⟩
  case stop => exact fun _ _ _ _ _ _ _ _ _ h => h.elim
end Go.Proofs.YtdhgcgejdoedbaaGreatDoor

/-
  A nest in memory: tokens, and the row of places.
-/
namespace Go.Proofs.YtdhgcgejdoedbaaGreatDoor
open Go.RowKit Go.WideShapes

theorem opwp_pushN {P : Program} {w : World} {o : Oper} {a : Act} {K : Act → World → Prop} {Q : Exit → Act → World → Prop} (s x : Operand) (t : TypeId)
    (ho : o.op = .call { callee := .builtin .append, args := #[s, x], argTypes := #[t, t] })
    (base : Nat) (e : TypeId) (i : TypeInfo) (z : Value) (size bytes : Nat) (ht : P.underlying t = some (.slice e)) (hi : P.info? e = some i) (hz : i.zero = some z)
    (hsize : i.size = size) (hby : i.bytes = bytes) (hzs : z.cells.size = size) (hsz : 0 < size)
    (v : Value) (n : Nat) (xs : List Value) (hs : a.eval s = v) (hown : w.ownsRow base e size v n xs)
    (ad : Addr) (m c : Nat) (news : List Value) (hx : a.eval x = .slice (some ad) m c) (hl : news.length = m * size) (hnews : ∀ j u, news[j]? = some u → w.cell? (ad.add j) = some u) (h1 : ∀ u ∈ news, u.oneCell' = true)
    (h63 : n + m ≤ maxLen) (hbytes : (n + m) * bytes ≤ 140737488355328) (hbase : base ≤ w.heap.size)
    (h : ∀ v' w', w'.ownsRow base e size v' (n + m) (xs ++ news) → w.grownBy w' v.ownBlock → Fresh w v v' → K (a.put o.dst v') w') : o.wp P a w K Q := by
  obtain ⟨v', w', hr, h2, h3, h4⟩ := run_push (P := P) w base t o.type e i z size bytes ht hi hz hsize hby hzs hsz v n xs hown ad m c news hl hnews h1 h63 hbytes hbase
  unfold Oper.wp execOp
  simp only [ho, resolve, invoke, builtin, Sem.run_bind, Sem.run_pure, Result.andThen_ok, List.map_toArray, List.map_cons, List.map_nil, hs, hx, hr]
  exact h v' w' h2 h3 h4

theorem owns_block {W : World} {base size n : Nat} {e : TypeId} {v : Value} {xs : List Value} (h : W.ownsRow base e size v n xs) {g : Nat} (hg : v.ownBlock = some g) : base ≤ g ∧ ∃ cur, W.heap[g]? = some (.cells cur e (0, 0)) := by
  rcases h.2 with ⟨rfl, _⟩ | ⟨g', cap, cur, rfl, hb, hh, _⟩
  · simp [Value.ownBlock] at hg
  · obtain rfl : g' = g := by simpa [Value.ownBlock] using hg
    exact ⟨hb, cur, hh⟩
theorem grown_other {W W' : World} {base size n k : Nat} {e t : TypeId} {v : Value} {xs : List Value} {cs : Array Value} {fr : Nat × Nat} (hr : W.ownsRow base e size v n xs) (hg : W.grownBy W' v.ownBlock) (hk : W.heap[k]? = some (.cells cs t fr)) (ht : t ≠ e) : W'.heap[k]? = some (.cells cs t fr) := by
  refine (hg.block k (Array.getElem?_eq_some_iff.1 hk).1 (fun e' => ?_)).trans hk
  obtain ⟨_, cur, hc⟩ := owns_block hr e'.symm
  have := hk.symm.trans hc
  simp at this
  exact ht this.2.1
theorem owns_grown {W W' : World} {b1 s1 n1 b2 s2 n2 : Nat} {e1 e2 : TypeId} {v u : Value} {xs ys : List Value} (hr : W.ownsRow b1 e1 s1 v n1 xs) (hg : W.grownBy W' v.ownBlock) (h2 : W.ownsRow b2 e2 s2 u n2 ys) (he : e2 ≠ e1) : W'.ownsRow b2 e2 s2 u n2 ys :=
  ownsRow_keepB h2 fun g hgu => by
    obtain ⟨_, cur, hc⟩ := owns_block h2 hgu
    rw [grown_other hr hg hc he, hc]
theorem owns_store {W : World} {b s n k i : Nat} {e t : TypeId} {v : Value} {xs : List Value} {cs : Array Value} {fr : Nat × Nat} (x : Value) (h : W.ownsRow b e s v n xs) (hk : W.heap[k]? = some (.cells cs t fr)) (ht : t ≠ e) : (W.setCell ⟨k, i, none⟩ x).ownsRow b e s v n xs :=
  ownsRow_keepB h fun g hg => Below.heap_setCell W ⟨k, i, none⟩ x g (by
    rintro rfl
    obtain ⟨_, cur, hc⟩ := owns_block h hg
    have := hk.symm.trans hc
    simp at this
    exact ht this.2.1)
def colsV (l : List Nat) : List Value := l.map fun n => .int .i64 (n : Nat)
theorem colsV_get (l : List Nat) (i : Nat) (h : i < l.length) : (colsV l)[i]? = some (.int .i64 (l[i] : Nat)) := by simp [colsV, h]

structure NestA (W : World) (P B : Nat) (va : Option Addr) (vc : Nat) (ra : Option Addr) (rc : Nat) (out : List TokD) (rw : List Nat) : Prop where
  box : W.heap[P]? = some (.cells #[.slice va out.length vc, .slice ra rw.length rc] 65 (0, 0))
  own1 : W.ownsRow B 39 4 (.slice va out.length vc) out.length (out.flatMap tokC)
  own2 : W.ownsRow B 3 1 (.slice ra rw.length rc) rw.length (colsV rw)
  hBP : B ≤ P
theorem NestA.lt {W : World} {P B vc rc : Nat} {va ra : Option Addr} {out : List TokD} {rw : List Nat} (h : NestA W P B va vc ra rc out rw) : P < W.heap.size := (Array.getElem?_eq_some_iff.1 h.box).1
theorem NestA.below {W W' : World} {P B vc rc : Nat} {va ra : Option Addr} {out : List TokD} {rw : List Nat} (h : NestA W P B va vc ra rc out rw) (hb : Below W.heap.size W W') : NestA W' P B va vc ra rc out rw :=
  ⟨blk_next hb h.box, ownsB h.own1 hb, ownsB h.own2 hb, h.hBP⟩
theorem NestA.cells {W : World} {P B vc rc : Nat} {va ra : Option Addr} {out : List TokD} {rw : List Nat} (h : NestA W P B va vc ra rc out rw) :
    W.cell? ⟨P, 0, none⟩ = some (.slice va out.length vc) ∧ W.cell? ⟨P, 1, none⟩ = some (.slice ra rw.length rc) ∧ W.frozen? ⟨P, 0, none⟩ = false ∧ W.frozen? ⟨P, 1, none⟩ = false := by
  refine ⟨?_, ?_, ?_, ?_⟩ <;> simp [World.cell?, World.frozen?, h.box]
theorem set_at0 {W : World} {P : Nat} {t : TypeId} {a b : Value} (x : Value) (h : W.heap[P]? = some (.cells #[a, b] t (0, 0))) : (W.setCell ⟨P, 0, none⟩ x).heap[P]? = some (.cells #[x, b] t (0, 0)) := by simp [World.setCell, h, Array.getElem?_modify]
theorem set_at1 {W : World} {P : Nat} {t : TypeId} {a b : Value} (x : Value) (h : W.heap[P]? = some (.cells #[a, b] t (0, 0))) : (W.setCell ⟨P, 1, none⟩ x).heap[P]? = some (.cells #[a, x] t (0, 0)) := by simp [World.setCell, h, Array.getElem?_modify]
theorem NestA.pushRow {W W1 : World} {P B vc rc : Nat} {va ra : Option Addr} {out : List TokD} {rw : List Nat} {v' : Value} {c : Nat} (h : NestA W P B va vc ra rc out rw) (hown : W1.ownsRow B 3 1 v' (rw.length + 1) (colsV rw ++ [.int .i64 (c : Nat)])) (hg : W.grownBy W1 (Value.slice ra rw.length rc).ownBlock) :
    ∃ ra' rc', v' = .slice ra' (rw.length + 1) rc' ∧ W1.cell? ⟨P, 1, none⟩ = some (.slice ra rw.length rc) ∧ W1.frozen? ⟨P, 1, none⟩ = false ∧ NestA (W1.setCell ⟨P, 1, none⟩ v') P B va vc ra' rc' out (rw ++ [c]) ∧ Below B W (W1.setCell ⟨P, 1, none⟩ v') := by
  have hbx := grown_other h.own2 hg h.box (by decide)
  obtain ⟨ra', rc', rfl⟩ := (RdS.of_owns hown).form
  refine ⟨ra', rc', rfl, by simp [World.cell?, hbx], by simp [World.frozen?, hbx], ⟨?_, ?_, ?_, h.hBP⟩, ?_⟩
  · rw [List.length_append]; exact set_at1 _ hbx
  · exact owns_store _ (owns_grown h.own2 hg h.own1 (by decide)) hbx (by decide)
  · have := owns_store (i := 1) (.slice ra' (rw.length + 1) rc') hown hbx (by decide)
    rw [List.length_append]
    simpa [colsV] using this
  · exact ((Below.refl B W).grown hg (Nat.le_trans h.hBP (Nat.le_of_lt h.lt)) (fun j hj => (h.own2.lt j hj).1)).setCell (p := ⟨P, 1, none⟩) h.hBP _
theorem NestA.pushOut {W W1 : World} {P B vc rc : Nat} {va ra : Option Addr} {out : List TokD} {rw : List Nat} {v' : Value} {t : TokD} (h : NestA W P B va vc ra rc out rw) (hown : W1.ownsRow B 39 4 v' (out.length + 1) (out.flatMap tokC ++ tokC t)) (hg : W.grownBy W1 (Value.slice va out.length vc).ownBlock) :
    ∃ va' vc', v' = .slice va' (out.length + 1) vc' ∧ W1.cell? ⟨P, 0, none⟩ = some (.slice va out.length vc) ∧ W1.frozen? ⟨P, 0, none⟩ = false ∧ NestA (W1.setCell ⟨P, 0, none⟩ v') P B va' vc' ra rc (out ++ [t]) rw ∧ Below B W (W1.setCell ⟨P, 0, none⟩ v') := by
  have hbx := grown_other h.own1 hg h.box (by decide)
  obtain ⟨va', vc', rfl⟩ := (RdS.of_owns hown).form
  refine ⟨va', vc', rfl, by simp [World.cell?, hbx], by simp [World.frozen?, hbx], ⟨?_, ?_, ?_, h.hBP⟩, ?_⟩
  · rw [List.length_append]; exact set_at0 _ hbx
  · have := owns_store (i := 0) (.slice va' (out.length + 1) vc') hown hbx (by decide)
    rw [List.length_append, List.flatMap_append]
    simpa using this
  · exact owns_store _ (owns_grown h.own1 hg h.own2 (by decide)) hbx (by decide)
  · exact ((Below.refl B W).grown hg (Nat.le_trans h.hBP (Nat.le_of_lt h.lt)) (fun j hj => (h.own1.lt j hj).1)).setCell (p := ⟨P, 0, none⟩) h.hBP _
theorem owns_cut {W : World} {base size n m cap : Nat} {e : TypeId} {a : Option Addr} {xs : List Value} (h : W.ownsRow base e size (.slice a n cap) n xs) (hm : m ≤ n) (ha : a ≠ none) : W.ownsRow base e size (.slice a m cap) m (xs.take (m * size)) := by
  refine ⟨by rw [List.length_take, h.1]; exact Nat.min_eq_left (Nat.mul_le_mul_right _ hm), ?_⟩
  rcases h.2 with ⟨hv, _⟩ | ⟨g, cap', cur, hv, hb, hh, h1, h2, h3, h4⟩
  · injection hv with hv; exact absurd hv ha
  · injection hv with hv1 _ hv3
    subst hv1 hv3
    exact .inr ⟨g, cap, cur, rfl, hb, hh, by omega, h2, h3, by rw [← h4, List.take_take, Nat.min_eq_left (Nat.mul_le_mul_right _ hm)]⟩
theorem NestA.popRow {W : World} {P B vc rc : Nat} {va ra : Option Addr} {out : List TokD} {rw : List Nat} {c : Nat} (h : NestA W P B va vc ra rc out (rw ++ [c])) : NestA (W.setCell ⟨P, 1, none⟩ (.slice ra rw.length rc)) P B va vc ra rc out rw ∧ Below B W (W.setCell ⟨P, 1, none⟩ (.slice ra rw.length rc)) := by
  have h2 := h.own2
  rw [List.length_append, List.length_singleton] at h2
  have hra : ra ≠ none := fun e => by
    subst e
    rcases h2.2 with ⟨_, h0⟩ | ⟨g, cap, cur, hv, _⟩
    · omega
    · cases hv
  have h3 := owns_cut (m := rw.length) h2 (by omega) hra
  refine ⟨⟨set_at1 _ h.box, owns_store _ h.own1 h.box (by decide), ?_, h.hBP⟩, (Below.refl B W).setCell (p := ⟨P, 1, none⟩) h.hBP _⟩
  have : (colsV (rw ++ [c])).take (rw.length * 1) = colsV rw := by
    unfold colsV
    rw [List.map_append, Nat.mul_one]
    exact List.take_left' (by simp)
  rw [this] at h3
  exact owns_store _ h3 h.box (by decide)
abbrev OffN (W : World) (P : Nat) (a b : Value) (G : Nat → Prop) : Prop := ∀ q, G q → q < W.heap.size ∧ q ≠ P ∧ a.ownBlock ≠ some q ∧ b.ownBlock ≠ some q
def KeepG (G : Nat → Prop) (W W' : World) : Prop := ∀ q, G q → W'.heap[q]? = W.heap[q]?
theorem KeepG.trans {G : Nat → Prop} {A B C : World} (h : KeepG G A B) (k : KeepG G B C) : KeepG G A C := fun q hq => (k q hq).trans (h q hq)
theorem OffN.below {W W' : World} {P : Nat} {a b : Value} {G : Nat → Prop} (h : OffN W P a b G) (hb : Below W.heap.size W W') : OffN W' P a b G ∧ KeepG G W W' :=
  ⟨fun q hq => by obtain ⟨h1, h2⟩ := h q hq; exact ⟨Nat.lt_of_lt_of_le h1 hb.size, h2⟩, fun q hq => hb.block q (h q hq).1⟩
theorem OffN.store {W : World} {P i : Nat} {a b : Value} {G : Nat → Prop} (x : Value) (h : OffN W P a b G) : OffN (W.setCell ⟨P, i, none⟩ x) P a b G ∧ KeepG G W (W.setCell ⟨P, i, none⟩ x) :=
  ⟨fun q hq => by obtain ⟨h1, h2⟩ := h q hq; exact ⟨by simpa using h1, h2⟩, fun q hq => Below.heap_setCell W ⟨P, i, none⟩ x q (h q hq).2.1⟩
theorem OffN.push1 {W W1 : World} {P : Nat} {a b v' : Value} {G : Nat → Prop} (h : OffN W P a b G) (hg : W.grownBy W1 a.ownBlock) (hf : Fresh W a v') (i : Nat) : OffN (W1.setCell ⟨P, i, none⟩ v') P v' b G ∧ KeepG G W (W1.setCell ⟨P, i, none⟩ v') := by
  have h1 : OffN W1 P v' b G := fun q hq => by
    obtain ⟨h1, h2, h3, h4⟩ := h q hq
    exact ⟨Nat.lt_of_lt_of_le h1 hg.size, h2, fun e => by rcases hf q e with h5 | h5; exact h3 h5; omega, h4⟩
  exact ⟨(h1.store v').1, fun q hq => ((h1.store (i := i) v').2 q hq).trans (hg.block q (h q hq).1 (fun e => (h q hq).2.2.1 e.symm))⟩
theorem OffN.push2 {W W1 : World} {P : Nat} {a b v' : Value} {G : Nat → Prop} (h : OffN W P a b G) (hg : W.grownBy W1 b.ownBlock) (hf : Fresh W b v') (i : Nat) : OffN (W1.setCell ⟨P, i, none⟩ v') P a v' G ∧ KeepG G W (W1.setCell ⟨P, i, none⟩ v') := by
  have h1 : OffN W1 P a v' G := fun q hq => by
    obtain ⟨h1, h2, h3, h4⟩ := h q hq
    exact ⟨Nat.lt_of_lt_of_le h1 hg.size, h2, h3, fun e => by rcases hf q e with h5 | h5; exact h4 h5; omega⟩
  exact ⟨(h1.store v').1, fun q hq => ((h1.store (i := i) v').2 q hq).trans (hg.block q (h q hq).1 (fun e => (h q hq).2.2.2 e.symm))⟩
theorem OffN.len {W : World} {P : Nat} {va ra : Option Addr} {n n' m m' c c' d d' : Nat} {G : Nat → Prop} (h : OffN W P (.slice va n c) (.slice ra m d) G) : OffN W P (.slice va n' c') (.slice ra m' d') G := fun q hq => by
  obtain ⟨h1, h2, h3, h4⟩ := h q hq
  exact ⟨h1, h2, by cases va <;> exact h3, by cases ra <;> exact h4⟩
theorem Tryz.info_intN : (Tryz.prog.info? 3).map (fun i => (i.zero, i.size, i.bytes)) = some (some (.int .i64 0), 1, 8) := by kernel_rfl
end Go.Proofs.YtdhgcgejdoedbaaGreatDoor

/-
  nest.top, close, open: contracts.
-/
namespace Go.Proofs.YtdhgcgejdoedbaaGreatDoor
open Go.RowKit Go.WideShapes

set_option maxRecDepth 100000 in
set_option maxHeartbeats 4000000 in
theorem tkTop_any (W : World) (P B : Nat) (va : Option Addr) (vc : Nat) (ra : Option Addr) (rc : Nat) (out : List TokD) (rw : List Nat) (c : Nat) (h : NestA W P B va vc ra rc out (rw ++ [c])) (hl : rw.length ≤ 1000) :
    Calls Tryz.prog 43 #[.pointer (some ⟨P, 0, none⟩)] W fun e w' => e = .returned (.int .i64 (c : Nat)) ∧ Below W.heap.size W w' := by
  obtain ⟨p0, p1, -, -⟩ := h.cells
  have hr := RdS.of_owns h.own2
  rcases h.own2.2 with ⟨_, h0⟩ | ⟨g, cap, cur, hv, _, hh, hnc, hcm, hcs, htk⟩
  · simp at h0
  injection hv with hv1 hv2 hv3
  subst hv1 hv3
  rw [List.length_append, List.length_singleton] at p1 hnc
  have z : W.cell? ⟨g, rw.length, none⟩ = some (.int .i64 (c : Nat)) := by
    rcases hr.cases (by decide) with ⟨h0, _⟩ | ⟨_, _, g', off, cap', hq, _, _, h3⟩
    · simp at h0
    · injection hq with q1 _ q3
      injection q1 with q1
      injection q1 with q1 q2 _
      subst q1 q2
      have := h3 rw.length (.int .i64 (c : Nat)) (by rw [colsV_get _ _ (by simp)]; simp)
      simpa using this
  generalize rw.length = m at *
  clear hr hh hcs htk h p0
  have l1 : (m : Int) < (m : Int) + 1 := by omega
  have hw1 : IntKind.i64.wrap (m : Int) = (m : Int) := IntWalk.i64_in _ (by omega)
  go_enter Tryz.func43, Tryz.ntmps43
  go_upto_region 1 with fail
  refine E_region (S := (fun V => V.cell? ⟨P, 1, none⟩ = some (.slice (some ⟨g, 0, none⟩) (m + 1) rc) ∧ V.cell? ⟨g, m, none⟩ = some (.int .i64 (c : Nat)))) 12 (by kernel_rfl) ⟨p1, z⟩ (fun _ _ _ _ _ h => h) (fun Q' hQ hK' hHeld => ?_)
  refine E_take0 hQ (fun _ => hHeld) 0 (v := ?rtv1) rfl rfl (by kernel_rfl) (by kernel_rfl) (by kernel_rfl) (by decide) (by rfl) ?rty1 ?rtr1
  case rty1 => (intro w; go_simp; (try with_reducible rfl))
  (try simp only [layE])
  refine E_take0 hQ (fun _ => hHeld) 1 (v := ?rtv2) rfl rfl (by kernel_rfl) (by kernel_rfl) (by kernel_rfl) (by decide) (by rfl) ?rty2 ?rtr2
  case rty2 => (intro w; go_simp; (try with_reducible rfl))
  (try simp only [layE])
  refine E_take0 hQ (fun _ => hHeld) 2 (v := ?rtv3) rfl rfl (by kernel_rfl) (by kernel_rfl) (by kernel_rfl) (by decide) (by rfl) ?rty3 ?rtr3
  case rty3 => (intro w; go_simp; (try with_reducible rfl))
  (try simp only [layE])
  refine E_take hQ hHeld 3 (v := ?rtv4) rfl rfl (by kernel_rfl) (by kernel_rfl) (by kernel_rfl) (by kernel_rfl) (by kernel_rfl) (by rfl) ?rty4 ?rtr4
  case rty4 => (intro w hSw; (try dsimp only at hSw); go_simp; (try with_reducible rfl))
  (try simp only [layE])
  refine E_take0 hQ (fun _ => hHeld) 4 (v := ?rtv5) rfl rfl (by kernel_rfl) (by kernel_rfl) (by kernel_rfl) (by decide) (by rfl) ?rty5 ?rtr5
  case rty5 => (intro w; go_simp; (try with_reducible rfl))
  (try simp only [layE])
  refine E_take0 hQ (fun _ => hHeld) 5 (v := ?rtv6) rfl rfl (by kernel_rfl) (by kernel_rfl) (by kernel_rfl) (by decide) (by rfl) ?rty6 ?rtr6
  case rty6 => (intro w; go_simp; (try with_reducible rfl))
  (try simp only [layE])
  refine E_take0 hQ (fun _ => hHeld) 6 (v := ?rtv7) rfl rfl (by kernel_rfl) (by kernel_rfl) (by kernel_rfl) (by decide) (by rfl) ?rty7 ?rtr7
  case rty7 => (intro w; go_simp; (try with_reducible rfl))
  (try simp only [layE])
  refine E_take hQ hHeld 7 (v := ?rtv8) rfl rfl (by kernel_rfl) (by kernel_rfl) (by kernel_rfl) (by kernel_rfl) (by kernel_rfl) (by rfl) ?rty8 ?rtr8
  case rty8 => (intro w hSw; (try dsimp only at hSw); go_simp; (try with_reducible rfl))
  (try simp only [layE])
  refine E_take0 hQ (fun _ => hHeld) 8 (v := ?rtv9) rfl rfl (by kernel_rfl) (by kernel_rfl) (by kernel_rfl) (by decide) (by rfl) ?rty9 ?rtr9
  case rty9 => (intro w; go_simp; (try with_reducible rfl))
  (try simp only [layE])
  refine E_take0 hQ (fun _ => hHeld) 9 (v := .int .i64 (m : Int)) rfl rfl (by kernel_rfl) (by kernel_rfl) (by kernel_rfl) (by decide) (by rfl) ?rty10 ?rtr10
  case rty10 => (intro w; go_simp; (try rfl))
  (try simp only [layE])
  refine E_take0 hQ (fun _ => hHeld) 10 (v := ?rtv11) rfl rfl (by kernel_rfl) (by kernel_rfl) (by kernel_rfl) (by decide) (by rfl) ?rty11 ?rtr11
  case rty11 => (intro w; go_simp; (try with_reducible rfl))
  (try simp only [layE])
  refine E_take hQ hHeld 11 (v := ?rtv12) rfl rfl (by kernel_rfl) (by kernel_rfl) (by kernel_rfl) (by kernel_rfl) (by kernel_rfl) (by rfl) ?rty12 ?rtr12
  case rty12 => (intro w hSw; (try dsimp only at hSw); go_simp; (try with_reducible rfl))
  (try simp only [layE])
  refine E_one 12 (by kernel_rfl) rfl (by rfl) (fun K hK => ?_)
  go_simp
  (try simp only [layE])
  refine hK.out _ _ (fun _ h => absurd rfl h) (fun _ => ?_)
  clear hK hHeld
  (try simp only [layE])
  refine E_done (by kernel_rfl) ?_ _
  refine hK'.out _ _ ?_
  go_wp2_with fail
  go_ret
  exact ⟨rfl, (Below.refl _ _).drew⟩

theorem owns_cap {W : World} {b e s n cap : Nat} {a : Option Addr} {xs : List Value} (h : W.ownsRow b e s (.slice a n cap) n xs) : n ≤ cap := by
  rcases h.2 with ⟨hv, h0⟩ | ⟨g, cap', cur, hv, _, _, h1, _⟩
  · injection hv with _ _ hv; omega
  · injection hv with _ _ hv; omega
def closeN (col : Nat) : List Nat → Nat
  | [] => 0
  | c :: rk => if col < c then closeN col rk + 1 else 0
theorem closeN_at (col : Nat) : ∀ (rk : List Nat) (j : Nat) (h : j < rk.length), j ≤ closeN col rk → (j < closeN col rk ↔ col < rk[j])
  | [], j, h, _ => absurd h (by simp)
  | c :: rk, 0, _, _ => by
    unfold closeN
    by_cases hc : col < c
    · rw [if_pos hc]; simp [hc]
    · rw [if_neg hc]; simp [hc]
  | c :: rk, j + 1, h, h1 => by
    unfold closeN at h1 ⊢
    by_cases hc : col < c
    · rw [if_pos hc] at h1 ⊢
      have := closeN_at col rk j (by simpa using h) (by omega)
      simp only [List.getElem_cons_succ]
      rw [← this]; omega
    · rw [if_neg hc] at h1; omega
def NestR (W : World) (P B : Nat) (out : List TokD) (rk : List Nat) (G : Nat → Prop) : Prop := ∃ va vc ra rc, NestA W P B va vc ra rc out rk.reverse ∧ OffN W P (.slice va out.length vc) (.slice ra rk.length rc) G
theorem NestR.below {W W' : World} {P B : Nat} {out : List TokD} {rk : List Nat} {G : Nat → Prop} (h : NestR W P B out rk G) (hb : Below W.heap.size W W') : NestR W' P B out rk G ∧ KeepG G W W' := by
  obtain ⟨va, vc, ra, rc, h, ho⟩ := h
  exact ⟨⟨va, vc, ra, rc, h.below hb, (ho.below hb).1⟩, (ho.below hb).2⟩
theorem tkTopR_any (W : World) (P B : Nat) (out : List TokD) (c : Nat) (rk : List Nat) {G : Nat → Prop} (h : NestR W P B out (c :: rk) G) (hl : rk.length ≤ 1000) :
    Calls Tryz.prog 43 #[.pointer (some ⟨P, 0, none⟩)] W fun e w' => e = .returned (.int .i64 (c : Nat)) ∧ Below W.heap.size W w' := by
  obtain ⟨va, vc, ra, rc, h, _⟩ := h
  rw [List.reverse_cons] at h
  exact tkTop_any W P B va vc ra rc out rk.reverse c h (by rw [List.length_reverse]; exact hl)
theorem drop_at {l : List Nat} {j : Nat} (h : j < l.length) : l.drop j = l[j] :: l.drop (j + 1) := List.drop_eq_getElem_cons h

set_option maxRecDepth 100000 in
set_option maxHeartbeats 4000000 in
theorem tkClose_any (w : World) (P B : Nat) (out : List TokD) (rk : List Nat) (at_ col to_ : Nat) (G : Nat → Prop) (h : NestR w P B out rk G) (hlt : closeN col rk < rk.length) (hl : rk.length ≤ 100) (ho : out.length ≤ 1000000) :
    Calls Tryz.prog 24 #[.pointer (some ⟨P, 0, none⟩), .int .i64 (at_ : Nat), .int .i64 (col : Nat), .int .i64 (to_ : Nat)] w fun e w' => e = .returned (.tuple #[]) ∧ NestR w' P B (out ++ List.replicate (closeN col rk) (2, { data := #[] }, at_, to_)) (rk.drop (closeN col rk)) G ∧ Below B w w' ∧ KeepG G w w' := by
  obtain ⟨i0, hi, hz0, hz1, hz2⟩ := info_parts Tryz.info_tok
  have HAT := Lib.hid (closeN_at col rk)
  have hBw : B ≤ w.heap.size := by obtain ⟨_, _, _, _, q, _⟩ := h; exact Nat.le_trans q.hBP (Nat.le_of_lt q.lt)
  have HN0 := Lib.hid h
  clear h
  go_enter Tryz.func24, Tryz.ntmps24
  go_wp2_with fail
  go_loopg [] (closeN col rk + 1) (fun gk wr => ∃ j : Nat, j + gk = closeN col rk + 1 ∧ j ≤ closeN col rk ∧ Hid (NestR wr P B (out ++ List.replicate j (2, { data := #[] }, at_, to_)) (rk.drop j) G) ∧ Hid (Below B w wr) ∧ Hid (KeepG G w wr))
  case atStart => exact ⟨0, by omega, by omega, by simpa using HN0, Lib.hid (Below.refl _ _), Lib.hid (fun _ _ => rfl)⟩
  case round =>
    obtain ⟨j, hgk, hj, HN, HB, HKG⟩ := hrel
    have hg : gk = closeN col rk + 1 - j := by omega
    subst hg
    have hjl : j < rk.length := by omega
    have hdr := drop_at hjl
    have hiff := HAT.out j hjl hj
    have hn := HN.out
    rw [hdr] at hn
    have HN1 := Lib.hid hn
    have hdl : (rk.drop (j + 1)).length ≤ 100 := by simp; omega
    have HSU : Hid (out ++ List.replicate (j + 1) (2, { data := #[] }, at_, to_) = (out ++ List.replicate j (2, { data := #[] }, at_, to_)) ++ [((2, { data := #[] }, at_, to_) : TokD)]) := Lib.hid (by rw [List.replicate_succ', List.append_assoc])
    have hol : (out ++ List.replicate j ((2, { data := #[] }, at_, to_) : TokD)).length ≤ 1000100 := by simp; omega
    have HEND : Hid (j = closeN col rk → NestR wr P B (out ++ List.replicate (closeN col rk) (2, { data := #[] }, at_, to_)) (rk.drop (closeN col rk)) G) := Lib.hid (fun e => by rw [← e]; exact HN.out)
    have HTP := Lib.hid (tkTopR_any wr P B _ _ _ HN1.out (by omega))
    clear hn HN
    generalize hrd : rk.drop (j + 1) = rd at *
    have HRD := Lib.hid hrd
    clear hrd
    generalize rk[j] = c at *
    generalize hoj : out ++ List.replicate j ((2, { data := #[] }, at_, to_) : TokD) = oj at *
    go_wp2_with fail
    refine HTP.out.mono ?_
    rintro e w1 ⟨rfl, hb1⟩
    have HB1 := Lib.hid (bthen HB.out hBw hb1)
    by_cases hc : col < c
    · have d1 : decide ((col : Int) < (c : Int)) = true := decide_eq_true (by omega)
      have hjc : j < closeN col rk := hiff.2 hc
      have HKG1 := Lib.hid (HKG.out.trans (HN1.out.below hb1).2)
      obtain ⟨va, vc, ra, rc, hA, hO⟩ := (HN1.out.below hb1).1
      rw [List.reverse_cons] at hA
      rw [List.length_cons] at hO
      have hrl : rd.length ≤ 100 := hdl
      obtain ⟨hA2, hB2⟩ := hA.popRow
      obtain ⟨p0, p1, p2, p3⟩ := hA.cells
      rw [List.length_append, List.length_singleton] at p1
      have hAP := hA.lt
      have hcap := owns_cap hA.own2
      rw [List.length_append, List.length_singleton] at hcap
      have HA2 := Lib.hid (hA2.below (Below.refl _ _).drew)
      have HB2 := Lib.hid (HB1.out.trans (hB2.drew))
      clear hA hA2 hB2 hb1
      have hO2 := (OffN.store (i := 1) (.slice ra rd.length rc) hO)
      have hO3 := (OffN.below (W' := (w1.setCell ⟨P, 1, none⟩ (.slice ra rd.length rc)).drew) (OffN.len (n' := oj.length) (c' := vc) (m' := rd.length) (d' := rc) hO2.1) ((Below.refl _ _).drew))
      have HO3 : Hid (OffN (w1.setCell ⟨P, 1, none⟩ (.slice ra rd.length rc)).drew P (.slice va oj.length vc) (.slice ra rd.length rc) G) := Lib.hid hO3.1
      have HKG2 := Lib.hid (HKG1.out.trans (hO2.2.trans hO3.2))
      clear hO hO2 hO3
      rw [List.length_reverse] at *
      generalize hml : rd.length = m at *
      clear hml
      have hw1 : IntKind.i64.wrap (m : Int) = (m : Int) := IntWalk.i64_in _ (by omega)
      have l0 : (m : Int) ≤ (m : Int) + 1 := by omega
      have l1 : m ≤ rc := by omega
      go_upto_region 1 with fail
      refine E_region (S := (fun V => V.cell? ⟨P, 1, none⟩ = some (.slice ra (m + 1) rc) ∧ V.frozen? ⟨P, 1, none⟩ = false)) 14 (by kernel_rfl) ⟨p1, p3⟩ (fun _ _ _ _ _ h => h) (fun Q' hQ hK' hHeld => ?_)
      refine E_take0 hQ (fun _ => hHeld) 0 (v := ?rcv1) rfl rfl (by kernel_rfl) (by kernel_rfl) (by kernel_rfl) (by decide) (by rfl) ?rcy1 ?rcr1
      case rcy1 => (intro w; go_simp; (try with_reducible rfl))
      (try simp only [layE])
      refine E_take0 hQ (fun _ => hHeld) 1 (v := ?rcv2) rfl rfl (by kernel_rfl) (by kernel_rfl) (by kernel_rfl) (by decide) (by rfl) ?rcy2 ?rcr2
      case rcy2 => (intro w; go_simp; (try with_reducible rfl))
      (try simp only [layE])
      refine E_take0 hQ (fun _ => hHeld) 2 (v := ?rcv3) rfl rfl (by kernel_rfl) (by kernel_rfl) (by kernel_rfl) (by decide) (by rfl) ?rcy3 ?rcr3
      case rcy3 => (intro w; go_simp; (try with_reducible rfl))
      (try simp only [layE])
      refine E_take0 hQ (fun _ => hHeld) 3 (v := ?rcv4) rfl rfl (by kernel_rfl) (by kernel_rfl) (by kernel_rfl) (by decide) (by rfl) ?rcy4 ?rcr4
      case rcy4 => (intro w; go_simp; (try with_reducible rfl))
      (try simp only [layE])
      refine E_take hQ hHeld 4 (v := ?rcv5) rfl rfl (by kernel_rfl) (by kernel_rfl) (by kernel_rfl) (by kernel_rfl) (by kernel_rfl) (by rfl) ?rcy5 ?rcr5
      case rcy5 => (intro w hSw; (try dsimp only at hSw); go_simp; (try with_reducible rfl))
      (try simp only [layE])
      refine E_take0 hQ (fun _ => hHeld) 5 (v := ?rcv6) rfl rfl (by kernel_rfl) (by kernel_rfl) (by kernel_rfl) (by decide) (by rfl) ?rcy6 ?rcr6
      case rcy6 => (intro w; go_simp; (try with_reducible rfl))
      (try simp only [layE])
      refine E_take0 hQ (fun _ => hHeld) 6 (v := ?rcv7) rfl rfl (by kernel_rfl) (by kernel_rfl) (by kernel_rfl) (by decide) (by rfl) ?rcy7 ?rcr7
      case rcy7 => (intro w; go_simp; (try with_reducible rfl))
      (try simp only [layE])
      refine E_take0 hQ (fun _ => hHeld) 7 (v := ?rcv8) rfl rfl (by kernel_rfl) (by kernel_rfl) (by kernel_rfl) (by decide) (by rfl) ?rcy8 ?rcr8
      case rcy8 => (intro w; go_simp; (try with_reducible rfl))
      (try simp only [layE])
      refine E_take hQ hHeld 8 (v := ?rcv9) rfl rfl (by kernel_rfl) (by kernel_rfl) (by kernel_rfl) (by kernel_rfl) (by kernel_rfl) (by rfl) ?rcy9 ?rcr9
      case rcy9 => (intro w hSw; (try dsimp only at hSw); go_simp; (try with_reducible rfl))
      (try simp only [layE])
      refine E_take0 hQ (fun _ => hHeld) 9 (v := ?rcv10) rfl rfl (by kernel_rfl) (by kernel_rfl) (by kernel_rfl) (by decide) (by rfl) ?rcy10 ?rcr10
      case rcy10 => (intro w; go_simp; (try with_reducible rfl))
      (try simp only [layE])
      refine E_take0 hQ (fun _ => hHeld) 10 (v := .int .i64 (m : Int)) rfl rfl (by kernel_rfl) (by kernel_rfl) (by kernel_rfl) (by decide) (by rfl) ?rcy11 ?rcr11
      case rcy11 => (intro w; go_simp; (try rfl))
      (try simp only [layE])
      refine E_take0 hQ (fun _ => hHeld) 11 (v := ?rcv12) rfl rfl (by kernel_rfl) (by kernel_rfl) (by kernel_rfl) (by decide) (by rfl) ?rcy12 ?rcr12
      case rcy12 => (intro w; go_simp; (try with_reducible rfl))
      (try simp only [layE])
      refine E_take0 hQ (fun _ => hHeld) 12 (v := ?rcv13) rfl rfl (by kernel_rfl) (by kernel_rfl) (by kernel_rfl) (by decide) (by rfl) ?rcy13 ?rcr13
      case rcy13 => (intro w; go_simp; (try with_reducible rfl))
      (try simp only [layE])
      refine E_take0 hQ (fun _ => hHeld) 13 (v := ?rcv14) rfl rfl (by kernel_rfl) (by kernel_rfl) (by kernel_rfl) (by decide) (by rfl) ?rcy14 ?rcr14
      case rcy14 => (intro w; go_simp; (try with_reducible rfl))
      (try simp only [layE])
      refine E_one 14 (by kernel_rfl) rfl (by rfl) (fun K hK => ?_)
      have e1 := hHeld.1
      have e2 := hHeld.2
      go_simp
      (try simp only [layE])
      refine hK.out _ _ (fun _ h => absurd rfl h) (fun _ => ?_)
      clear hK hHeld
      (try simp only [layE])
      refine E_done (by kernel_rfl) ?_ _
      refine hK'.out _ _ ?_
      have hs2 : P < (w1.setCell ⟨P, 1, none⟩ (.slice ra m rc)).drew.heap.size := HA2.out.lt
      generalize (w1.setCell ⟨P, 1, none⟩ (.slice ra m rc)).drew = w2 at *
      clear p0 p1 p2 p3
      obtain ⟨p0, p1, p2, p3⟩ := HA2.out.cells
      have hBP := HA2.out.hBP
      go_wp2_with (at_builtin; go_must (refine wpList_push rfl _ _ 31 rfl B 39 i0 (.agg #[.int .u8 0, .string { data := #[] }, .int .i64 0, .int .i64 0]) 4 40 Tryz.underlying31 hi hz0 hz1 hz2 rfl (by decide) _ _ _ rfl (HA2.out.own1.alloc _) ⟨w2.heap.size, 0, none⟩ 1 1 [_, _, _, _] rfl rfl (new4 _ _ _ _ _ _) (by simp [Value.oneCell']) (by unfold maxLen; omega) (by omega) (by simp; omega) ?_; intro v' w5 hown' hgrow hfr; obtain ⟨va', vc', rfl, e3, e4, hA5, hB5⟩ := NestA.pushOut (t := (2, { data := #[] }, at_, to_)) (HA2.out.below ((Below.refl _ _).alloc (Nat.le_refl _) _)) hown' hgrow; have hOA := (OffN.below HO3.out ((Below.refl _ _).alloc (Nat.le_refl _) (.cells #[.int .u8 2, .string { data := #[] }, .int .i64 (at_ : Nat), .int .i64 (to_ : Nat)] 39))); have hO5 := OffN.push1 hOA.1 hgrow hfr 0; have HO5 := Lib.hid hO5.1; have HKG5 := Lib.hid (HKG2.out.trans (hOA.2.trans hO5.2)); clear hOA hO5; have HA5 := Lib.hid hA5; have HB5 := Lib.hid hB5; clear hown' hgrow hfr hA5 hB5))
      go_roundg (closeN col rk + 1 - (j + 1))
      case measure => omega
      case rel => exact ⟨j + 1, by omega, by omega, Lib.hid (by rw [HSU.out, HRD.out]; exact ⟨_, _, _, _, HA5.out, by rw [List.length_append]; exact OffN.len HO5.out⟩), Lib.hid (HB2.out.trans ((((Below.refl B w2).alloc (by omega) _)).trans HB5.out)), HKG5⟩
    · have d1 : decide ((col : Int) < (c : Int)) = false := decide_eq_false (by omega)
      have hjc : j = closeN col rk := by
        have : ¬ j < closeN col rk := fun h => hc (hiff.1 h)
        omega
      have hE := ((HEND.out hjc).below hb1).1
      have HKE := Lib.hid (HKG.out.trans ((HEND.out hjc).below hb1).2)
      have HE := Lib.hid hE
      clear hE hb1
      go_wp2_with fail
      go_end0
      exact ⟨rfl, HE.out, HB1.out, HKE.out⟩
end Go.Proofs.YtdhgcgejdoedbaaGreatDoor

/-
  nest.open: contract.
-/
namespace Go.Proofs.YtdhgcgejdoedbaaGreatDoor
open Go.RowKit Go.WideShapes

structure NX (w : World) (P B : Nat) (va : Option Addr) (vc : Nat) (ra : Option Addr) (rc : Nat) (out : List TokD) (rw : List Nat) (G : Nat → Prop) (V : World) : Prop where
  n : NestA V P B va vc ra rc out rw
  o : OffN V P (.slice va out.length vc) (.slice ra rw.length rc) G
  k : KeepG G w V
  b : Below B w V
  hB : B ≤ w.heap.size
section
variable {w V : World} {P B vc rc : Nat} {va ra : Option Addr} {out : List TokD} {rw : List Nat} {G : Nat → Prop}
theorem NX.cell (h : NX w P B va vc ra rc out rw G V) {q i : Nat} (hq : G q) : V.cell? ⟨q, i, none⟩ = w.cell? ⟨q, i, none⟩ := by simp [World.cell?, h.k q hq]
theorem NX.hBV (h : NX w P B va vc ra rc out rw G V) : B ≤ V.heap.size := Nat.le_trans h.hB h.b.size
theorem NX.below (h : NX w P B va vc ra rc out rw G V) {V' : World} (hb : Below V.heap.size V V') : NX w P B va vc ra rc out rw G V' :=
  ⟨h.n.below hb, (h.o.below hb).1, h.k.trans (h.o.below hb).2, bthen h.b h.hB hb, h.hB⟩
theorem NX.pushRow (h : NX w P B va vc ra rc out rw G V) {V1 : World} {v' : Value} {c : Nat} (hown : V1.ownsRow B 3 1 v' (rw.length + 1) (colsV rw ++ [.int .i64 (c : Nat)])) (hg : V.grownBy V1 (Value.slice ra rw.length rc).ownBlock) (hf : Fresh V (.slice ra rw.length rc) v') :
    ∃ ra' rc', v' = .slice ra' (rw.length + 1) rc' ∧ V1.cell? ⟨P, 1, none⟩ = some (.slice ra rw.length rc) ∧ V1.frozen? ⟨P, 1, none⟩ = false ∧ NX w P B va vc ra' rc' out (rw ++ [c]) G (V1.setCell ⟨P, 1, none⟩ v') := by
  obtain ⟨ra', rc', rfl, h1, h2, h3, h4⟩ := h.n.pushRow hown hg
  obtain ⟨h5, h6⟩ := OffN.push2 h.o hg hf 1
  exact ⟨ra', rc', rfl, h1, h2, h3, OffN.len h5, h.k.trans h6, h.b.trans h4, h.hB⟩
theorem NX.pushOut (h : NX w P B va vc ra rc out rw G V) {V1 : World} {v' : Value} {t : TokD} (hown : V1.ownsRow B 39 4 v' (out.length + 1) (out.flatMap tokC ++ tokC t)) (hg : V.grownBy V1 (Value.slice va out.length vc).ownBlock) (hf : Fresh V (.slice va out.length vc) v') :
    ∃ va' vc', v' = .slice va' (out.length + 1) vc' ∧ V1.cell? ⟨P, 0, none⟩ = some (.slice va out.length vc) ∧ V1.frozen? ⟨P, 0, none⟩ = false ∧ NX w P B va' vc' ra rc (out ++ [t]) rw G (V1.setCell ⟨P, 0, none⟩ v') := by
  obtain ⟨va', vc', rfl, h1, h2, h3, h4⟩ := h.n.pushOut hown hg
  obtain ⟨h5, h6⟩ := OffN.push1 h.o hg hf 0
  exact ⟨va', vc', rfl, h1, h2, h3, OffN.len h5, h.k.trans h6, h.b.trans h4, h.hB⟩
end
theorem NestR.x {w : World} {P B : Nat} {out : List TokD} {rk : List Nat} {G : Nat → Prop} (h : NestR w P B out rk G) : ∃ va vc ra rc, NX w P B va vc ra rc out rk.reverse G w := by
  obtain ⟨va, vc, ra, rc, h1, h2⟩ := h
  exact ⟨va, vc, ra, rc, h1, OffN.len h2, fun _ _ => rfl, Below.refl _ _, Nat.le_trans h1.hBP (Nat.le_of_lt h1.lt)⟩
theorem NX.r {w V : World} {P B vc rc : Nat} {va ra : Option Addr} {out : List TokD} {rk : List Nat} {G : Nat → Prop} (h : NX w P B va vc ra rc out rk.reverse G V) : NestR V P B out rk G := ⟨va, vc, ra, rc, h.n, OffN.len h.o⟩
theorem NX.more {w : World} {P B vc rc : Nat} {va ra : Option Addr} {out : List TokD} {rw : List Nat} {G : Nat → Prop} (h : NX w P B va vc ra rc out rw G w) {w0 : World} (hb : Below w.heap.size w w0) {X : Nat} (hX : w.heap.size ≤ X) (hX' : X < w0.heap.size) : NX w0 P B va vc ra rc out rw (fun q => G q ∨ q = X) w0 := by
  refine ⟨h.n.below hb, ?_, fun _ _ => rfl, Below.refl _ _, Nat.le_trans h.hB hb.size⟩
  intro q hq
  rcases hq with hq | rfl
  · exact (h.o.below hb).1 q hq
  · refine ⟨hX', fun e => ?_, fun e => ?_, fun e => ?_⟩
    · subst e; exact absurd h.n.lt (by omega)
    · exact absurd (h.n.own1.lt q e).2 (by omega)
    · exact absurd (h.n.own2.lt q e).2 (by omega)

set_option maxRecDepth 100000 in
set_option maxHeartbeats 4000000 in
theorem tkOpen_any (w : World) (P B : Nat) (out : List TokD) (rk : List Nat) (t : TokD) (G : Nat → Prop) (h : NestR w P B out rk G) (hl : rk.length + 1 ≤ 16) (ho : out.length ≤ 1000000) :
    Calls Tryz.prog 44 #[.pointer (some ⟨P, 0, none⟩), tokA t] w fun e w' => e = .returned (.int .i64 0) ∧ NestR w' P B (out ++ [(1, { data := #[] }, t.2.2.1, t.2.2.2)]) (t.2.2.2 :: rk) G ∧ Below B w w' ∧ KeepG G w w' := by
  obtain ⟨i0, hi, hz0, hz1, hz2⟩ := info_parts Tryz.info_tok
  obtain ⟨j0, hj, hy0, hy1, hy2⟩ := info_parts Tryz.info_intN
  obtain ⟨va, vc, ra, rc, hN⟩ := h.x
  clear h
  have hal : Below w.heap.size w (w.alloc (.cells #[.int .u8 (t.1 : Nat), .string t.2.1, .int .i64 (t.2.2.1 : Nat), .int .i64 (t.2.2.2 : Nat)] 39)) := (Below.refl _ _).alloc (Nat.le_refl _) _
  have hsz : (w.alloc (.cells #[.int .u8 (t.1 : Nat), .string t.2.1, .int .i64 (t.2.2.1 : Nat), .int .i64 (t.2.2.2 : Nat)] 39)).heap.size = w.heap.size + 1 := by simp
  have hnew := World.alloc_heap_new w (.cells #[.int .u8 (t.1 : Nat), .string t.2.1, .int .i64 (t.2.2.1 : Nat), .int .i64 (t.2.2.2 : Nat)] 39)
  have HN := Lib.hid (hN.more hal (Nat.le_refl _) (by omega))
  have hBw : B ≤ w.heap.size := hN.hB
  have HK0 : Hid (KeepG G w (w.alloc (.cells #[.int .u8 (t.1 : Nat), .string t.2.1, .int .i64 (t.2.2.1 : Nat), .int .i64 (t.2.2.2 : Nat)] 39)) ∧ Below B w (w.alloc (.cells #[.int .u8 (t.1 : Nat), .string t.2.1, .int .i64 (t.2.2.1 : Nat), .int .i64 (t.2.2.2 : Nat)] 39))) := Lib.hid ⟨(hN.o.below hal).2, bthen (Below.refl _ _) hBw hal⟩
  clear hN
  unfold tokA
  go_enter Tryz.func44, Tryz.ntmps44
  go_upto_region 1 with fail
  generalize hX : w.heap.size = X at *
  generalize (w.alloc (.cells #[.int .u8 (t.1 : Nat), .string t.2.1, .int .i64 (t.2.2.1 : Nat), .int .i64 (t.2.2.2 : Nat)] 39)) = w0 at *
  have hx2 : w0.cell? ⟨X, 2, none⟩ = some (.int .i64 (t.2.2.1 : Nat)) := by simp [World.cell?, hnew]
  have hx3 : w0.cell? ⟨X, 3, none⟩ = some (.int .i64 (t.2.2.2 : Nat)) := by simp [World.cell?, hnew]
  generalize hG : (fun q => G q ∨ q = X) = G' at *
  have hGX : G' X := hG ▸ .inr rfl
  have hlr : rk.reverse.length + 1 ≤ 16 := by rw [List.length_reverse]; exact hl
  have HR : Hid (rk.reverse ++ [t.2.2.2] = (t.2.2.2 :: rk).reverse) := Lib.hid (by simp)
  generalize rk.reverse = rw at *
  refine E_region (S := (fun V => (V.cell? ⟨P, 1, none⟩ = some (.slice ra rw.length rc) ∧ V.cell? ⟨X, 3, none⟩ = some (.int .i64 (t.2.2.2 : Nat))) ∧ Hid (NX w0 P B va vc ra rc out rw G' V))) 8 (by kernel_rfl) (⟨⟨(HN.out.below (Below.refl _ _).drew).n.cells.2.1, ((HN.out.below (Below.refl _ _).drew).cell hGX).trans hx3⟩, Lib.hid (HN.out.below (Below.refl _ _).drew)⟩) (fun _ _ _ _ _ h => h) (fun Q' hQ hK' hHeld => ?_)
  refine E_take0 hQ (fun _ => hHeld) 0 (v := ?rov1) rfl rfl (by kernel_rfl) (by kernel_rfl) (by kernel_rfl) (by decide) (by rfl) ?roy1 ?ror1
  case roy1 => (intro w; go_simp; (try with_reducible rfl))
  (try simp only [layE])
  refine E_take0 hQ (fun _ => hHeld) 1 (v := ?rov2) rfl rfl (by kernel_rfl) (by kernel_rfl) (by kernel_rfl) (by decide) (by rfl) ?roy2 ?ror2
  case roy2 => (intro w; go_simp; (try with_reducible rfl))
  (try simp only [layE])
  refine E_take0 hQ (fun _ => hHeld) 2 (v := ?rov3) rfl rfl (by kernel_rfl) (by kernel_rfl) (by kernel_rfl) (by decide) (by rfl) ?roy3 ?ror3
  case roy3 => (intro w; go_simp; (try with_reducible rfl))
  (try simp only [layE])
  refine E_take0 hQ (fun _ => hHeld) 3 (v := ?rov4) rfl rfl (by kernel_rfl) (by kernel_rfl) (by kernel_rfl) (by decide) (by rfl) ?roy4 ?ror4
  case roy4 => (intro w; go_simp; (try with_reducible rfl))
  (try simp only [layE])
  refine E_take hQ hHeld 4 (v := ?rov5) rfl rfl (by kernel_rfl) (by kernel_rfl) (by kernel_rfl) (by kernel_rfl) (by kernel_rfl) (by rfl) ?roy5 ?ror5
  case roy5 => (intro w hSw; (try dsimp only at hSw); go_simp; (try with_reducible rfl))
  (try simp only [layE])
  refine E_take0 hQ (fun _ => hHeld) 5 (v := ?rov6) rfl rfl (by kernel_rfl) (by kernel_rfl) (by kernel_rfl) (by decide) (by rfl) ?roy6 ?ror6
  case roy6 => (intro w; go_simp; (try with_reducible rfl))
  (try simp only [layE])
  refine E_take hQ hHeld 6 (v := ?rov7) rfl rfl (by kernel_rfl) (by kernel_rfl) (by kernel_rfl) (by kernel_rfl) (by kernel_rfl) (by rfl) ?roy7 ?ror7
  case roy7 => (intro w hSw; (try dsimp only at hSw); go_simp; (try with_reducible rfl))
  (try simp only [layE])
  refine E_one 7 (by kernel_rfl) rfl (by rfl) (fun K hK => ?_)
  generalize w0.drew = w3 at *
  have hal7 : Below w3.heap.size w3 (w3.alloc (.cells #[.int .i64 (t.2.2.2 : Nat)] 3)) := (Below.refl _ _).alloc (Nat.le_refl _) _
  have HN7 := Lib.hid (hHeld.2.out.below hal7)
  have hBw3 : B ≤ w3.heap.size := Nat.le_trans HN7.out.n.hBP (Nat.le_of_lt hHeld.2.out.n.lt)
  have hsz3 : (w3.alloc (.cells #[.int .i64 (t.2.2.2 : Nat)] 3)).heap.size = w3.heap.size + 1 := by simp
  go_simp
  (try simp only [layE])
  refine hK.out _ _ (fun _ _ => ⟨⟨(HN7.out).n.cells.2.1, ((HN7.out).cell hGX).trans hx3⟩, Lib.hid (HN7.out)⟩) (fun hHeld' => ?_)
  replace hHeld := hHeld' (by rfl) (by decide)
  clear hK hHeld'
  (try simp only [layE])
  refine E_one 8 (by kernel_rfl) rfl (by rfl) (fun K hK => ?_)
  refine opwp_pushN _ _ 63 rfl B 3 j0 (.int .i64 0) 1 8 Tryz.underlying63 hj hy0 hy1 hy2 rfl (by decide) _ (rw.length) (colsV rw) rfl HN7.out.n.own2 ⟨w3.heap.size, 0, none⟩ 1 1 [_] rfl rfl (cell_one_new _ _ _) (by simp [Value.oneCell']) (by unfold maxLen; omega) (by omega) (by omega) ?_
  intro v' w5 hown' hgrow hfr
  obtain ⟨ra', rc', rfl, e1, e2, hA5⟩ := NX.pushRow HN7.out hown' hgrow hfr
  have HA5 := Lib.hid hA5
  clear hown' hgrow hfr hA5 HN7 hal7 hsz3
  (try simp only [layE])
  refine hK.out _ _ (fun _ h => absurd rfl h) (fun _ => ?_)
  clear hK hHeld
  (try simp only [layE])
  refine E_take0 hQ (fun h => absurd h (by decide)) 9 (v := ?rov8) rfl rfl (by kernel_rfl) (by kernel_rfl) (by kernel_rfl) (by decide) (by rfl) ?roy8 ?ror8
  case roy8 => (intro w; go_simp; (try with_reducible rfl))
  (try simp only [layE])
  refine E_take0 hQ (fun h => absurd h (by decide)) 10 (v := ?rov9) rfl rfl (by kernel_rfl) (by kernel_rfl) (by kernel_rfl) (by decide) (by rfl) ?roy9 ?ror9
  case roy9 => (intro w; go_simp; (try with_reducible rfl))
  (try simp only [layE])
  refine E_one 11 (by kernel_rfl) rfl (by rfl) (fun K hK => ?_)
  go_simp
  (try simp only [layE])
  refine hK.out _ _ (fun h => absurd h (by decide)) (fun _ => ?_)
  clear hK
  (try simp only [layE])
  refine E_done (by kernel_rfl) ?_ _
  refine hK'.out _ _ ?_
  have HN6 := HA5
  clear e1 e2 HN
  generalize hrb : ra' = rb at *
  generalize hrd : rc' = rd at *
  generalize (w5.setCell ⟨P, 1, none⟩ (.slice rb (rw.length + 1) rd)) = w6 at *
  obtain ⟨p0, p1, p2, p3⟩ := HN6.out.n.cells
  have hd16 : decide (((rw.length + 1 : Nat) : Int) > 16) = false := decide_eq_false (by omega)
  rw [List.length_append, List.length_singleton] at p1
  go_upto_region 4 with fail
  refine E_region (S := (fun V => (V.cell? ⟨P, 0, none⟩ = some (.slice va out.length vc) ∧ V.cell? ⟨X, 2, none⟩ = some (.int .i64 (t.2.2.1 : Nat)) ∧ V.cell? ⟨X, 3, none⟩ = some (.int .i64 (t.2.2.2 : Nat))) ∧ Hid (NX w0 P B va vc rb rd out (rw ++ [t.2.2.2]) G' V))) 11 (by kernel_rfl) (⟨⟨(HN6.out.below (Below.refl _ _).drew).n.cells.1, ((HN6.out.below (Below.refl _ _).drew).cell hGX).trans hx2, ((HN6.out.below (Below.refl _ _).drew).cell hGX).trans hx3⟩, Lib.hid (HN6.out.below (Below.refl _ _).drew)⟩) (fun _ _ _ _ _ h => h) (fun Q' hQ hK' hHeld => ?_)
  refine E_take0 hQ (fun _ => hHeld) 0 (v := ?rpv1) rfl rfl (by kernel_rfl) (by kernel_rfl) (by kernel_rfl) (by decide) (by rfl) ?rpy1 ?rpr1
  case rpy1 => (intro w; go_simp; (try with_reducible rfl))
  (try simp only [layE])
  refine E_take0 hQ (fun _ => hHeld) 1 (v := ?rpv2) rfl rfl (by kernel_rfl) (by kernel_rfl) (by kernel_rfl) (by decide) (by rfl) ?rpy2 ?rpr2
  case rpy2 => (intro w; go_simp; (try with_reducible rfl))
  (try simp only [layE])
  refine E_take0 hQ (fun _ => hHeld) 2 (v := ?rpv3) rfl rfl (by kernel_rfl) (by kernel_rfl) (by kernel_rfl) (by decide) (by rfl) ?rpy3 ?rpr3
  case rpy3 => (intro w; go_simp; (try with_reducible rfl))
  (try simp only [layE])
  refine E_take0 hQ (fun _ => hHeld) 3 (v := ?rpv4) rfl rfl (by kernel_rfl) (by kernel_rfl) (by kernel_rfl) (by decide) (by rfl) ?rpy4 ?rpr4
  case rpy4 => (intro w; go_simp; (try with_reducible rfl))
  (try simp only [layE])
  refine E_take hQ hHeld 4 (v := ?rpv5) rfl rfl (by kernel_rfl) (by kernel_rfl) (by kernel_rfl) (by kernel_rfl) (by kernel_rfl) (by rfl) ?rpy5 ?rpr5
  case rpy5 => (intro w hSw; (try dsimp only at hSw); go_simp; (try with_reducible rfl))
  (try simp only [layE])
  refine E_take0 hQ (fun _ => hHeld) 5 (v := ?rpv6) rfl rfl (by kernel_rfl) (by kernel_rfl) (by kernel_rfl) (by decide) (by rfl) ?rpy6 ?rpr6
  case rpy6 => (intro w; go_simp; (try with_reducible rfl))
  (try simp only [layE])
  refine E_take hQ hHeld 6 (v := ?rpv7) rfl rfl (by kernel_rfl) (by kernel_rfl) (by kernel_rfl) (by kernel_rfl) (by kernel_rfl) (by rfl) ?rpy7 ?rpr7
  case rpy7 => (intro w hSw; (try dsimp only at hSw); go_simp; (try with_reducible rfl))
  (try simp only [layE])
  refine E_take0 hQ (fun _ => hHeld) 7 (v := ?rpv8) rfl rfl (by kernel_rfl) (by kernel_rfl) (by kernel_rfl) (by decide) (by rfl) ?rpy8 ?rpr8
  case rpy8 => (intro w; go_simp; (try with_reducible rfl))
  (try simp only [layE])
  refine E_take hQ hHeld 8 (v := ?rpv9) rfl rfl (by kernel_rfl) (by kernel_rfl) (by kernel_rfl) (by kernel_rfl) (by kernel_rfl) (by rfl) ?rpy9 ?rpr9
  case rpy9 => (intro w hSw; (try dsimp only at hSw); go_simp; (try with_reducible rfl))
  (try simp only [layE])
  refine E_take0 hQ (fun _ => hHeld) 9 (v := ?rpv10) rfl rfl (by kernel_rfl) (by kernel_rfl) (by kernel_rfl) (by decide) (by rfl) ?rpy10 ?rpr10
  case rpy10 => (intro w; go_simp; (try with_reducible rfl))
  (try simp only [layE])
  refine E_one 10 (by kernel_rfl) rfl (by rfl) (fun K hK => ?_)
  generalize w6.drew = w7 at *
  have hal7 : Below w7.heap.size w7 (w7.alloc (.cells #[.int .u8 1, .string { data := #[] }, .int .i64 (t.2.2.1 : Nat), .int .i64 (t.2.2.2 : Nat)] 39)) := (Below.refl _ _).alloc (Nat.le_refl _) _
  have HN7 := Lib.hid (hHeld.2.out.below hal7)
  have hBw3 : B ≤ w7.heap.size := Nat.le_trans HN7.out.n.hBP (Nat.le_of_lt hHeld.2.out.n.lt)
  have hsz3 : (w7.alloc (.cells #[.int .u8 1, .string { data := #[] }, .int .i64 (t.2.2.1 : Nat), .int .i64 (t.2.2.2 : Nat)] 39)).heap.size = w7.heap.size + 1 := by simp
  go_simp
  (try simp only [layE])
  refine hK.out _ _ (fun _ _ => ⟨⟨(HN7.out).n.cells.1, ((HN7.out).cell hGX).trans hx2, ((HN7.out).cell hGX).trans hx3⟩, Lib.hid (HN7.out)⟩) (fun hHeld' => ?_)
  replace hHeld := hHeld' (by rfl) (by decide)
  clear hK hHeld'
  (try simp only [layE])
  refine E_one 11 (by kernel_rfl) rfl (by rfl) (fun K hK => ?_)
  refine opwp_pushN _ _ 31 rfl B 39 i0 (.agg #[.int .u8 0, .string { data := #[] }, .int .i64 0, .int .i64 0]) 4 40 Tryz.underlying31 hi hz0 hz1 hz2 rfl (by decide) _ (out.length) (out.flatMap tokC) rfl HN7.out.n.own1 ⟨w7.heap.size, 0, none⟩ 1 1 [_, _, _, _] rfl rfl (new4 _ _ _ _ _ _) (by simp [Value.oneCell']) (by unfold maxLen; omega) (by omega) (by omega) ?_
  intro v' w8 hown' hgrow hfr
  obtain ⟨va', vc', rfl, e3, e4, hA8⟩ := NX.pushOut HN7.out (t := (1, { data := #[] }, t.2.2.1, t.2.2.2)) hown' hgrow hfr
  have HA8 := Lib.hid hA8
  clear hown' hgrow hfr hA8 HN7 hal7 hsz3
  (try simp only [layE])
  refine hK.out _ _ (fun _ h => absurd rfl h) (fun _ => ?_)
  clear hK hHeld
  (try simp only [layE])
  refine E_take0 hQ (fun h => absurd h (by decide)) 12 (v := ?rpv11) rfl rfl (by kernel_rfl) (by kernel_rfl) (by kernel_rfl) (by decide) (by rfl) ?rpy11 ?rpr11
  case rpy11 => (intro w; go_simp; (try with_reducible rfl))
  (try simp only [layE])
  refine E_take0 hQ (fun h => absurd h (by decide)) 13 (v := ?rpv12) rfl rfl (by kernel_rfl) (by kernel_rfl) (by kernel_rfl) (by decide) (by rfl) ?rpy12 ?rpr12
  case rpy12 => (intro w; go_simp; (try with_reducible rfl))
  (try simp only [layE])
  refine E_one 14 (by kernel_rfl) rfl (by rfl) (fun K hK => ?_)
  go_simp
  (try simp only [layE])
  refine hK.out _ _ (fun h => absurd h (by decide)) (fun _ => ?_)
  clear hK
  (try simp only [layE])
  refine E_done (by kernel_rfl) ?_ _
  refine hK'.out _ _ ?_
  have HN9 := HA8
  go_wp2_with fail
  go_ret
  refine ⟨rfl, ?_, HK0.out.2.trans HN9.out.b, HK0.out.1.trans fun q hq => HN9.out.k q (hG ▸ .inl hq)⟩
  have := HN9.out
  rw [HR.out] at this
  obtain ⟨va, vc, ra, rc, h1, h2⟩ := this.r
  exact ⟨va, vc, ra, rc, h1, fun q hq => h2 q (hG ▸ .inl hq)⟩
end Go.Proofs.YtdhgcgejdoedbaaGreatDoor
