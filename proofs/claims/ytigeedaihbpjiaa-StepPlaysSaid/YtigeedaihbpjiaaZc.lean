/-
  step: Begin, Answer, Tick, Stop, Settled: contracts.
-/
import Derived.Test.YtigeedaihbpjiaaZb
namespace Go.Proofs.Ytigeedaihbpjiaa
open Go.RowKit
attribute [local go_sem ↓] Go.wp_at_zero Go.wp_at_succ

def answerT (m f k l p t u : Int) (b : Bool) (now tr o : Int) : (Int × Int × Int × Bool) × Bool :=
  if p = 1 ∧ t = tr then (if o = 0 then ((3, t, 0, b), true) else if o = 1 then (failT m f k l p t u b now, true) else if o = 2 then ((4, t, 0, b), true) else ((p, t, u, b), false)) else ((p, t, u, b), false)
def tickT (m f k l p t u : Int) (b : Bool) (now : Int) : (Int × Int × Int × Bool) × Bool :=
  if u ≤ nowI now then (if p = 1 then (failT m f k l p t u b now, true) else if p = 2 then ((1, inc t, nowI now + limI l, b), true) else ((p, t, u, b), false)) else ((p, t, u, b), false)
def stopT (p t u : Int) (b : Bool) : Int × Int × Int × Bool :=
  if p = 0 ∨ p = 2 then (4, t, 0, true) else if p = 1 then (p, t, u, true) else (p, t, u, b)
def settledB (p : Int) : Bool := decide (p = 3 ∨ p = 4)
def tupR (x : (Int × Int × Int × Bool) × Bool) : Value := .tuple #[runT x.1, .bool x.2]

section
variable {s0 s1 s2 : ByteArray} {af : Option Addr} {an ac : Nat} {m f k l : Int} {nk : Int} {nt : ByteArray} {ka : Option Addr} {kn kc : Nat} {da : Option Addr} {dn dc : Nat} {nl : Int}

set_option maxRecDepth 100000 in
theorem Settled_any (p t u : Int) (b : Bool) (w : World) : Calls Try.prog 54 #[runV p t u b] w fun e w' => e = .returned (.bool (settledB p)) ∧ Below w.heap.size w w' := by
  have hc : (p = 3 ∧ settledB p = true) ∨ (p ≠ 3 ∧ p = 4 ∧ settledB p = true) ∨ (p ≠ 3 ∧ p ≠ 4 ∧ settledB p = false) := by
    unfold settledB
    by_cases h3 : p = 3
    · simp [h3]
    · by_cases h4 : p = 4
      · simp [h4]
      · simp [h3, h4]
  unfold runV
  rcases hc with ⟨h3, e⟩ | ⟨h3, h4, e⟩ | ⟨h3, h4, e⟩
  · rw [e]
    have d3 : (p == 3) = true := by simpa using h3
    clear h3 e
    go_enter Try.func54, Try.ntmps54
    go_wp2
    go_ret
    exact ⟨rfl, (Below.refl _ w).alloc (Nat.le_refl _) _⟩
  · rw [e]
    have d3 : (p == 3) = false := by simpa using h3
    have d4 : (p == 4) = true := by simpa using h4
    clear h3 h4 e
    go_enter Try.func54, Try.ntmps54
    go_wp2
    go_ret
    exact ⟨rfl, (Below.refl _ w).alloc (Nat.le_refl _) _⟩
  · rw [e]
    have d3 : (p == 3) = false := by simpa using h3
    have d4 : (p == 4) = false := by simpa using h4
    clear h3 h4 e
    go_enter Try.func54, Try.ntmps54
    go_wp2
    go_ret
    exact ⟨rfl, (Below.refl _ w).alloc (Nat.le_refl _) _⟩

set_option maxRecDepth 100000 in
set_option maxHeartbeats 1000000 in
theorem Begin_any (now : Int) (w : World) : Calls Try.prog 57 #[stepV s0 s1 s2 af an ac m f k l nk nt ka kn kc da dn dc nl, .int .i64 now] w fun e w' => e = .returned (runV 1 (inc 0) (nowI now + limI l) false) ∧ Below w.heap.size w w' := by
  have HT := Lib.hid (fun w => try_any (s0 := s0) (s1 := s1) (s2 := s2) (af := af) (an := an) (ac := ac) (m := m) (f := f) (k := k) (l := l) (nk := nk) (nt := nt) (ka := ka) (kn := kn) (kc := kc) (da := da) (dn := dn) (dc := dc) (nl := nl) 0 0 0 false now w)
  generalize inc 0 = T at *
  generalize nowI now + limI l = U at *
  unfold runV stepV
  unfold runV stepV at HT
  go_enter Try.func57, Try.ntmps57
  go_wp2_with fail
  refine (HT.out _).mono ?_
  rintro e w1 ⟨rfl, hb1⟩
  obtain ⟨_, y2, hbw⟩ := after2 w #[.string s0, .string s1, .string s2, .slice af an ac, .int .i64 m, .int .i64 f, .int .i64 k, .int .i64 l, .int .u8 nk, .string nt, .slice ka kn kc, .slice da dn dc, .int .i64 nl] #[.int .u8 0, .int .i64 0, .int .i64 0, .bool false] 82 84 hb1
  obtain ⟨b0, b1, b2, b3, g0, g1, g2, g3⟩ := cells4h y2
  clear y2
  go_wp2
  refine bodyPost_ret (v := .agg #[.int .u8 1, .int .i64 T, .int .i64 U, .bool false]) (by simp [results, Try.results57, go_sem, b0, b1, b2, b3]) rfl ⟨rfl, ?_⟩
  repeat (refine bset ?_ (by omega))
  exact hbw

set_option maxRecDepth 100000 in
set_option maxHeartbeats 1000000 in
theorem Answer_other (p t u : Int) (b : Bool) (now tr o : Int) (w : World) (hp : p ≠ 1) : Calls Try.prog 58 #[runV p t u b, stepV s0 s1 s2 af an ac m f k l nk nt ka kn kc da dn dc nl, .int .i64 now, .int .i64 tr, .int .u8 o] w fun e w' => e = .returned (tupR (answerT m f k l p t u b now tr o)) ∧ Below w.heap.size w w' := by
  have e : answerT m f k l p t u b now tr o = ((p, t, u, b), false) := by unfold answerT; rw [if_neg (fun h => hp h.1)]
  rw [e]
  have d1 : (p == 1) = false := by simpa using hp
  have d2 : (p != 1) = true := by simpa using hp
  clear hp
  unfold tupR runT runV stepV
  dsimp only
  clear e
  go_enter Try.func58, Try.ntmps58
  go_wp2
  refine bodyPost_ret (v := .tuple #[.agg #[.int .u8 p, .int .i64 t, .int .i64 u, .bool b], .bool false]) (by simp [results, Try.results58, go_sem]) rfl ⟨rfl, ?_⟩
  exact (((Below.refl _ w).alloc (Nat.le_refl _) _).alloc (by simp) _).alloc (by simp; omega) _

set_option maxRecDepth 100000 in
set_option maxHeartbeats 1000000 in
theorem Answer_try (p t u : Int) (b : Bool) (now tr o : Int) (w : World) (hp : p = 1) (ht : t ≠ tr) : Calls Try.prog 58 #[runV p t u b, stepV s0 s1 s2 af an ac m f k l nk nt ka kn kc da dn dc nl, .int .i64 now, .int .i64 tr, .int .u8 o] w fun e w' => e = .returned (tupR (answerT m f k l p t u b now tr o)) ∧ Below w.heap.size w w' := by
  have e : answerT m f k l p t u b now tr o = ((p, t, u, b), false) := by unfold answerT; rw [if_neg (fun h => ht h.2)]
  rw [e]
  have d1 : (p == 1) = true := by simpa using hp
  have d2 : (p != 1) = false := by simpa using hp
  have d3 : (t == tr) = false := by simpa using ht
  have d4 : (t != tr) = true := by simpa using ht
  clear hp ht
  unfold tupR runT runV stepV
  dsimp only
  clear e
  go_enter Try.func58, Try.ntmps58
  go_wp2
  refine bodyPost_ret (v := .tuple #[.agg #[.int .u8 p, .int .i64 t, .int .i64 u, .bool b], .bool false]) (by simp [results, Try.results58, go_sem]) rfl ⟨rfl, ?_⟩
  exact (((Below.refl _ w).alloc (Nat.le_refl _) _).alloc (by simp) _).alloc (by simp; omega) _

set_option maxRecDepth 100000 in
set_option maxHeartbeats 1000000 in
theorem Answer_odd (p t u : Int) (b : Bool) (now tr o : Int) (w : World) (hp : p = 1) (ht : t = tr) (h0 : o ≠ 0) (h1 : o ≠ 1) (h2 : o ≠ 2) : Calls Try.prog 58 #[runV p t u b, stepV s0 s1 s2 af an ac m f k l nk nt ka kn kc da dn dc nl, .int .i64 now, .int .i64 tr, .int .u8 o] w fun e w' => e = .returned (tupR (answerT m f k l p t u b now tr o)) ∧ Below w.heap.size w w' := by
  have e : answerT m f k l p t u b now tr o = ((p, t, u, b), false) := by unfold answerT; rw [if_pos ⟨hp, ht⟩, if_neg h0, if_neg h1, if_neg h2]
  rw [e]
  have d1 : (p == 1) = true := by simpa using hp
  have d2 : (p != 1) = false := by simpa using hp
  have d3 : (t == tr) = true := by simpa using ht
  have d4 : (t != tr) = false := by simpa using ht
  have e0 : (o == 0) = false := by simpa using h0
  have e1 : (o == 1) = false := by simpa using h1
  have e2 : (o == 2) = false := by simpa using h2
  clear hp ht h0 h1 h2
  unfold tupR runT runV stepV
  dsimp only
  clear e
  go_enter Try.func58, Try.ntmps58
  go_wp2
  refine bodyPost_ret (v := .tuple #[.agg #[.int .u8 p, .int .i64 t, .int .i64 u, .bool b], .bool false]) (by simp [results, Try.results58, go_sem]) rfl ⟨rfl, ?_⟩
  exact (((Below.refl _ w).alloc (Nat.le_refl _) _).alloc (by simp) _).alloc (by simp; omega) _

set_option maxRecDepth 100000 in
set_option maxHeartbeats 1000000 in
theorem Answer_done (p t u : Int) (b : Bool) (now tr o : Int) (w : World) (hp : p = 1) (ht : t = tr) (h0 : o = 0) : Calls Try.prog 58 #[runV p t u b, stepV s0 s1 s2 af an ac m f k l nk nt ka kn kc da dn dc nl, .int .i64 now, .int .i64 tr, .int .u8 o] w fun e w' => e = .returned (tupR (answerT m f k l p t u b now tr o)) ∧ Below w.heap.size w w' := by
  have e : answerT m f k l p t u b now tr o = ((3, t, 0, b), true) := by unfold answerT; rw [if_pos ⟨hp, ht⟩, h0]; rfl
  rw [e]
  have d1 : (p == 1) = true := by simpa using hp
  have d2 : (p != 1) = false := by simpa using hp
  have d3 : (t == tr) = true := by simpa using ht
  have d4 : (t != tr) = false := by simpa using ht
  have e0 : (o == 0) = true := by rw [h0]; rfl
  have e1 : (o == 1) = false := by rw [h0]; rfl
  have e2 : (o == 2) = false := by rw [h0]; rfl
  have HE := Lib.hid (fun w => end_any p t u 3 b w)
  unfold runV at HE
  clear hp ht h0
  unfold tupR runT runV stepV
  dsimp only
  clear e
  go_enter Try.func58, Try.ntmps58
  go_wp2_with fail
  refine (HE.out _).mono ?_
  rintro e w1 ⟨rfl, hb1⟩
  obtain ⟨y1, y2, y3, hbw⟩ := after3 w #[.int .u8 p, .int .i64 t, .int .i64 u, .bool b] #[.string s0, .string s1, .string s2, .slice af an ac, .int .i64 m, .int .i64 f, .int .i64 k, .int .i64 l, .int .u8 nk, .string nt, .slice ka kn kc, .slice da dn dc, .int .i64 nl] #[.int .u8 0, .int .i64 0, .int .i64 0, .bool false] 84 82 84 hb1
  have Y1 := Lib.hid y1; have Y2 := Lib.hid y2; have Y3 := Lib.hid y3
  obtain ⟨a0, a1, a2, a3, f0, f1, f2, f3⟩ := cells4h y1
  obtain ⟨b0, b1, b2, b3, g0, g1, g2, g3⟩ := cells4h y3
  obtain ⟨d0, d1, d2, d3, d4, d5, d6, d7, d8, d9, d10, d11, d12⟩ := cells13a y2
  clear y1 y2 y3
  go_wp2
  refine bodyPost_ret (v := .tuple #[.agg #[.int .u8 3, .int .i64 t, .int .i64 0, .bool b], .bool true]) (by simp [results, Try.results58, go_sem, a0, a1, a2, a3, b0, b1, b2, b3]) rfl ⟨rfl, ?_⟩
  repeat (refine bset ?_ (by omega))
  exact hbw

set_option maxRecDepth 100000 in
set_option maxHeartbeats 1000000 in
theorem Answer_fatal (p t u : Int) (b : Bool) (now tr o : Int) (w : World) (hp : p = 1) (ht : t = tr) (h0 : o = 2) : Calls Try.prog 58 #[runV p t u b, stepV s0 s1 s2 af an ac m f k l nk nt ka kn kc da dn dc nl, .int .i64 now, .int .i64 tr, .int .u8 o] w fun e w' => e = .returned (tupR (answerT m f k l p t u b now tr o)) ∧ Below w.heap.size w w' := by
  have e : answerT m f k l p t u b now tr o = ((4, t, 0, b), true) := by unfold answerT; rw [if_pos ⟨hp, ht⟩, h0]; rfl
  rw [e]
  have d1 : (p == 1) = true := by simpa using hp
  have d2 : (p != 1) = false := by simpa using hp
  have d3 : (t == tr) = true := by simpa using ht
  have d4 : (t != tr) = false := by simpa using ht
  have e0 : (o == 0) = false := by rw [h0]; rfl
  have e1 : (o == 1) = false := by rw [h0]; rfl
  have e2 : (o == 2) = true := by rw [h0]; rfl
  have HE := Lib.hid (fun w => end_any p t u 4 b w)
  unfold runV at HE
  clear hp ht h0
  unfold tupR runT runV stepV
  dsimp only
  clear e
  go_enter Try.func58, Try.ntmps58
  go_wp2_with fail
  refine (HE.out _).mono ?_
  rintro e w1 ⟨rfl, hb1⟩
  obtain ⟨y1, y2, y3, hbw⟩ := after3 w #[.int .u8 p, .int .i64 t, .int .i64 u, .bool b] #[.string s0, .string s1, .string s2, .slice af an ac, .int .i64 m, .int .i64 f, .int .i64 k, .int .i64 l, .int .u8 nk, .string nt, .slice ka kn kc, .slice da dn dc, .int .i64 nl] #[.int .u8 0, .int .i64 0, .int .i64 0, .bool false] 84 82 84 hb1
  have Y1 := Lib.hid y1; have Y2 := Lib.hid y2; have Y3 := Lib.hid y3
  obtain ⟨a0, a1, a2, a3, f0, f1, f2, f3⟩ := cells4h y1
  obtain ⟨b0, b1, b2, b3, g0, g1, g2, g3⟩ := cells4h y3
  obtain ⟨d0, d1, d2, d3, d4, d5, d6, d7, d8, d9, d10, d11, d12⟩ := cells13a y2
  clear y1 y2 y3
  go_wp2
  refine bodyPost_ret (v := .tuple #[.agg #[.int .u8 4, .int .i64 t, .int .i64 0, .bool b], .bool true]) (by simp [results, Try.results58, go_sem, a0, a1, a2, a3, b0, b1, b2, b3]) rfl ⟨rfl, ?_⟩
  repeat (refine bset ?_ (by omega))
  exact hbw

set_option maxRecDepth 100000 in
set_option maxHeartbeats 1000000 in
theorem Answer_fail (p t u : Int) (b : Bool) (now tr o : Int) (w : World) (hp : p = 1) (ht : t = tr) (h0 : o = 1) : Calls Try.prog 58 #[runV p t u b, stepV s0 s1 s2 af an ac m f k l nk nt ka kn kc da dn dc nl, .int .i64 now, .int .i64 tr, .int .u8 o] w fun e w' => e = .returned (tupR (answerT m f k l p t u b now tr o)) ∧ Below w.heap.size w w' := by
  have e : answerT m f k l p t u b now tr o = (failT m f k l p t u b now, true) := by unfold answerT; rw [if_pos ⟨hp, ht⟩, h0]; rfl
  rw [e]
  have d1 : (p == 1) = true := by simpa using hp
  have d2 : (p != 1) = false := by simpa using hp
  have d3 : (t == tr) = true := by simpa using ht
  have d4 : (t != tr) = false := by simpa using ht
  have e0 : (o == 0) = false := by rw [h0]; rfl
  have e1 : (o == 1) = true := by rw [h0]; rfl
  have HE := Lib.hid (fun w => fail_any (s0 := s0) (s1 := s1) (s2 := s2) (af := af) (an := an) (ac := ac) (m := m) (f := f) (k := k) (l := l) (nk := nk) (nt := nt) (ka := ka) (kn := kn) (kc := kc) (da := da) (dn := dn) (dc := dc) (nl := nl) p t u b now w)
  generalize failT m f k l p t u b now = X at *
  obtain ⟨q1, q2, q3, q4⟩ := X
  unfold runT runV stepV at HE
  dsimp only at HE
  clear hp ht h0
  unfold tupR runT runV stepV
  dsimp only
  clear e
  go_enter Try.func58, Try.ntmps58
  go_wp2_with fail
  refine (HE.out _).mono ?_
  rintro e w1 ⟨rfl, hb1⟩
  obtain ⟨y1, y2, y3, hbw⟩ := after3 w #[.int .u8 p, .int .i64 t, .int .i64 u, .bool b] #[.string s0, .string s1, .string s2, .slice af an ac, .int .i64 m, .int .i64 f, .int .i64 k, .int .i64 l, .int .u8 nk, .string nt, .slice ka kn kc, .slice da dn dc, .int .i64 nl] #[.int .u8 0, .int .i64 0, .int .i64 0, .bool false] 84 82 84 hb1
  have Y1 := Lib.hid y1; have Y2 := Lib.hid y2; have Y3 := Lib.hid y3
  obtain ⟨a0, a1, a2, a3, f0, f1, f2, f3⟩ := cells4h y1
  obtain ⟨b0, b1, b2, b3, g0, g1, g2, g3⟩ := cells4h y3
  obtain ⟨d0, d1, d2, d3, d4, d5, d6, d7, d8, d9, d10, d11, d12⟩ := cells13a y2
  clear y1 y2 y3
  go_wp2
  refine bodyPost_ret (v := .tuple #[.agg #[.int .u8 q1, .int .i64 q2, .int .i64 q3, .bool q4], .bool true]) (by simp [results, Try.results58, go_sem, a0, a1, a2, a3, b0, b1, b2, b3]) rfl ⟨rfl, ?_⟩
  repeat (refine bset ?_ (by omega))
  exact hbw

theorem Answer_any (p t u : Int) (b : Bool) (now tr o : Int) (w : World) : Calls Try.prog 58 #[runV p t u b, stepV s0 s1 s2 af an ac m f k l nk nt ka kn kc da dn dc nl, .int .i64 now, .int .i64 tr, .int .u8 o] w fun e w' => e = .returned (tupR (answerT m f k l p t u b now tr o)) ∧ Below w.heap.size w w' := by
  by_cases hp : p = 1
  · by_cases ht : t = tr
    · by_cases h0 : o = 0
      · exact Answer_done p t u b now tr o w hp ht h0
      · by_cases h1 : o = 1
        · exact Answer_fail p t u b now tr o w hp ht h1
        · by_cases h2 : o = 2
          · exact Answer_fatal p t u b now tr o w hp ht h2
          · exact Answer_odd p t u b now tr o w hp ht h0 h1 h2
    · exact Answer_try p t u b now tr o w hp ht
  · exact Answer_other p t u b now tr o w hp

theorem set4 {W : World} {B : Nat} {a b c d : Value} {t : TypeId} (x y z v : Value) (h : W.heap[B]? = some (.cells #[a, b, c, d] t (0, 0))) :
    ((((W.setCell ⟨B, 0, none⟩ x).setCell ⟨B, 1, none⟩ y).setCell ⟨B, 2, none⟩ z).setCell ⟨B, 3, none⟩ v).heap[B]? = some (.cells #[x, y, z, v] t (0, 0)) := by
  have := setCell_heap 3 v (setCell_heap 2 z (setCell_heap 1 y (setCell_heap 0 x h)))
  simpa using this
theorem set4_other {W : World} {B j : Nat} (x y z v : Value) (h : j ≠ B) :
    ((((W.setCell ⟨B, 0, none⟩ x).setCell ⟨B, 1, none⟩ y).setCell ⟨B, 2, none⟩ z).setCell ⟨B, 3, none⟩ v).heap[j]? = W.heap[j]? := by
  rw [Below.heap_setCell _ _ _ _ h, Below.heap_setCell _ _ _ _ h, Below.heap_setCell _ _ _ _ h, Below.heap_setCell _ _ _ _ h]
set_option maxRecDepth 100000 in
set_option maxHeartbeats 1000000 in
theorem Stop_any (p t u : Int) (b : Bool) (w : World) : Calls Try.prog 89 #[runV p t u b] w fun e w' => e = .returned (runT (stopT p t u b)) ∧ Below w.heap.size w w' := by
  have hc : ((p = 0 ∨ p = 2) ∧ stopT p t u b = (4, t, 0, true)) ∨ (p = 1 ∧ stopT p t u b = (p, t, u, true)) ∨ (p ≠ 0 ∧ p ≠ 1 ∧ p ≠ 2 ∧ stopT p t u b = (p, t, u, b)) := by
    unfold stopT
    by_cases h : p = 0 ∨ p = 2
    · simp [h]
    · by_cases h1 : p = 1
      · simp [h1]
      · right; right; simp [h, h1]; omega
  rcases hc with ⟨h, e⟩ | ⟨h, e⟩ | ⟨h0, h1, h2, e⟩
  · rw [e]
    unfold runT runV
    dsimp only
    clear e
    have HE := Lib.hid (fun w => end_any p t u 4 b w)
    unfold runV at HE
    rcases h with h | h
    · have d0 : (p == 0) = true := by simpa using h
      clear h
      go_enter Try.func89, Try.ntmps89
      go_wp2_with fail
      refine (HE.out _).mono ?_
      rintro e w1 ⟨rfl, hb1⟩
      obtain ⟨y1, y2, hbw⟩ := after2 w #[.int .u8 p, .int .i64 t, .int .i64 u, .bool b] #[.int .u8 0, .int .i64 0, .int .i64 0, .bool false] 84 84 hb1
      have hz1 := set4 (.int .u8 4) (.int .i64 t) (.int .i64 0) (.bool b) y1
      have hz2 := (set4_other (W := w1) (B := w.heap.size) (.int .u8 4) (.int .i64 t) (.int .i64 0) (.bool b) (show w.heap.size + 1 ≠ w.heap.size by omega)).trans y2
      have hz3 := bset (bset (bset (bset hbw (Nat.le_refl _) (o := 0) (v := .int .u8 4)) (Nat.le_refl _) (o := 1) (v := .int .i64 t)) (Nat.le_refl _) (o := 2) (v := .int .i64 0)) (Nat.le_refl _) (o := 3) (v := .bool b)
      obtain ⟨a0, a1, a2, a3, f0, f1, f2, f3⟩ := cells4h y1
      clear y1 y2 hbw hb1
      go_upto_region 6 with (fail)
      clear a0 a1 a2 a3 f0 f1 f2 f3
      generalize (((w1.setCell ⟨w.heap.size, 0, none⟩ (.int .u8 4)).setCell ⟨w.heap.size, 1, none⟩ (.int .i64 t)).setCell ⟨w.heap.size, 2, none⟩ (.int .i64 0)).setCell ⟨w.heap.size, 3, none⟩ (.bool b) = w2 at *
      obtain ⟨a0, a1, a2, a3, f0, f1, f2, f3⟩ := cells4h hz1
      obtain ⟨b0, b1, b2, b3, g0, g1, g2, g3⟩ := cells4h hz2
      clear hz1 hz2
      go_wp2
      refine bodyPost_ret (v := .agg #[.int .u8 4, .int .i64 t, .int .i64 0, .bool true]) (by simp [results, Try.results89, go_sem, a0, a1, a2, a3, b0, b1, b2, b3]) rfl ⟨rfl, ?_⟩
      repeat (refine bset ?_ (by omega))
      exact hz3
    · have d0 : (p == 0) = false := by rw [h]; rfl
      have d2 : (p == 2) = true := by simpa using h
      clear h
      go_enter Try.func89, Try.ntmps89
      go_wp2_with fail
      refine (HE.out _).mono ?_
      rintro e w1 ⟨rfl, hb1⟩
      obtain ⟨y1, y2, hbw⟩ := after2 w #[.int .u8 p, .int .i64 t, .int .i64 u, .bool b] #[.int .u8 0, .int .i64 0, .int .i64 0, .bool false] 84 84 hb1
      have hz1 := set4 (.int .u8 4) (.int .i64 t) (.int .i64 0) (.bool b) y1
      have hz2 := (set4_other (W := w1) (B := w.heap.size) (.int .u8 4) (.int .i64 t) (.int .i64 0) (.bool b) (show w.heap.size + 1 ≠ w.heap.size by omega)).trans y2
      have hz3 := bset (bset (bset (bset hbw (Nat.le_refl _) (o := 0) (v := .int .u8 4)) (Nat.le_refl _) (o := 1) (v := .int .i64 t)) (Nat.le_refl _) (o := 2) (v := .int .i64 0)) (Nat.le_refl _) (o := 3) (v := .bool b)
      obtain ⟨a0, a1, a2, a3, f0, f1, f2, f3⟩ := cells4h y1
      clear y1 y2 hbw hb1
      go_upto_region 6 with (fail)
      clear a0 a1 a2 a3 f0 f1 f2 f3
      generalize (((w1.setCell ⟨w.heap.size, 0, none⟩ (.int .u8 4)).setCell ⟨w.heap.size, 1, none⟩ (.int .i64 t)).setCell ⟨w.heap.size, 2, none⟩ (.int .i64 0)).setCell ⟨w.heap.size, 3, none⟩ (.bool b) = w2 at *
      obtain ⟨a0, a1, a2, a3, f0, f1, f2, f3⟩ := cells4h hz1
      obtain ⟨b0, b1, b2, b3, g0, g1, g2, g3⟩ := cells4h hz2
      clear hz1 hz2
      go_wp2
      refine bodyPost_ret (v := .agg #[.int .u8 4, .int .i64 t, .int .i64 0, .bool true]) (by simp [results, Try.results89, go_sem, a0, a1, a2, a3, b0, b1, b2, b3]) rfl ⟨rfl, ?_⟩
      repeat (refine bset ?_ (by omega))
      exact hz3
  · rw [e]
    unfold runT runV
    dsimp only
    have d0 : (p == 0) = false := by rw [h]; rfl
    have d1 : (p == 1) = true := by simpa using h
    have d2 : (p == 2) = false := by rw [h]; rfl
    clear e h
    go_enter Try.func89, Try.ntmps89
    go_wp2
    refine bodyPost_ret (v := .agg #[.int .u8 p, .int .i64 t, .int .i64 u, .bool true]) (by simp [results, Try.results89, go_sem]) rfl ⟨rfl, ((Below.refl _ w).alloc (Nat.le_refl _) _).alloc (by simp) _⟩
  · rw [e]
    unfold runT runV
    dsimp only
    have d0 : (p == 0) = false := by simpa using h0
    have d1 : (p == 1) = false := by simpa using h1
    have d2 : (p == 2) = false := by simpa using h2
    clear e h0 h1 h2
    go_enter Try.func89, Try.ntmps89
    go_wp2
    refine bodyPost_ret (v := .agg #[.int .u8 p, .int .i64 t, .int .i64 u, .bool b]) (by simp [results, Try.results89, go_sem]) rfl ⟨rfl, ((Below.refl _ w).alloc (Nat.le_refl _) _).alloc (by simp) _⟩

end
end Go.Proofs.Ytigeedaihbpjiaa
