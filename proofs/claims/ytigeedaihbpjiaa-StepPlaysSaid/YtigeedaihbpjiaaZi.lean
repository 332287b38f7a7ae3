/-
  step: the law's do: contract.
-/
import Derived.Test.YtigeedaihbpjiaaZg
namespace Go.Proofs.Ytigeedaihbpjiaa
open Go.RowKit
attribute [local go_sem ↓] Go.wp_at_zero Go.wp_at_succ

def askV (kd o now tr : Int) : Value := .agg #[.int .u8 kd, .int .u8 o, .int .i64 now, .int .i64 tr]
def doT (m f k l p t u : Int) (b : Bool) (kd o now tr : Int) : (Int × Int × Int × Bool) × Bool :=
  if kd = 0 then answerT m f k l p t u b now tr o else if kd = 1 then tickT m f k l p t u b now else if kd = 2 then (stopT p t u b, true) else ((1, inc 0, nowI now + limI l, false), true)
theorem after4 (w : World) (a b c d : Array Value) (ta tb tc td : TypeId) {w1 : World} (hb : Below ((((w.alloc (.cells a ta)).alloc (.cells b tb)).alloc (.cells c tc)).alloc (.cells d td)).heap.size ((((w.alloc (.cells a ta)).alloc (.cells b tb)).alloc (.cells c tc)).alloc (.cells d td)) w1) :
    w1.heap[w.heap.size + 1 + 1 + 1]? = some (.cells d td (0, 0)) ∧ Below w.heap.size w w1 := by
  obtain ⟨_, _, _, x4, x5⟩ := heap3 w (Obj.cells a ta) (Obj.cells b tb) (Obj.cells c tc)
  have h := World.alloc_heap_new (((w.alloc (.cells a ta)).alloc (.cells b tb)).alloc (.cells c tc)) (.cells d td)
  rw [x4] at h
  exact ⟨keepH h hb, (x5.alloc (by omega) _).trans (hb.mono (by simp; omega))⟩

section
variable {s0 s1 s2 : ByteArray} {af : Option Addr} {an ac : Nat} {m f k l : Int} {nk : Int} {nt : ByteArray} {ka : Option Addr} {kn kc : Nat} {da : Option Addr} {dn dc : Nat} {nl : Int}

set_option maxRecDepth 100000 in
set_option maxHeartbeats 1000000 in
theorem do_0 (p t u : Int) (b : Bool) (kd o now tr : Int) (w : World) (hk : kd = 0) : Calls Try.prog 49 #[runV p t u b, stepV s0 s1 s2 af an ac m f k l nk nt ka kn kc da dn dc nl, askV kd o now tr] w fun e w' => e = .returned (tupR (doT m f k l p t u b kd o now tr)) ∧ Below w.heap.size w w' := by
  have e : doT m f k l p t u b kd o now tr = answerT m f k l p t u b now tr o := by unfold doT; rw [if_pos hk]
  rw [e]
  have k0 : (kd == 0) = true := by rw [hk]; rfl
  have HE := Lib.hid (fun w => Answer_any (s0 := s0) (s1 := s1) (s2 := s2) (af := af) (an := an) (ac := ac) (m := m) (f := f) (k := k) (l := l) (nk := nk) (nt := nt) (ka := ka) (kn := kn) (kc := kc) (da := da) (dn := dn) (dc := dc) (nl := nl) p t u b now tr o w)
  generalize answerT m f k l p t u b now tr o = X at *
  obtain ⟨⟨q1, q2, q3, q4⟩, q5⟩ := X
  unfold tupR runT runV stepV at HE
  dsimp only at HE
  clear hk
  unfold tupR runT runV stepV askV
  dsimp only
  clear e
  go_enter Try.func49, Try.ntmps49
  go_wp2_with fail
  refine (HE.out _).mono ?_
  rintro e w1 ⟨rfl, hb1⟩
  obtain ⟨y4, hbw⟩ := after4 w #[.int .u8 p, .int .i64 t, .int .i64 u, .bool b] #[.string s0, .string s1, .string s2, .slice af an ac, .int .i64 m, .int .i64 f, .int .i64 k, .int .i64 l, .int .u8 nk, .string nt, .slice ka kn kc, .slice da dn dc, .int .i64 nl] #[.int .u8 kd, .int .u8 o, .int .i64 now, .int .i64 tr] #[.int .u8 0, .int .i64 0, .int .i64 0, .bool false] 84 82 90 84 hb1
  obtain ⟨b0, b1, b2, b3, g0, g1, g2, g3⟩ := cells4h y4
  clear y4 hb1
  go_wp2
  refine bodyPost_ret (v := .tuple #[.agg #[.int .u8 q1, .int .i64 q2, .int .i64 q3, .bool q4], .bool q5]) (by simp [results, Try.results49, go_sem, b0, b1, b2, b3]) rfl ⟨rfl, ?_⟩
  repeat (refine bset ?_ (by omega))
  exact hbw

set_option maxRecDepth 100000 in
set_option maxHeartbeats 1000000 in
theorem do_1 (p t u : Int) (b : Bool) (kd o now tr : Int) (w : World) (hk : kd = 1) : Calls Try.prog 49 #[runV p t u b, stepV s0 s1 s2 af an ac m f k l nk nt ka kn kc da dn dc nl, askV kd o now tr] w fun e w' => e = .returned (tupR (doT m f k l p t u b kd o now tr)) ∧ Below w.heap.size w w' := by
  have e : doT m f k l p t u b kd o now tr = tickT m f k l p t u b now := by unfold doT; rw [hk]; rfl
  rw [e]
  have k0 : (kd == 0) = false := by rw [hk]; rfl
  have k1 : (kd == 1) = true := by rw [hk]; rfl
  have HE := Lib.hid (fun w => Tick_any (s0 := s0) (s1 := s1) (s2 := s2) (af := af) (an := an) (ac := ac) (m := m) (f := f) (k := k) (l := l) (nk := nk) (nt := nt) (ka := ka) (kn := kn) (kc := kc) (da := da) (dn := dn) (dc := dc) (nl := nl) p t u b now w)
  generalize tickT m f k l p t u b now = X at *
  obtain ⟨⟨q1, q2, q3, q4⟩, q5⟩ := X
  unfold tupR runT runV stepV at HE
  dsimp only at HE
  clear hk
  unfold tupR runT runV stepV askV
  dsimp only
  clear e
  go_enter Try.func49, Try.ntmps49
  go_wp2_with fail
  refine (HE.out _).mono ?_
  rintro e w1 ⟨rfl, hb1⟩
  obtain ⟨y4, hbw⟩ := after4 w #[.int .u8 p, .int .i64 t, .int .i64 u, .bool b] #[.string s0, .string s1, .string s2, .slice af an ac, .int .i64 m, .int .i64 f, .int .i64 k, .int .i64 l, .int .u8 nk, .string nt, .slice ka kn kc, .slice da dn dc, .int .i64 nl] #[.int .u8 kd, .int .u8 o, .int .i64 now, .int .i64 tr] #[.int .u8 0, .int .i64 0, .int .i64 0, .bool false] 84 82 90 84 hb1
  obtain ⟨b0, b1, b2, b3, g0, g1, g2, g3⟩ := cells4h y4
  clear y4 hb1
  go_wp2
  refine bodyPost_ret (v := .tuple #[.agg #[.int .u8 q1, .int .i64 q2, .int .i64 q3, .bool q4], .bool q5]) (by simp [results, Try.results49, go_sem, b0, b1, b2, b3]) rfl ⟨rfl, ?_⟩
  repeat (refine bset ?_ (by omega))
  exact hbw

set_option maxRecDepth 100000 in
set_option maxHeartbeats 1000000 in
theorem do_2 (p t u : Int) (b : Bool) (kd o now tr : Int) (w : World) (hk : kd = 2) : Calls Try.prog 49 #[runV p t u b, stepV s0 s1 s2 af an ac m f k l nk nt ka kn kc da dn dc nl, askV kd o now tr] w fun e w' => e = .returned (tupR (doT m f k l p t u b kd o now tr)) ∧ Below w.heap.size w w' := by
  have e : doT m f k l p t u b kd o now tr = (stopT p t u b, true) := by unfold doT; rw [hk]; rfl
  rw [e]
  have k0 : (kd == 0) = false := by rw [hk]; rfl
  have k1 : (kd == 1) = false := by rw [hk]; rfl
  have k2 : (kd == 2) = true := by rw [hk]; rfl
  have HE := Lib.hid (fun w => Stop_any p t u b w)
  generalize stopT p t u b = X at *
  obtain ⟨q1, q2, q3, q4⟩ := X
  unfold runT runV at HE
  dsimp only at HE
  obtain ⟨q5, hq5⟩ : ∃ q5 : Bool, q5 = true := ⟨_, rfl⟩
  clear hk
  unfold tupR runT runV stepV askV
  dsimp only
  clear e
  go_enter Try.func49, Try.ntmps49
  go_wp2_with fail
  refine (HE.out _).mono ?_
  rintro e w1 ⟨rfl, hb1⟩
  obtain ⟨y4, hbw⟩ := after4 w #[.int .u8 p, .int .i64 t, .int .i64 u, .bool b] #[.string s0, .string s1, .string s2, .slice af an ac, .int .i64 m, .int .i64 f, .int .i64 k, .int .i64 l, .int .u8 nk, .string nt, .slice ka kn kc, .slice da dn dc, .int .i64 nl] #[.int .u8 kd, .int .u8 o, .int .i64 now, .int .i64 tr] #[.int .u8 0, .int .i64 0, .int .i64 0, .bool false] 84 82 90 84 hb1
  obtain ⟨b0, b1, b2, b3, g0, g1, g2, g3⟩ := cells4h y4
  clear y4 hb1
  go_wp2
  refine bodyPost_ret (v := .tuple #[.agg #[.int .u8 q1, .int .i64 q2, .int .i64 q3, .bool q4], .bool true]) (by simp [results, Try.results49, go_sem, b0, b1, b2, b3]) rfl ⟨rfl, ?_⟩
  repeat (refine bset ?_ (by omega))
  exact hbw

set_option maxRecDepth 100000 in
set_option maxHeartbeats 1000000 in
theorem do_3 (p t u : Int) (b : Bool) (kd o now tr : Int) (w : World) (hk : kd ≠ 0 ∧ kd ≠ 1 ∧ kd ≠ 2) : Calls Try.prog 49 #[runV p t u b, stepV s0 s1 s2 af an ac m f k l nk nt ka kn kc da dn dc nl, askV kd o now tr] w fun e w' => e = .returned (tupR (doT m f k l p t u b kd o now tr)) ∧ Below w.heap.size w w' := by
  have e : doT m f k l p t u b kd o now tr = ((1, inc 0, nowI now + limI l, false), true) := by unfold doT; rw [if_neg hk.1, if_neg hk.2.1, if_neg hk.2.2]
  rw [e]
  have k0 : (kd == 0) = false := by simp; omega
  have k1 : (kd == 1) = false := by simp; omega
  have k2 : (kd == 2) = false := by simp; omega
  have HE := Lib.hid (fun w => Begin_any (s0 := s0) (s1 := s1) (s2 := s2) (af := af) (an := an) (ac := ac) (m := m) (f := f) (k := k) (l := l) (nk := nk) (nt := nt) (ka := ka) (kn := kn) (kc := kc) (da := da) (dn := dn) (dc := dc) (nl := nl) now w)
  generalize inc 0 = q2 at *
  generalize nowI now + limI l = q3 at *
  unfold runV stepV at HE
  clear hk
  unfold tupR runT runV stepV askV
  dsimp only
  clear e
  go_enter Try.func49, Try.ntmps49
  go_wp2_with fail
  refine (HE.out _).mono ?_
  rintro e w1 ⟨rfl, hb1⟩
  obtain ⟨y4, hbw⟩ := after4 w #[.int .u8 p, .int .i64 t, .int .i64 u, .bool b] #[.string s0, .string s1, .string s2, .slice af an ac, .int .i64 m, .int .i64 f, .int .i64 k, .int .i64 l, .int .u8 nk, .string nt, .slice ka kn kc, .slice da dn dc, .int .i64 nl] #[.int .u8 kd, .int .u8 o, .int .i64 now, .int .i64 tr] #[.int .u8 0, .int .i64 0, .int .i64 0, .bool false] 84 82 90 84 hb1
  obtain ⟨b0, b1, b2, b3, g0, g1, g2, g3⟩ := cells4h y4
  clear y4 hb1
  go_wp2
  refine bodyPost_ret (v := .tuple #[.agg #[.int .u8 1, .int .i64 q2, .int .i64 q3, .bool false], .bool true]) (by simp [results, Try.results49, go_sem, b0, b1, b2, b3]) rfl ⟨rfl, ?_⟩
  repeat (refine bset ?_ (by omega))
  exact hbw

theorem do_any (p t u : Int) (b : Bool) (kd o now tr : Int) (w : World) : Calls Try.prog 49 #[runV p t u b, stepV s0 s1 s2 af an ac m f k l nk nt ka kn kc da dn dc nl, askV kd o now tr] w fun e w' => e = .returned (tupR (doT m f k l p t u b kd o now tr)) ∧ Below w.heap.size w w' := by
  by_cases h0 : kd = 0
  · exact do_0 p t u b kd o now tr w h0
  · by_cases h1 : kd = 1
    · exact do_1 p t u b kd o now tr w h1
    · by_cases h2 : kd = 2
      · exact do_2 p t u b kd o now tr w h2
      · exact do_3 p t u b kd o now tr w ⟨h0, h1, h2⟩
end
end Go.Proofs.Ytigeedaihbpjiaa
