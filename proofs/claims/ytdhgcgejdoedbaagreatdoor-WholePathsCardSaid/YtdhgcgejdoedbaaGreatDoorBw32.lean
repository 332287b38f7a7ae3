/-
  nest.add: contract.
-/
import Derived.Test.YtdhgcgejdoedbaaGreatDoorBw31
namespace Go.Proofs.YtdhgcgejdoedbaaGreatDoor
open Go.RowKit Go.WideShapes

theorem tkTopN (w : World) (P B : Nat) (out : List TokD) (rk : List Nat) (G : Nat → Prop) (h : NestR w P B out rk G) (ne : rk ≠ []) (hl : rk.length ≤ 1000) :
    Calls Tryz.prog 43 #[.pointer (some ⟨P, 0, none⟩)] w fun e w' => e = .returned (.int .i64 (rk.headD 0 : Nat)) ∧ Below w.heap.size w w' := by
  obtain _ | ⟨c, rk⟩ := rk
  · exact absurd rfl ne
  · exact tkTopR_any w P B out c rk h (by simp at hl; omega)
theorem closeN_pos {col : Nat} {rk : List Nat} (ne : rk ≠ []) (h : col < rk.headD 0) : 0 < closeN col rk := by
  obtain _ | ⟨c, rk⟩ := rk
  · exact absurd rfl ne
  · unfold closeN; rw [if_pos (by simpa using h)]; omega
theorem closeN_zero {col : Nat} {rk : List Nat} (h : ¬ col < rk.headD 0) : closeN col rk = 0 := by
  obtain _ | ⟨c, rk⟩ := rk
  · rfl
  · unfold closeN; rw [if_neg (by simpa using h)]
structure NS (w : World) (P B : Nat) (out : List TokD) (rk : List Nat) (G : Nat → Prop) (V : World) : Prop where
  n : NestR V P B out rk G
  b : Below B w V
  k : KeepG G w V
  hB : B ≤ w.heap.size
section
variable {w V V' : World} {P B : Nat} {out out' : List TokD} {rk rk' : List Nat} {G : Nat → Prop} {X : Nat}
theorem NS.cell (h : NS w P B out rk G V) {q i : Nat} (hq : G q) : V.cell? ⟨q, i, none⟩ = w.cell? ⟨q, i, none⟩ := by simp [World.cell?, h.k q hq]
theorem NS.below (h : NS w P B out rk G V) (hb : Below V.heap.size V V') : NS w P B out rk G V' :=
  ⟨(h.n.below hb).1, bthen h.b h.hB hb, h.k.trans (h.n.below hb).2, h.hB⟩
theorem NS.step (h : NS w P B out rk G V) (hn : NestR V' P B out' rk' G) (hb : Below B V V') (hk : KeepG G V V') : NS w P B out' rk' G V' :=
  ⟨hn, h.b.trans hb, h.k.trans hk, h.hB⟩
theorem NestR.hBV (h : NestR V P B out rk G) : B ≤ V.heap.size := by
  obtain ⟨_, _, _, _, h1, _⟩ := h
  exact Nat.le_trans h1.hBP (Nat.le_of_lt h1.lt)
theorem NestR.s (h : NestR V P B out rk G) : NS V P B out rk G V := ⟨h, Below.refl _ _, fun _ _ => rfl, h.hBV⟩
theorem NestR.more (h : NestR V P B out rk G) (hb : Below V.heap.size V V') {X : Nat} (hX : V.heap.size ≤ X) (hX' : X < V'.heap.size) : NestR V' P B out rk (fun q => G q ∨ q = X) := by
  obtain ⟨va, vc, ra, rc, hN⟩ := h.x
  exact (hN.more hb hX hX').r
theorem NestR.less (h : NestR V P B out rk (fun q => G q ∨ q = X)) : NestR V P B out rk G := by
  obtain ⟨va, vc, ra, rc, h1, h2⟩ := h
  exact ⟨va, vc, ra, rc, h1, fun q hq => h2 q (.inl hq)⟩
theorem NS.round {V0 : World} (h : NS w P B out rk G V) (hb : Below V.heap.size V V0) (h2 : NS V0 P B out' rk' (fun q => G q ∨ q = X) V') : NS w P B out' rk' G V' :=
  (h.below hb).step h2.n.less h2.b (fun q hq => h2.k q (.inl hq))
end

abbrev NSt : Type := List TokD × List Nat
def noTok : TokD := (0, { data := #[] }, 0, 0)
def opT (t : TokD) (s : NSt) : NSt := (s.1 ++ [(1, { data := #[] }, t.2.2.1, t.2.2.2)], t.2.2.2 :: s.2)
def puT (t : TokD) (s : NSt) : NSt := (s.1 ++ [t], s.2)
def clT (t : TokD) (s : NSt) : NSt := (s.1 ++ List.replicate (closeN t.2.2.2 s.2) (2, { data := #[] }, t.2.2.1, t.2.2.2), s.2.drop (closeN t.2.2.2 s.2))
def stJ (ts : List TokD) (s : NSt) : Nat → NSt
  | 0 => s
  | 1 => if (clT (ts.getD 0 noTok) s).2.headD 0 < (ts.getD 0 noTok).2.2.2 then puT (ts.getD 0 noTok) (opT (ts.getD 0 noTok) (clT (ts.getD 0 noTok) s)) else puT (ts.getD 0 noTok) (clT (ts.getD 0 noTok) s)
  | j + 2 => if (ts.getD j noTok).1 = 3 then puT (ts.getD (j + 1) noTok) (opT (ts.getD (j + 1) noTok) (stJ ts s (j + 1))) else puT (ts.getD (j + 1) noTok) (stJ ts s (j + 1))
theorem clT_ne {t : TokD} {s : NSt} (h : closeN t.2.2.2 s.2 < s.2.length) : (clT t s).2 ≠ [] := by
  intro e
  have := congrArg List.length e
  simp [clT] at this
  omega
theorem clT_len {t : TokD} {s : NSt} : (clT t s).2.length ≤ s.2.length := by simp [clT]
theorem clT_id {t : TokD} {s : NSt} (h : closeN t.2.2.2 s.2 = 0) : clT t s = s := by simp [clT, h]
structure OkJ (ts : List TokD) (s : NSt) : Prop where
  ne : s.2 ≠ []
  len : ∀ j < ts.length, (stJ ts s j).2.length ≤ 100 ∧ (stJ ts s j).1.length ≤ 900000
  cl : closeN (ts.getD 0 noTok).2.2.2 s.2 < s.2.length
  eq : 0 < closeN (ts.getD 0 noTok).2.2.2 s.2 → (clT (ts.getD 0 noTok) s).2.headD 0 = (ts.getD 0 noTok).2.2.2
  op0 : (clT (ts.getD 0 noTok) s).2.headD 0 < (ts.getD 0 noTok).2.2.2 → (clT (ts.getD 0 noTok) s).2.length + 1 ≤ 16
  op : ∀ j, j + 1 < ts.length → (ts.getD j noTok).1 = 3 → (stJ ts s (j + 1)).2.length + 1 ≤ 16

set_option maxRecDepth 100000 in
set_option maxHeartbeats 4000000 in
theorem tkAdd_any (w : World) (P B : Nat) (ts : List TokD) (s : NSt) (G : Nat → Prop) (h : NestR w P B s.1 s.2 G) (g tc : Nat) (hG : G g) (hrow : ∀ i c, (ts.flatMap tokC)[i]? = some c → w.cell? ⟨g, i, none⟩ = some c) (htl : ts.length ≤ 10000000) (hok : OkJ ts s) :
    Calls Tryz.prog 23 #[.pointer (some ⟨P, 0, none⟩), .slice (some ⟨g, 0, none⟩) ts.length tc] w fun e w' => e = .returned (.int .i64 0) ∧ NestR w' P B (stJ ts s ts.length).1 (stJ ts s ts.length).2 G ∧ Below B w w' ∧ KeepG G w w' := by
  obtain ⟨i0, hi, hz0, hz1, hz2⟩ := info_parts Tryz.info_tok
  have HS0 := Lib.hid h.s
  have HOK := Lib.hid hok
  have HROW := Lib.hid hrow
  clear h hok hrow
  go_enter Tryz.func23, Tryz.ntmps23
  go_wp2_with fail
  go_loopg [10] (ts.length + 1) (fun gk i wr => ∃ k : Nat, k + gk = ts.length + 1 ∧ k ≤ ts.length ∧ i = .int .i64 k ∧ Hid (NS w P B (stJ ts s k).1 (stJ ts s k).2 G wr))
  case atStart => exact ⟨0, by omega, by omega, rfl, HS0⟩
  case round =>
    obtain ⟨k, hgk, hk, rfl, HN⟩ := hrel
    have hg : gk = ts.length + 1 - k := by omega
    subst hg
    by_cases hkl : k < ts.length
    · have hk1 : (k : Int) < (ts.length : Int) := by omega
      have d3 : decide ((k : Int) < (ts.length : Int)) = true := decide_eq_true (by omega)
      have hx (i : Nat) (hi : i < 4) (c : Value) (hc : (tokC ts[k])[i]? = some c) : wr.cell? ⟨g, k * 4 + i, none⟩ = some c := (HN.out.cell hG).trans (HROW.out (k * 4 + i) c ((tokC_get ts k hkl i hi).trans hc))
      have x0 := hx 0 (by decide) _ rfl
      have x1 := hx 1 (by decide) _ rfl
      have x2 := hx 2 (by decide) _ rfl
      have x3 := hx 3 (by decide) _ rfl
      clear hx
      rw [Nat.add_zero] at x0
      generalize ht : ts[k] = t at *
      have hw1 : IntKind.i64.wrap ((k : Int) + 1) = (k : Int) + 1 := IntWalk.i64_in _ (by omega)
      have hal : Below wr.heap.size wr (wr.alloc (.cells #[.int .u8 (t.1 : Nat), .string t.2.1, .int .i64 (t.2.2.1 : Nat), .int .i64 (t.2.2.2 : Nat)] 39)) := (Below.refl _ _).alloc (Nat.le_refl _) _
      have hsz : (wr.alloc (.cells #[.int .u8 (t.1 : Nat), .string t.2.1, .int .i64 (t.2.2.1 : Nat), .int .i64 (t.2.2.2 : Nat)] 39)).heap.size = wr.heap.size + 1 := by simp
      have hnew := World.alloc_heap_new wr (.cells #[.int .u8 (t.1 : Nat), .string t.2.1, .int .i64 (t.2.2.1 : Nat), .int .i64 (t.2.2.2 : Nat)] 39)
      by_cases hk0 : k = 0
      · have d0 : decide ((k : Int) = 0) = true := decide_eq_true (by omega)
        have d9 : decide ((k : Int) > 0) = false := decide_eq_false (by omega)
        have d9b : decide (0 < k) = false := decide_eq_false (by omega)
        have htd : ts.getD 0 noTok = t := by subst hk0; rw [← ht]; simp [List.getD, hkl]
        have HSK : Hid (stJ ts s k = s) := Lib.hid (by subst hk0; rfl)
        have hn := HN.out.n
        rw [HSK.out] at hn
        have HM := Lib.hid (hn.more hal (Nat.le_refl _) (by omega)).s
        have HAL := Lib.hid hal
        obtain ⟨ne, hlen, hcl, heq, hop0, -⟩ := HOK.out
        rw [htd] at hcl heq hop0
        have hl0 := hlen k hkl
        rw [HSK.out] at hl0
        obtain ⟨hl1, hl2⟩ := hl0
        have HST : Hid (stJ ts s (k + 1) = if (clT t s).2.headD 0 < t.2.2.2 then puT t (opT t (clT t s)) else puT t (clT t s)) := Lib.hid (by subst hk0; rw [← htd]; rfl)
        have HK0 := Lib.hid hk0
        clear hn hal hlen htd hk0
        go_upto_region 4 with fail
        generalize hX : wr.heap.size = X at *
        generalize (wr.alloc (.cells #[.int .u8 (t.1 : Nat), .string t.2.1, .int .i64 (t.2.2.1 : Nat), .int .i64 (t.2.2.2 : Nat)] 39)) = w0 at *
        obtain ⟨hx0, hx1, hx2, hx3, -⟩ := tcells4 hnew
        generalize hG2 : (fun q => G q ∨ q = X) = G2 at *
        have hXG : G2 X := hG2 ▸ .inr rfl
        generalize hc0 : s.2.headD 0 = c0 at *
        by_cases hcc : t.2.2.2 < c0
        · have d4 : decide ((t.2.2.2 : Int) < (c0 : Int)) = true := decide_eq_true (by omega)
          have hpos : 0 < closeN t.2.2.2 s.2 := closeN_pos ne (by rw [hc0]; exact hcc)
          have hq := heq hpos
          have HST1 : Hid (stJ ts s (k + 1) = puT t ((clT t s).1, (clT t s).2)) := Lib.hid (by rw [HST.out, if_neg (by omega)])
          refine E_region (S := (fun V => V.cell? ⟨X, 3, none⟩ = some (.int .i64 (t.2.2.2 : Nat)) ∧ Hid (NS w0 P B s.1 s.2 G2 V))) 9 (by kernel_rfl) ⟨((HM.out.below (Below.refl _ _).drew).cell hXG).trans hx3, Lib.hid (HM.out.below (Below.refl _ _).drew)⟩ (fun _ _ _ _ _ h => h) (fun Q' hQ hK' hHeld => ?_)
          refine E_take0 hQ (fun _ => hHeld) 0 (v := ?t1v1) rfl rfl (by kernel_rfl) (by kernel_rfl) (by kernel_rfl) (by decide) (by rfl) ?t1y1 ?t1r1
          case t1y1 => (intro w; go_simp; (try with_reducible rfl))
          (try simp only [layE])
          refine E_take0 hQ (fun _ => hHeld) 1 (v := .bool true) rfl rfl (by kernel_rfl) (by kernel_rfl) (by kernel_rfl) (by decide) (by rfl) ?t1y2 ?t1r2
          case t1y2 => (intro w; go_simp; (try first | exact HK0.out | rfl))
          (try simp only [layE])
          refine E_take0 hQ (fun _ => hHeld) 2 (v := .bool true) rfl rfl (by kernel_rfl) (by kernel_rfl) (by kernel_rfl) (by decide) (by rfl) ?t1y3 ?t1r3
          case t1y3 => (intro w; go_simp; (try first | exact HK0.out | rfl))
          (try simp only [layE])
          refine E_take0 hQ (fun _ => hHeld) 3 (v := ?t1v4) rfl rfl (by kernel_rfl) (by kernel_rfl) (by kernel_rfl) (by decide) (by rfl) ?t1y4 ?t1r4
          case t1y4 => (intro w; go_simp; (try with_reducible rfl))
          (try simp only [layE])
          refine E_take hQ hHeld 4 (v := ?t1v5) rfl rfl (by kernel_rfl) (by kernel_rfl) (by kernel_rfl) (by kernel_rfl) (by kernel_rfl) (by rfl) ?t1y5 ?t1r5
          case t1y5 => (intro w hSw; (try dsimp only at hSw); go_simp; (try with_reducible rfl))
          (try simp only [layE])
          refine E_take0 hQ (fun _ => hHeld) 5 (v := ?t1v6) rfl rfl (by kernel_rfl) (by kernel_rfl) (by kernel_rfl) (by decide) (by rfl) ?t1y6 ?t1r6
          case t1y6 => (intro w; go_simp; (try with_reducible rfl))
          (try simp only [layE])
          refine E_one 6 (by kernel_rfl) rfl (by rfl) (fun K hK => ?_)
          go_simp
          refine (tkTopN _ P B s.1 s.2 G2 hHeld.2.out.n ne (by omega)).mono ?_
          rintro e w1 ⟨rfl, hb⟩
          rw [hc0]
          have HN4 := Lib.hid (hHeld.2.out.below hb)
          clear hb
          (skip)
          refine hK.out _ _ (fun _ _ => ⟨(HN4.out.cell hXG).trans hx3, HN4⟩) (fun hHeld' => ?_)
          replace hHeld := hHeld' (by rfl) (by decide)
          clear hK hHeld'
          (try simp only [layE])
          refine E_take0 hQ (fun _ => hHeld) 7 (v := .bool true) rfl rfl (by kernel_rfl) (by kernel_rfl) (by kernel_rfl) (by decide) (by rfl) ?t1y7 ?t1r7
          case t1y7 => (intro w; go_simp; (try first | exact HK0.out | rfl))
          (try simp only [layE])
          refine E_take0 hQ (fun _ => hHeld) 8 (v := ?t1v8) rfl rfl (by kernel_rfl) (by kernel_rfl) (by kernel_rfl) (by decide) (by rfl) ?t1y8 ?t1r8
          case t1y8 => (intro w; go_simp; (try with_reducible rfl))
          (try simp only [layE])
          refine E_one 9 (by kernel_rfl) rfl (by rfl) (fun K hK => ?_)
          go_simp
          (try simp only [layE])
          refine hK.out _ _ (fun _ h => absurd rfl h) (fun _ => ?_)
          clear hK hHeld
          (try simp only [layE])
          refine E_done (by kernel_rfl) ?_ _
          refine hK'.out _ _ ?_
          have p2 := (HN4.out.cell hXG).trans hx2
          have p3 := (HN4.out.cell hXG).trans hx3
          go_wp2_with fail
          refine (tkClose_any _ P B s.1 s.2 t.2.2.1 t.2.2.2 t.2.2.2 G2 HN4.out.n hcl hl1 (by omega)).mono ?_
          rintro e w5 ⟨rfl, hn5, hb5, hk5⟩
          have HN5 : Hid (NS w0 P B (clT t s).1 (clT t s).2 G2 w5) := Lib.hid (HN4.out.step hn5 hb5 hk5)
          clear hn5 hb5 hk5 p2 p3
          have hne1 : (clT t s).2 ≠ [] := clT_ne hcl
          have hle1 : (clT t s).2.length ≤ 100 := Nat.le_trans clT_len hl1
          have hle2 : (clT t s).1.length ≤ 900100 := by unfold clT; simp; omega
          go_upto_region 6 with fail
          refine E_region (S := (fun V => V.cell? ⟨X, 3, none⟩ = some (.int .i64 (t.2.2.2 : Nat)) ∧ Hid (NS w0 P B (clT t s).1 (clT t s).2 G2 V))) 4 (by kernel_rfl) ⟨((HN5.out.below (Below.refl _ _).drew).cell hXG).trans hx3, Lib.hid (HN5.out.below (Below.refl _ _).drew)⟩ (fun _ _ _ _ _ h => h) (fun Q' hQ hK' hHeld => ?_)
          refine E_take0 hQ (fun _ => hHeld) 0 (v := ?t2v1) rfl rfl (by kernel_rfl) (by kernel_rfl) (by kernel_rfl) (by decide) (by rfl) ?t2y1 ?t2r1
          case t2y1 => (intro w; go_simp; (try with_reducible rfl))
          (try simp only [layE])
          refine E_take0 hQ (fun _ => hHeld) 2 (v := ?t2v2) rfl rfl (by kernel_rfl) (by kernel_rfl) (by kernel_rfl) (by decide) (by rfl) ?t2y2 ?t2r2
          case t2y2 => (intro w; go_simp; (try with_reducible rfl))
          (try simp only [layE])
          refine E_take hQ hHeld 3 (v := ?t2v3) rfl rfl (by kernel_rfl) (by kernel_rfl) (by kernel_rfl) (by kernel_rfl) (by kernel_rfl) (by rfl) ?t2y3 ?t2r3
          case t2y3 => (intro w hSw; (try dsimp only at hSw); go_simp; (try with_reducible rfl))
          (try simp only [layE])
          refine E_one 1 (by kernel_rfl) rfl (by rfl) (fun K hK => ?_)
          go_simp
          refine (tkTopN _ P B (clT t s).1 (clT t s).2 G2 hHeld.2.out.n hne1 (by omega)).mono ?_
          rintro e w2 ⟨rfl, hb⟩
          rw [hq]
          have HN6 := Lib.hid (hHeld.2.out.below hb)
          clear hb
          (skip)
          refine hK.out _ _ (fun _ _ => ⟨(HN6.out.cell hXG).trans hx3, HN6⟩) (fun hHeld' => ?_)
          replace hHeld := hHeld' (by rfl) (by decide)
          clear hK hHeld'
          (try simp only [layE])
          refine E_one 4 (by kernel_rfl) rfl (by rfl) (fun K hK => ?_)
          go_simp
          (try simp only [layE])
          refine hK.out _ _ (fun _ h => absurd rfl h) (fun _ => ?_)
          clear hK hHeld
          (try simp only [layE])
          refine E_done (by kernel_rfl) ?_ _
          refine hK'.out _ _ ?_
          have q0 := (HN6.out.cell hXG).trans hx0
          have q1 := (HN6.out.cell hXG).trans hx1
          have q2 := (HN6.out.cell hXG).trans hx2
          have q3 := (HN6.out.cell hXG).trans hx3
          obtain ⟨va, vc, ra, rc, hNX⟩ := HN6.out.n.x
          have HNX := Lib.hid hNX
          clear hNX
          have HSTK : Hid (stJ ts s (k + 1) = puT t ((clT t s).1, (clT t s).2)) := Lib.hid HST1.out
          have HNT : Hid (NS w0 P B ((clT t s).1) ((clT t s).2) G2 _) := HN6
          generalize (clT t s).1 = ov at *
          generalize (clT t s).2 = rv at *
          go_upto_region 13 with fail
          refine E_region (S := (fun V => (V.cell? ⟨P, 0, none⟩ = some (.slice va ov.length vc) ∧ V.cell? ⟨X, 0, none⟩ = some (.int .u8 (t.1 : Nat)) ∧ V.cell? ⟨X, 1, none⟩ = some (.string t.2.1) ∧ V.cell? ⟨X, 2, none⟩ = some (.int .i64 (t.2.2.1 : Nat)) ∧ V.cell? ⟨X, 3, none⟩ = some (.int .i64 (t.2.2.2 : Nat))) ∧ Hid (NX w2 P B va vc ra rc ov rv.reverse G2 V))) 7 (by kernel_rfl) (⟨⟨(HNX.out.below (Below.refl _ _).drew).n.cells.1, ((HNX.out.below (Below.refl _ _).drew).cell hXG).trans q0, ((HNX.out.below (Below.refl _ _).drew).cell hXG).trans q1, ((HNX.out.below (Below.refl _ _).drew).cell hXG).trans q2, ((HNX.out.below (Below.refl _ _).drew).cell hXG).trans q3⟩, Lib.hid (HNX.out.below (Below.refl _ _).drew)⟩) (fun _ _ _ _ _ h => h) (fun Q' hQ hK' hHeld => ?_)
          refine E_take0 hQ (fun _ => hHeld) 0 (v := ?q3v1) rfl rfl (by kernel_rfl) (by kernel_rfl) (by kernel_rfl) (by decide) (by rfl) ?q3y1 ?q3r1
          case q3y1 => (intro w; go_simp; (try with_reducible rfl))
          (try simp only [layE])
          refine E_take0 hQ (fun _ => hHeld) 1 (v := ?q3v2) rfl rfl (by kernel_rfl) (by kernel_rfl) (by kernel_rfl) (by decide) (by rfl) ?q3y2 ?q3r2
          case q3y2 => (intro w; go_simp; (try with_reducible rfl))
          (try simp only [layE])
          refine E_take0 hQ (fun _ => hHeld) 2 (v := ?q3v3) rfl rfl (by kernel_rfl) (by kernel_rfl) (by kernel_rfl) (by decide) (by rfl) ?q3y3 ?q3r3
          case q3y3 => (intro w; go_simp; (try with_reducible rfl))
          (try simp only [layE])
          refine E_take0 hQ (fun _ => hHeld) 3 (v := ?q3v4) rfl rfl (by kernel_rfl) (by kernel_rfl) (by kernel_rfl) (by decide) (by rfl) ?q3y4 ?q3r4
          case q3y4 => (intro w; go_simp; (try with_reducible rfl))
          (try simp only [layE])
          refine E_take hQ hHeld 4 (v := ?q3v5) rfl rfl (by kernel_rfl) (by kernel_rfl) (by kernel_rfl) (by kernel_rfl) (by kernel_rfl) (by rfl) ?q3y5 ?q3r5
          case q3y5 => (intro w hSw; (try dsimp only at hSw); go_simp; (try with_reducible rfl))
          (try simp only [layE])
          refine E_take hQ hHeld 5 (v := ?q3v6) rfl rfl (by kernel_rfl) (by kernel_rfl) (by kernel_rfl) (by kernel_rfl) (by kernel_rfl) (by rfl) ?q3y6 ?q3r6
          case q3y6 => (intro w hSw; (try dsimp only at hSw); go_simp; (try with_reducible rfl))
          (try simp only [layE])
          refine E_one 6 (by kernel_rfl) rfl (by rfl) (fun K hK => ?_)
          generalize w2.drew = w7 at *
          have hal7 : Below w7.heap.size w7 (w7.alloc (.cells #[.int .u8 (t.1 : Nat), .string t.2.1, .int .i64 (t.2.2.1 : Nat), .int .i64 (t.2.2.2 : Nat)] 39)) := (Below.refl _ _).alloc (Nat.le_refl _) _
          have HN7 := Lib.hid (hHeld.2.out.below hal7)
          have hBw3 : B ≤ w7.heap.size := Nat.le_trans HN7.out.n.hBP (Nat.le_of_lt hHeld.2.out.n.lt)
          have hsz3 : (w7.alloc (.cells #[.int .u8 (t.1 : Nat), .string t.2.1, .int .i64 (t.2.2.1 : Nat), .int .i64 (t.2.2.2 : Nat)] 39)).heap.size = w7.heap.size + 1 := by simp
          go_simp
          (try simp only [layE])
          refine hK.out _ _ (fun _ _ => ⟨⟨(HN7.out).n.cells.1, ((HN7.out).cell hXG).trans q0, ((HN7.out).cell hXG).trans q1, ((HN7.out).cell hXG).trans q2, ((HN7.out).cell hXG).trans q3⟩, Lib.hid (HN7.out)⟩) (fun hHeld' => ?_)
          replace hHeld := hHeld' (by rfl) (by decide)
          clear hK hHeld'
          (try simp only [layE])
          refine E_one 7 (by kernel_rfl) rfl (by rfl) (fun K hK => ?_)
          refine opwp_pushN _ _ 31 rfl B 39 i0 (.agg #[.int .u8 0, .string { data := #[] }, .int .i64 0, .int .i64 0]) 4 40 Tryz.underlying31 hi hz0 hz1 hz2 rfl (by decide) _ (ov.length) (ov.flatMap tokC) rfl HN7.out.n.own1 ⟨w7.heap.size, 0, none⟩ 1 1 [_, _, _, _] rfl rfl (new4 _ _ _ _ _ _) (by simp [Value.oneCell']) (by unfold maxLen; omega) (by omega) (by omega) ?_
          intro v' w8 hown' hgrow hfr
          obtain ⟨va', vc', rfl, e3, e4, hA8⟩ := NX.pushOut HN7.out (t := t) hown' hgrow hfr
          have HA8 := Lib.hid hA8
          clear hown' hgrow hfr hA8 HN7 hal7 hsz3
          (try simp only [layE])
          refine hK.out _ _ (fun _ h => absurd rfl h) (fun _ => ?_)
          clear hK hHeld
          (try simp only [layE])
          refine E_take0 hQ (fun h => absurd h (by decide)) 8 (v := ?q3v7) rfl rfl (by kernel_rfl) (by kernel_rfl) (by kernel_rfl) (by decide) (by rfl) ?q3y7 ?q3r7
          case q3y7 => (intro w; go_simp; (try with_reducible rfl))
          (try simp only [layE])
          refine E_take0 hQ (fun h => absurd h (by decide)) 9 (v := ?q3v8) rfl rfl (by kernel_rfl) (by kernel_rfl) (by kernel_rfl) (by decide) (by rfl) ?q3y8 ?q3r8
          case q3y8 => (intro w; go_simp; (try with_reducible rfl))
          (try simp only [layE])
          refine E_one 10 (by kernel_rfl) rfl (by rfl) (fun K hK => ?_)
          go_simp
          (try simp only [layE])
          refine hK.out _ _ (fun h => absurd h (by decide)) (fun _ => ?_)
          clear hK
          (try simp only [layE])
          refine E_done (by kernel_rfl) ?_ _
          refine hK'.out _ _ ?_
          have HN9 := Lib.hid (HN.out.round (by have := HAL.out; rwa [← hX] at this) (X := X) (by have h2 := HNT.out.step HA8.out.r HA8.out.b HA8.out.k; rw [← hG2] at h2; exact h2))
          clear q0 q1 q2 q3
          go_wp2_with fail
          go_roundg (ts.length + 1 - (k + 1))
          case measure => omega
          case rel => exact ⟨k + 1, by omega, by omega, by simp, Lib.hid (by rw [HSTK.out]; exact HN9.out)⟩
        · have d4 : decide ((t.2.2.2 : Int) < (c0 : Int)) = false := decide_eq_false (by omega)
          refine E_region (S := (fun V => V.cell? ⟨X, 3, none⟩ = some (.int .i64 (t.2.2.2 : Nat)) ∧ Hid (NS w0 P B s.1 s.2 G2 V))) 9 (by kernel_rfl) ⟨((HM.out.below (Below.refl _ _).drew).cell hXG).trans hx3, Lib.hid (HM.out.below (Below.refl _ _).drew)⟩ (fun _ _ _ _ _ h => h) (fun Q' hQ hK' hHeld => ?_)
          refine E_take0 hQ (fun _ => hHeld) 0 (v := ?t4v1) rfl rfl (by kernel_rfl) (by kernel_rfl) (by kernel_rfl) (by decide) (by rfl) ?t4y1 ?t4r1
          case t4y1 => (intro w; go_simp; (try with_reducible rfl))
          (try simp only [layE])
          refine E_take0 hQ (fun _ => hHeld) 1 (v := .bool true) rfl rfl (by kernel_rfl) (by kernel_rfl) (by kernel_rfl) (by decide) (by rfl) ?t4y2 ?t4r2
          case t4y2 => (intro w; go_simp; (try first | exact HK0.out | rfl))
          (try simp only [layE])
          refine E_take0 hQ (fun _ => hHeld) 2 (v := .bool true) rfl rfl (by kernel_rfl) (by kernel_rfl) (by kernel_rfl) (by decide) (by rfl) ?t4y3 ?t4r3
          case t4y3 => (intro w; go_simp; (try first | exact HK0.out | rfl))
          (try simp only [layE])
          refine E_take0 hQ (fun _ => hHeld) 3 (v := ?t4v4) rfl rfl (by kernel_rfl) (by kernel_rfl) (by kernel_rfl) (by decide) (by rfl) ?t4y4 ?t4r4
          case t4y4 => (intro w; go_simp; (try with_reducible rfl))
          (try simp only [layE])
          refine E_take hQ hHeld 4 (v := ?t4v5) rfl rfl (by kernel_rfl) (by kernel_rfl) (by kernel_rfl) (by kernel_rfl) (by kernel_rfl) (by rfl) ?t4y5 ?t4r5
          case t4y5 => (intro w hSw; (try dsimp only at hSw); go_simp; (try with_reducible rfl))
          (try simp only [layE])
          refine E_take0 hQ (fun _ => hHeld) 5 (v := ?t4v6) rfl rfl (by kernel_rfl) (by kernel_rfl) (by kernel_rfl) (by decide) (by rfl) ?t4y6 ?t4r6
          case t4y6 => (intro w; go_simp; (try with_reducible rfl))
          (try simp only [layE])
          refine E_one 6 (by kernel_rfl) rfl (by rfl) (fun K hK => ?_)
          go_simp
          refine (tkTopN _ P B s.1 s.2 G2 hHeld.2.out.n ne (by omega)).mono ?_
          rintro e w4 ⟨rfl, hb⟩
          rw [hc0]
          have HN4 := Lib.hid (hHeld.2.out.below hb)
          clear hb
          (skip)
          refine hK.out _ _ (fun _ _ => ⟨(HN4.out.cell hXG).trans hx3, HN4⟩) (fun hHeld' => ?_)
          replace hHeld := hHeld' (by rfl) (by decide)
          clear hK hHeld'
          (try simp only [layE])
          refine E_take0 hQ (fun _ => hHeld) 7 (v := .bool false) rfl rfl (by kernel_rfl) (by kernel_rfl) (by kernel_rfl) (by decide) (by rfl) ?t4y7 ?t4r7
          case t4y7 => (intro w; go_simp; (try first | exact HK0.out | rfl))
          (try simp only [layE])
          refine E_take0 hQ (fun _ => hHeld) 8 (v := ?t4v8) rfl rfl (by kernel_rfl) (by kernel_rfl) (by kernel_rfl) (by decide) (by rfl) ?t4y8 ?t4r8
          case t4y8 => (intro w; go_simp; (try with_reducible rfl))
          (try simp only [layE])
          refine E_one 9 (by kernel_rfl) rfl (by rfl) (fun K hK => ?_)
          go_simp
          (try simp only [layE])
          refine hK.out _ _ (fun _ h => absurd rfl h) (fun _ => ?_)
          clear hK hHeld
          (try simp only [layE])
          refine E_done (by kernel_rfl) ?_ _
          refine hK'.out _ _ ?_
          have hcz : closeN t.2.2.2 s.2 = 0 := closeN_zero (by rw [hc0]; exact hcc)
          rw [clT_id hcz] at HST hop0
          rw [hc0] at HST hop0
          clear hcl heq hcz
          go_upto_region 8 with fail
          by_cases hcd : c0 < t.2.2.2
          · have d8 : decide ((t.2.2.2 : Int) > (c0 : Int)) = true := decide_eq_true (by omega)
            have hl16 := hop0 hcd
            have HST1 : Hid (stJ ts s (k + 1) = puT t ((opT t s).1, (opT t s).2)) := Lib.hid (by rw [HST.out, if_pos hcd])
            refine E_region (S := (fun V => V.cell? ⟨X, 3, none⟩ = some (.int .i64 (t.2.2.2 : Nat)) ∧ Hid (NS w0 P B s.1 s.2 G2 V))) 9 (by kernel_rfl) ⟨((HN4.out.below (Below.refl _ _).drew).cell hXG).trans hx3, Lib.hid (HN4.out.below (Below.refl _ _).drew)⟩ (fun _ _ _ _ _ h => h) (fun Q' hQ hK' hHeld => ?_)
            refine E_take0 hQ (fun _ => hHeld) 0 (v := ?t5v1) rfl rfl (by kernel_rfl) (by kernel_rfl) (by kernel_rfl) (by decide) (by rfl) ?t5y1 ?t5r1
            case t5y1 => (intro w; go_simp; (try with_reducible rfl))
            (try simp only [layE])
            refine E_take0 hQ (fun _ => hHeld) 1 (v := .bool true) rfl rfl (by kernel_rfl) (by kernel_rfl) (by kernel_rfl) (by decide) (by rfl) ?t5y2 ?t5r2
            case t5y2 => (intro w; go_simp; (try first | exact HK0.out | rfl))
            (try simp only [layE])
            refine E_take0 hQ (fun _ => hHeld) 2 (v := .bool true) rfl rfl (by kernel_rfl) (by kernel_rfl) (by kernel_rfl) (by decide) (by rfl) ?t5y3 ?t5r3
            case t5y3 => (intro w; go_simp; (try first | exact HK0.out | rfl))
            (try simp only [layE])
            refine E_take0 hQ (fun _ => hHeld) 3 (v := ?t5v4) rfl rfl (by kernel_rfl) (by kernel_rfl) (by kernel_rfl) (by decide) (by rfl) ?t5y4 ?t5r4
            case t5y4 => (intro w; go_simp; (try with_reducible rfl))
            (try simp only [layE])
            refine E_take hQ hHeld 4 (v := ?t5v5) rfl rfl (by kernel_rfl) (by kernel_rfl) (by kernel_rfl) (by kernel_rfl) (by kernel_rfl) (by rfl) ?t5y5 ?t5r5
            case t5y5 => (intro w hSw; (try dsimp only at hSw); go_simp; (try with_reducible rfl))
            (try simp only [layE])
            refine E_take0 hQ (fun _ => hHeld) 5 (v := ?t5v6) rfl rfl (by kernel_rfl) (by kernel_rfl) (by kernel_rfl) (by decide) (by rfl) ?t5y6 ?t5r6
            case t5y6 => (intro w; go_simp; (try with_reducible rfl))
            (try simp only [layE])
            refine E_one 6 (by kernel_rfl) rfl (by rfl) (fun K hK => ?_)
            go_simp
            refine (tkTopN _ P B s.1 s.2 G2 hHeld.2.out.n ne (by omega)).mono ?_
            rintro e w5 ⟨rfl, hb⟩
            rw [hc0]
            have HN8 := Lib.hid (hHeld.2.out.below hb)
            clear hb
            (skip)
            refine hK.out _ _ (fun _ _ => ⟨(HN8.out.cell hXG).trans hx3, HN8⟩) (fun hHeld' => ?_)
            replace hHeld := hHeld' (by rfl) (by decide)
            clear hK hHeld'
            (try simp only [layE])
            refine E_take0 hQ (fun _ => hHeld) 7 (v := .bool true) rfl rfl (by kernel_rfl) (by kernel_rfl) (by kernel_rfl) (by decide) (by rfl) ?t5y7 ?t5r7
            case t5y7 => (intro w; go_simp; (try first | exact HK0.out | rfl))
            (try simp only [layE])
            refine E_take0 hQ (fun _ => hHeld) 8 (v := ?t5v8) rfl rfl (by kernel_rfl) (by kernel_rfl) (by kernel_rfl) (by decide) (by rfl) ?t5y8 ?t5r8
            case t5y8 => (intro w; go_simp; (try with_reducible rfl))
            (try simp only [layE])
            refine E_one 9 (by kernel_rfl) rfl (by rfl) (fun K hK => ?_)
            go_simp
            (try simp only [layE])
            refine hK.out _ _ (fun _ h => absurd rfl h) (fun _ => ?_)
            clear hK hHeld
            (try simp only [layE])
            refine E_done (by kernel_rfl) ?_ _
            refine hK'.out _ _ ?_
            have q0 := (HN8.out.cell hXG).trans hx0
            have q1 := (HN8.out.cell hXG).trans hx1
            have q2 := (HN8.out.cell hXG).trans hx2
            have q3 := (HN8.out.cell hXG).trans hx3
            go_wp2_with fail
            refine (tkOpen_any _ P B s.1 s.2 t G2 HN8.out.n hl16 (by omega)).mono ?_
            rintro e w10 ⟨rfl, hn5, hb5, hk5⟩
            have HNA : Hid (NS w0 P B (opT t s).1 (opT t s).2 G2 w10) := Lib.hid (HN8.out.step hn5 hb5 hk5)
            clear hn5 hb5 hk5 q0 q1 q2 q3
            have hle2 : (opT t s).1.length ≤ 900100 := by unfold opT; simp; omega
            have q0 := (HNA.out.cell hXG).trans hx0
            have q1 := (HNA.out.cell hXG).trans hx1
            have q2 := (HNA.out.cell hXG).trans hx2
            have q3 := (HNA.out.cell hXG).trans hx3
            obtain ⟨va, vc, ra, rc, hNX⟩ := HNA.out.n.x
            have HNX := Lib.hid hNX
            clear hNX
            have HSTK : Hid (stJ ts s (k + 1) = puT t ((opT t s).1, (opT t s).2)) := Lib.hid HST1.out
            have HNT : Hid (NS w0 P B ((opT t s).1) ((opT t s).2) G2 _) := HNA
            generalize (opT t s).1 = ov at *
            generalize (opT t s).2 = rv at *
            go_upto_region 13 with fail
            refine E_region (S := (fun V => (V.cell? ⟨P, 0, none⟩ = some (.slice va ov.length vc) ∧ V.cell? ⟨X, 0, none⟩ = some (.int .u8 (t.1 : Nat)) ∧ V.cell? ⟨X, 1, none⟩ = some (.string t.2.1) ∧ V.cell? ⟨X, 2, none⟩ = some (.int .i64 (t.2.2.1 : Nat)) ∧ V.cell? ⟨X, 3, none⟩ = some (.int .i64 (t.2.2.2 : Nat))) ∧ Hid (NX w10 P B va vc ra rc ov rv.reverse G2 V))) 7 (by kernel_rfl) (⟨⟨(HNX.out.below (Below.refl _ _).drew).n.cells.1, ((HNX.out.below (Below.refl _ _).drew).cell hXG).trans q0, ((HNX.out.below (Below.refl _ _).drew).cell hXG).trans q1, ((HNX.out.below (Below.refl _ _).drew).cell hXG).trans q2, ((HNX.out.below (Below.refl _ _).drew).cell hXG).trans q3⟩, Lib.hid (HNX.out.below (Below.refl _ _).drew)⟩) (fun _ _ _ _ _ h => h) (fun Q' hQ hK' hHeld => ?_)
            refine E_take0 hQ (fun _ => hHeld) 0 (v := ?q7v1) rfl rfl (by kernel_rfl) (by kernel_rfl) (by kernel_rfl) (by decide) (by rfl) ?q7y1 ?q7r1
            case q7y1 => (intro w; go_simp; (try with_reducible rfl))
            (try simp only [layE])
            refine E_take0 hQ (fun _ => hHeld) 1 (v := ?q7v2) rfl rfl (by kernel_rfl) (by kernel_rfl) (by kernel_rfl) (by decide) (by rfl) ?q7y2 ?q7r2
            case q7y2 => (intro w; go_simp; (try with_reducible rfl))
            (try simp only [layE])
            refine E_take0 hQ (fun _ => hHeld) 2 (v := ?q7v3) rfl rfl (by kernel_rfl) (by kernel_rfl) (by kernel_rfl) (by decide) (by rfl) ?q7y3 ?q7r3
            case q7y3 => (intro w; go_simp; (try with_reducible rfl))
            (try simp only [layE])
            refine E_take0 hQ (fun _ => hHeld) 3 (v := ?q7v4) rfl rfl (by kernel_rfl) (by kernel_rfl) (by kernel_rfl) (by decide) (by rfl) ?q7y4 ?q7r4
            case q7y4 => (intro w; go_simp; (try with_reducible rfl))
            (try simp only [layE])
            refine E_take hQ hHeld 4 (v := ?q7v5) rfl rfl (by kernel_rfl) (by kernel_rfl) (by kernel_rfl) (by kernel_rfl) (by kernel_rfl) (by rfl) ?q7y5 ?q7r5
            case q7y5 => (intro w hSw; (try dsimp only at hSw); go_simp; (try with_reducible rfl))
            (try simp only [layE])
            refine E_take hQ hHeld 5 (v := ?q7v6) rfl rfl (by kernel_rfl) (by kernel_rfl) (by kernel_rfl) (by kernel_rfl) (by kernel_rfl) (by rfl) ?q7y6 ?q7r6
            case q7y6 => (intro w hSw; (try dsimp only at hSw); go_simp; (try with_reducible rfl))
            (try simp only [layE])
            refine E_one 6 (by kernel_rfl) rfl (by rfl) (fun K hK => ?_)
            generalize w10.drew = w7 at *
            have hal7 : Below w7.heap.size w7 (w7.alloc (.cells #[.int .u8 (t.1 : Nat), .string t.2.1, .int .i64 (t.2.2.1 : Nat), .int .i64 (t.2.2.2 : Nat)] 39)) := (Below.refl _ _).alloc (Nat.le_refl _) _
            have HN7 := Lib.hid (hHeld.2.out.below hal7)
            have hBw3 : B ≤ w7.heap.size := Nat.le_trans HN7.out.n.hBP (Nat.le_of_lt hHeld.2.out.n.lt)
            have hsz3 : (w7.alloc (.cells #[.int .u8 (t.1 : Nat), .string t.2.1, .int .i64 (t.2.2.1 : Nat), .int .i64 (t.2.2.2 : Nat)] 39)).heap.size = w7.heap.size + 1 := by simp
            go_simp
            (try simp only [layE])
            refine hK.out _ _ (fun _ _ => ⟨⟨(HN7.out).n.cells.1, ((HN7.out).cell hXG).trans q0, ((HN7.out).cell hXG).trans q1, ((HN7.out).cell hXG).trans q2, ((HN7.out).cell hXG).trans q3⟩, Lib.hid (HN7.out)⟩) (fun hHeld' => ?_)
            replace hHeld := hHeld' (by rfl) (by decide)
            clear hK hHeld'
            (try simp only [layE])
            refine E_one 7 (by kernel_rfl) rfl (by rfl) (fun K hK => ?_)
            refine opwp_pushN _ _ 31 rfl B 39 i0 (.agg #[.int .u8 0, .string { data := #[] }, .int .i64 0, .int .i64 0]) 4 40 Tryz.underlying31 hi hz0 hz1 hz2 rfl (by decide) _ (ov.length) (ov.flatMap tokC) rfl HN7.out.n.own1 ⟨w7.heap.size, 0, none⟩ 1 1 [_, _, _, _] rfl rfl (new4 _ _ _ _ _ _) (by simp [Value.oneCell']) (by unfold maxLen; omega) (by omega) (by omega) ?_
            intro v' w8 hown' hgrow hfr
            obtain ⟨va', vc', rfl, e3, e4, hA8⟩ := NX.pushOut HN7.out (t := t) hown' hgrow hfr
            have HA8 := Lib.hid hA8
            clear hown' hgrow hfr hA8 HN7 hal7 hsz3
            (try simp only [layE])
            refine hK.out _ _ (fun _ h => absurd rfl h) (fun _ => ?_)
            clear hK hHeld
            (try simp only [layE])
            refine E_take0 hQ (fun h => absurd h (by decide)) 8 (v := ?q7v7) rfl rfl (by kernel_rfl) (by kernel_rfl) (by kernel_rfl) (by decide) (by rfl) ?q7y7 ?q7r7
            case q7y7 => (intro w; go_simp; (try with_reducible rfl))
            (try simp only [layE])
            refine E_take0 hQ (fun h => absurd h (by decide)) 9 (v := ?q7v8) rfl rfl (by kernel_rfl) (by kernel_rfl) (by kernel_rfl) (by decide) (by rfl) ?q7y8 ?q7r8
            case q7y8 => (intro w; go_simp; (try with_reducible rfl))
            (try simp only [layE])
            refine E_one 10 (by kernel_rfl) rfl (by rfl) (fun K hK => ?_)
            go_simp
            (try simp only [layE])
            refine hK.out _ _ (fun h => absurd h (by decide)) (fun _ => ?_)
            clear hK
            (try simp only [layE])
            refine E_done (by kernel_rfl) ?_ _
            refine hK'.out _ _ ?_
            have HN9 := Lib.hid (HN.out.round (by have := HAL.out; rwa [← hX] at this) (X := X) (by have h2 := HNT.out.step HA8.out.r HA8.out.b HA8.out.k; rw [← hG2] at h2; exact h2))
            clear q0 q1 q2 q3
            go_wp2_with fail
            go_roundg (ts.length + 1 - (k + 1))
            case measure => omega
            case rel => exact ⟨k + 1, by omega, by omega, by simp, Lib.hid (by rw [HSTK.out]; exact HN9.out)⟩
          · have d8 : decide ((t.2.2.2 : Int) > (c0 : Int)) = false := decide_eq_false (by omega)
            have HST1 : Hid (stJ ts s (k + 1) = puT t (s.1, s.2)) := Lib.hid (by rw [HST.out, if_neg hcd])
            refine E_region (S := (fun V => V.cell? ⟨X, 3, none⟩ = some (.int .i64 (t.2.2.2 : Nat)) ∧ Hid (NS w0 P B s.1 s.2 G2 V))) 9 (by kernel_rfl) ⟨((HN4.out.below (Below.refl _ _).drew).cell hXG).trans hx3, Lib.hid (HN4.out.below (Below.refl _ _).drew)⟩ (fun _ _ _ _ _ h => h) (fun Q' hQ hK' hHeld => ?_)
            refine E_take0 hQ (fun _ => hHeld) 0 (v := ?t6v1) rfl rfl (by kernel_rfl) (by kernel_rfl) (by kernel_rfl) (by decide) (by rfl) ?t6y1 ?t6r1
            case t6y1 => (intro w; go_simp; (try with_reducible rfl))
            (try simp only [layE])
            refine E_take0 hQ (fun _ => hHeld) 1 (v := .bool true) rfl rfl (by kernel_rfl) (by kernel_rfl) (by kernel_rfl) (by decide) (by rfl) ?t6y2 ?t6r2
            case t6y2 => (intro w; go_simp; (try first | exact HK0.out | rfl))
            (try simp only [layE])
            refine E_take0 hQ (fun _ => hHeld) 2 (v := .bool true) rfl rfl (by kernel_rfl) (by kernel_rfl) (by kernel_rfl) (by decide) (by rfl) ?t6y3 ?t6r3
            case t6y3 => (intro w; go_simp; (try first | exact HK0.out | rfl))
            (try simp only [layE])
            refine E_take0 hQ (fun _ => hHeld) 3 (v := ?t6v4) rfl rfl (by kernel_rfl) (by kernel_rfl) (by kernel_rfl) (by decide) (by rfl) ?t6y4 ?t6r4
            case t6y4 => (intro w; go_simp; (try with_reducible rfl))
            (try simp only [layE])
            refine E_take hQ hHeld 4 (v := ?t6v5) rfl rfl (by kernel_rfl) (by kernel_rfl) (by kernel_rfl) (by kernel_rfl) (by kernel_rfl) (by rfl) ?t6y5 ?t6r5
            case t6y5 => (intro w hSw; (try dsimp only at hSw); go_simp; (try with_reducible rfl))
            (try simp only [layE])
            refine E_take0 hQ (fun _ => hHeld) 5 (v := ?t6v6) rfl rfl (by kernel_rfl) (by kernel_rfl) (by kernel_rfl) (by decide) (by rfl) ?t6y6 ?t6r6
            case t6y6 => (intro w; go_simp; (try with_reducible rfl))
            (try simp only [layE])
            refine E_one 6 (by kernel_rfl) rfl (by rfl) (fun K hK => ?_)
            go_simp
            refine (tkTopN _ P B s.1 s.2 G2 hHeld.2.out.n ne (by omega)).mono ?_
            rintro e w6 ⟨rfl, hb⟩
            rw [hc0]
            have HN8 := Lib.hid (hHeld.2.out.below hb)
            clear hb
            (skip)
            refine hK.out _ _ (fun _ _ => ⟨(HN8.out.cell hXG).trans hx3, HN8⟩) (fun hHeld' => ?_)
            replace hHeld := hHeld' (by rfl) (by decide)
            clear hK hHeld'
            (try simp only [layE])
            refine E_take0 hQ (fun _ => hHeld) 7 (v := .bool false) rfl rfl (by kernel_rfl) (by kernel_rfl) (by kernel_rfl) (by decide) (by rfl) ?t6y7 ?t6r7
            case t6y7 => (intro w; go_simp; (try first | exact HK0.out | rfl))
            (try simp only [layE])
            refine E_take0 hQ (fun _ => hHeld) 8 (v := ?t6v8) rfl rfl (by kernel_rfl) (by kernel_rfl) (by kernel_rfl) (by decide) (by rfl) ?t6y8 ?t6r8
            case t6y8 => (intro w; go_simp; (try with_reducible rfl))
            (try simp only [layE])
            refine E_one 9 (by kernel_rfl) rfl (by rfl) (fun K hK => ?_)
            go_simp
            (try simp only [layE])
            refine hK.out _ _ (fun _ h => absurd rfl h) (fun _ => ?_)
            clear hK hHeld
            (try simp only [layE])
            refine E_done (by kernel_rfl) ?_ _
            refine hK'.out _ _ ?_
            have q0 := (HN8.out.cell hXG).trans hx0
            have q1 := (HN8.out.cell hXG).trans hx1
            have q2 := (HN8.out.cell hXG).trans hx2
            have q3 := (HN8.out.cell hXG).trans hx3
            obtain ⟨va, vc, ra, rc, hNX⟩ := HN8.out.n.x
            have HNX := Lib.hid hNX
            clear hNX
            have HSTK : Hid (stJ ts s (k + 1) = puT t (s.1, s.2)) := Lib.hid HST1.out
            have HNT : Hid (NS w0 P B (s.1) (s.2) G2 _) := HN8
            generalize s.1 = ov at *
            generalize s.2 = rv at *
            go_upto_region 13 with fail
            refine E_region (S := (fun V => (V.cell? ⟨P, 0, none⟩ = some (.slice va ov.length vc) ∧ V.cell? ⟨X, 0, none⟩ = some (.int .u8 (t.1 : Nat)) ∧ V.cell? ⟨X, 1, none⟩ = some (.string t.2.1) ∧ V.cell? ⟨X, 2, none⟩ = some (.int .i64 (t.2.2.1 : Nat)) ∧ V.cell? ⟨X, 3, none⟩ = some (.int .i64 (t.2.2.2 : Nat))) ∧ Hid (NX w6 P B va vc ra rc ov rv.reverse G2 V))) 7 (by kernel_rfl) (⟨⟨(HNX.out.below (Below.refl _ _).drew).n.cells.1, ((HNX.out.below (Below.refl _ _).drew).cell hXG).trans q0, ((HNX.out.below (Below.refl _ _).drew).cell hXG).trans q1, ((HNX.out.below (Below.refl _ _).drew).cell hXG).trans q2, ((HNX.out.below (Below.refl _ _).drew).cell hXG).trans q3⟩, Lib.hid (HNX.out.below (Below.refl _ _).drew)⟩) (fun _ _ _ _ _ h => h) (fun Q' hQ hK' hHeld => ?_)
            refine E_take0 hQ (fun _ => hHeld) 0 (v := ?q8v1) rfl rfl (by kernel_rfl) (by kernel_rfl) (by kernel_rfl) (by decide) (by rfl) ?q8y1 ?q8r1
            case q8y1 => (intro w; go_simp; (try with_reducible rfl))
            (try simp only [layE])
            refine E_take0 hQ (fun _ => hHeld) 1 (v := ?q8v2) rfl rfl (by kernel_rfl) (by kernel_rfl) (by kernel_rfl) (by decide) (by rfl) ?q8y2 ?q8r2
            case q8y2 => (intro w; go_simp; (try with_reducible rfl))
            (try simp only [layE])
            refine E_take0 hQ (fun _ => hHeld) 2 (v := ?q8v3) rfl rfl (by kernel_rfl) (by kernel_rfl) (by kernel_rfl) (by decide) (by rfl) ?q8y3 ?q8r3
            case q8y3 => (intro w; go_simp; (try with_reducible rfl))
            (try simp only [layE])
            refine E_take0 hQ (fun _ => hHeld) 3 (v := ?q8v4) rfl rfl (by kernel_rfl) (by kernel_rfl) (by kernel_rfl) (by decide) (by rfl) ?q8y4 ?q8r4
            case q8y4 => (intro w; go_simp; (try with_reducible rfl))
            (try simp only [layE])
            refine E_take hQ hHeld 4 (v := ?q8v5) rfl rfl (by kernel_rfl) (by kernel_rfl) (by kernel_rfl) (by kernel_rfl) (by kernel_rfl) (by rfl) ?q8y5 ?q8r5
            case q8y5 => (intro w hSw; (try dsimp only at hSw); go_simp; (try with_reducible rfl))
            (try simp only [layE])
            refine E_take hQ hHeld 5 (v := ?q8v6) rfl rfl (by kernel_rfl) (by kernel_rfl) (by kernel_rfl) (by kernel_rfl) (by kernel_rfl) (by rfl) ?q8y6 ?q8r6
            case q8y6 => (intro w hSw; (try dsimp only at hSw); go_simp; (try with_reducible rfl))
            (try simp only [layE])
            refine E_one 6 (by kernel_rfl) rfl (by rfl) (fun K hK => ?_)
            generalize w6.drew = w7 at *
            have hal7 : Below w7.heap.size w7 (w7.alloc (.cells #[.int .u8 (t.1 : Nat), .string t.2.1, .int .i64 (t.2.2.1 : Nat), .int .i64 (t.2.2.2 : Nat)] 39)) := (Below.refl _ _).alloc (Nat.le_refl _) _
            have HN7 := Lib.hid (hHeld.2.out.below hal7)
            have hBw3 : B ≤ w7.heap.size := Nat.le_trans HN7.out.n.hBP (Nat.le_of_lt hHeld.2.out.n.lt)
            have hsz3 : (w7.alloc (.cells #[.int .u8 (t.1 : Nat), .string t.2.1, .int .i64 (t.2.2.1 : Nat), .int .i64 (t.2.2.2 : Nat)] 39)).heap.size = w7.heap.size + 1 := by simp
            go_simp
            (try simp only [layE])
            refine hK.out _ _ (fun _ _ => ⟨⟨(HN7.out).n.cells.1, ((HN7.out).cell hXG).trans q0, ((HN7.out).cell hXG).trans q1, ((HN7.out).cell hXG).trans q2, ((HN7.out).cell hXG).trans q3⟩, Lib.hid (HN7.out)⟩) (fun hHeld' => ?_)
            replace hHeld := hHeld' (by rfl) (by decide)
            clear hK hHeld'
            (try simp only [layE])
            refine E_one 7 (by kernel_rfl) rfl (by rfl) (fun K hK => ?_)
            refine opwp_pushN _ _ 31 rfl B 39 i0 (.agg #[.int .u8 0, .string { data := #[] }, .int .i64 0, .int .i64 0]) 4 40 Tryz.underlying31 hi hz0 hz1 hz2 rfl (by decide) _ (ov.length) (ov.flatMap tokC) rfl HN7.out.n.own1 ⟨w7.heap.size, 0, none⟩ 1 1 [_, _, _, _] rfl rfl (new4 _ _ _ _ _ _) (by simp [Value.oneCell']) (by unfold maxLen; omega) (by omega) (by omega) ?_
            intro v' w8 hown' hgrow hfr
            obtain ⟨va', vc', rfl, e3, e4, hA8⟩ := NX.pushOut HN7.out (t := t) hown' hgrow hfr
            have HA8 := Lib.hid hA8
            clear hown' hgrow hfr hA8 HN7 hal7 hsz3
            (try simp only [layE])
            refine hK.out _ _ (fun _ h => absurd rfl h) (fun _ => ?_)
            clear hK hHeld
            (try simp only [layE])
            refine E_take0 hQ (fun h => absurd h (by decide)) 8 (v := ?q8v7) rfl rfl (by kernel_rfl) (by kernel_rfl) (by kernel_rfl) (by decide) (by rfl) ?q8y7 ?q8r7
            case q8y7 => (intro w; go_simp; (try with_reducible rfl))
            (try simp only [layE])
            refine E_take0 hQ (fun h => absurd h (by decide)) 9 (v := ?q8v8) rfl rfl (by kernel_rfl) (by kernel_rfl) (by kernel_rfl) (by decide) (by rfl) ?q8y8 ?q8r8
            case q8y8 => (intro w; go_simp; (try with_reducible rfl))
            (try simp only [layE])
            refine E_one 10 (by kernel_rfl) rfl (by rfl) (fun K hK => ?_)
            go_simp
            (try simp only [layE])
            refine hK.out _ _ (fun h => absurd h (by decide)) (fun _ => ?_)
            clear hK
            (try simp only [layE])
            refine E_done (by kernel_rfl) ?_ _
            refine hK'.out _ _ ?_
            have HN9 := Lib.hid (HN.out.round (by have := HAL.out; rwa [← hX] at this) (X := X) (by have h2 := HNT.out.step HA8.out.r HA8.out.b HA8.out.k; rw [← hG2] at h2; exact h2))
            clear q0 q1 q2 q3
            go_wp2_with fail
            go_roundg (ts.length + 1 - (k + 1))
            case measure => omega
            case rel => exact ⟨k + 1, by omega, by omega, by simp, Lib.hid (by rw [HSTK.out]; exact HN9.out)⟩
      · obtain ⟨m, hm⟩ : ∃ m, k = m + 1 := ⟨k - 1, by omega⟩
        have d0 : decide ((k : Int) = 0) = false := decide_eq_false (by omega)
        have d9 : decide ((k : Int) > 0) = true := decide_eq_true (by omega)
        have d9b : decide (0 < k) = true := decide_eq_true (by omega)
        have hml : m < ts.length := by omega
        have hm1 : (m : Int) < (ts.length : Int) := by omega
        have hw2 : IntKind.i64.wrap ((k : Int) - 1) = (m : Int) := by rw [IntWalk.i64_in _ (by omega)]; omega
        have hy := (HN.out.cell hG).trans (HROW.out (m * 4 + 0) _ ((tokC_get ts m hml 0 (by decide)).trans rfl))
        rw [Nat.add_zero] at hy
        have HY := Lib.hid (cellB hal hy)
        have hop := HOK.out.op m (by omega)
        have hl0 := HOK.out.len k hkl
        have HST : Hid (stJ ts s (k + 1) = if (ts[m]).1 = 3 then puT t (opT t (stJ ts s k)) else puT t (stJ ts s k)) := Lib.hid (by
          subst hm
          have e1 : ts.getD (m + 1) noTok = t := by rw [← ht]; simp [List.getD, hkl]
          have e2 : ts.getD m noTok = ts[m] := by simp [List.getD, hml]
          show (if (ts.getD m noTok).1 = 3 then _ else _) = _
          rw [e1, e2])
        have e2 : ts.getD m noTok = ts[m] := by simp [List.getD, hml]
        rw [e2, ← hm] at hop
        clear hy e2
        generalize stJ ts s k = sk at *
        generalize ts[m] = u at *
        obtain ⟨hl1, hl2⟩ := hl0
        have hgl : g < wr.heap.size := World.block_lt_of_cell? _ _ x0
        have HM := Lib.hid (HN.out.n.more hal (Nat.le_refl _) (by omega)).s
        have HAL := Lib.hid hal
        have HK0 := Lib.hid hk0
        have HKM := Lib.hid hm
        clear hal hk0 hm
        go_upto_region 4 with fail
        generalize hX : wr.heap.size = X at *
        generalize (wr.alloc (.cells #[.int .u8 (t.1 : Nat), .string t.2.1, .int .i64 (t.2.2.1 : Nat), .int .i64 (t.2.2.2 : Nat)] 39)) = w0 at *
        obtain ⟨hx0, hx1, hx2, hx3, -⟩ := tcells4 hnew
        generalize hG2 : (fun q => G q ∨ q = X) = G2 at *
        have hXG : G2 X := hG2 ▸ .inr rfl
        have hgG : G2 g := hG2 ▸ .inl hG
        refine E_region (S := (fun _ => True)) 9 (by kernel_rfl) trivial (fun _ _ _ _ _ h => h) (fun Q' hQ hK' hHeld => ?_)
        refine E_take0 hQ (fun _ => hHeld) 0 (v := ?o9v1) rfl rfl (by kernel_rfl) (by kernel_rfl) (by kernel_rfl) (by decide) (by rfl) ?o9y1 ?o9r1
        case o9y1 => (intro w; go_simp; (try with_reducible rfl))
        (try simp only [layE])
        refine E_take0 hQ (fun _ => hHeld) 1 (v := .bool false) rfl rfl (by kernel_rfl) (by kernel_rfl) (by kernel_rfl) (by decide) (by rfl) ?o9y2 ?o9r2
        case o9y2 => (intro w; go_simp; (try first | exact HK0.out | rfl))
        (try simp only [layE])
        refine E_take0 hQ (fun _ => hHeld) 2 (v := .bool false) rfl rfl (by kernel_rfl) (by kernel_rfl) (by kernel_rfl) (by decide) (by rfl) ?o9y3 ?o9r3
        case o9y3 => (intro w; go_simp; (try first | exact HK0.out | rfl))
        (try simp only [layE])
        refine E_off hQ (fun _ => hHeld) 3 rfl rfl (by kernel_rfl) (by kernel_rfl) (by kernel_rfl) (by decide) (by rfl) ?_
        (try simp only [layE])
        refine E_off hQ (fun _ => hHeld) 4 rfl rfl (by kernel_rfl) (by kernel_rfl) (by kernel_rfl) (by decide) (by rfl) ?_
        (try simp only [layE])
        refine E_off hQ (fun _ => hHeld) 5 rfl rfl (by kernel_rfl) (by kernel_rfl) (by kernel_rfl) (by decide) (by rfl) ?_
        (try simp only [layE])
        refine E_off hQ (fun _ => hHeld) 6 rfl rfl (by kernel_rfl) (by kernel_rfl) (by kernel_rfl) (by decide) (by rfl) ?_
        (try simp only [layE])
        refine E_off hQ (fun _ => hHeld) 7 rfl rfl (by kernel_rfl) (by kernel_rfl) (by kernel_rfl) (by decide) (by rfl) ?_
        (try simp only [layE])
        refine E_take0 hQ (fun _ => hHeld) 8 (v := ?o9v9) rfl rfl (by kernel_rfl) (by kernel_rfl) (by kernel_rfl) (by decide) (by rfl) ?o9y9 ?o9r9
        case o9y9 => (intro w; go_simp; (try with_reducible rfl))
        (try simp only [layE])
        refine E_one 9 (by kernel_rfl) rfl (by rfl) (fun K hK => ?_)
        go_simp
        (try simp only [layE])
        refine hK.out _ _ (fun _ h => absurd rfl h) (fun _ => ?_)
        clear hK hHeld
        (try simp only [layE])
        refine E_done (by kernel_rfl) ?_ _
        refine hK'.out _ _ ?_
        have HM4 := Lib.hid (HM.out.below (Below.refl _ _).drew)
        generalize w0.drew = w4 at *
        go_upto_region 8 with fail
        refine E_region (S := (fun _ => True)) 9 (by kernel_rfl) trivial (fun _ _ _ _ _ h => h) (fun Q' hQ hK' hHeld => ?_)
        refine E_take0 hQ (fun _ => hHeld) 0 (v := ?o10v1) rfl rfl (by kernel_rfl) (by kernel_rfl) (by kernel_rfl) (by decide) (by rfl) ?o10y1 ?o10r1
        case o10y1 => (intro w; go_simp; (try with_reducible rfl))
        (try simp only [layE])
        refine E_take0 hQ (fun _ => hHeld) 1 (v := .bool false) rfl rfl (by kernel_rfl) (by kernel_rfl) (by kernel_rfl) (by decide) (by rfl) ?o10y2 ?o10r2
        case o10y2 => (intro w; go_simp; (try first | exact HK0.out | rfl))
        (try simp only [layE])
        refine E_take0 hQ (fun _ => hHeld) 2 (v := .bool false) rfl rfl (by kernel_rfl) (by kernel_rfl) (by kernel_rfl) (by decide) (by rfl) ?o10y3 ?o10r3
        case o10y3 => (intro w; go_simp; (try first | exact HK0.out | rfl))
        (try simp only [layE])
        refine E_off hQ (fun _ => hHeld) 3 rfl rfl (by kernel_rfl) (by kernel_rfl) (by kernel_rfl) (by decide) (by rfl) ?_
        (try simp only [layE])
        refine E_off hQ (fun _ => hHeld) 4 rfl rfl (by kernel_rfl) (by kernel_rfl) (by kernel_rfl) (by decide) (by rfl) ?_
        (try simp only [layE])
        refine E_off hQ (fun _ => hHeld) 5 rfl rfl (by kernel_rfl) (by kernel_rfl) (by kernel_rfl) (by decide) (by rfl) ?_
        (try simp only [layE])
        refine E_off hQ (fun _ => hHeld) 6 rfl rfl (by kernel_rfl) (by kernel_rfl) (by kernel_rfl) (by decide) (by rfl) ?_
        (try simp only [layE])
        refine E_off hQ (fun _ => hHeld) 7 rfl rfl (by kernel_rfl) (by kernel_rfl) (by kernel_rfl) (by decide) (by rfl) ?_
        (try simp only [layE])
        refine E_take0 hQ (fun _ => hHeld) 8 (v := ?o10v9) rfl rfl (by kernel_rfl) (by kernel_rfl) (by kernel_rfl) (by decide) (by rfl) ?o10y9 ?o10r9
        case o10y9 => (intro w; go_simp; (try with_reducible rfl))
        (try simp only [layE])
        refine E_one 9 (by kernel_rfl) rfl (by rfl) (fun K hK => ?_)
        go_simp
        (try simp only [layE])
        refine hK.out _ _ (fun _ h => absurd rfl h) (fun _ => ?_)
        clear hK hHeld
        (try simp only [layE])
        refine E_done (by kernel_rfl) ?_ _
        refine hK'.out _ _ ?_
        have HM8 := Lib.hid (HM4.out.below (Below.refl _ _).drew)
        generalize w4.drew = w8 at *
        have y0 := (HM8.out.cell hgG).trans HY.out
        by_cases hu : u.1 = 3
        · have d57 : decide ((u.1 : Int) = 3) = true := decide_eq_true (by omega)
          have hl16 := hop hu
          have HST1 : Hid (stJ ts s (k + 1) = puT t ((opT t sk).1, (opT t sk).2)) := Lib.hid (by rw [HST.out, if_pos hu])
          have q0 := (HM8.out.cell hXG).trans hx0
          have q1 := (HM8.out.cell hXG).trans hx1
          have q2 := (HM8.out.cell hXG).trans hx2
          have q3 := (HM8.out.cell hXG).trans hx3
          go_wp2_with fail
          refine (tkOpen_any _ P B sk.1 sk.2 t G2 HM8.out.n hl16 (by omega)).mono ?_
          rintro e w10 ⟨rfl, hn5, hb5, hk5⟩
          have HNA : Hid (NS w0 P B (opT t sk).1 (opT t sk).2 G2 w10) := Lib.hid (HM8.out.step hn5 hb5 hk5)
          clear hn5 hb5 hk5 q0 q1 q2 q3
          have hle2 : (opT t sk).1.length ≤ 900100 := by unfold opT; simp; omega
          clear y0
          have q0 := (HNA.out.cell hXG).trans hx0
          have q1 := (HNA.out.cell hXG).trans hx1
          have q2 := (HNA.out.cell hXG).trans hx2
          have q3 := (HNA.out.cell hXG).trans hx3
          obtain ⟨va, vc, ra, rc, hNX⟩ := HNA.out.n.x
          have HNX := Lib.hid hNX
          clear hNX
          have HSTK : Hid (stJ ts s (k + 1) = puT t ((opT t sk).1, (opT t sk).2)) := Lib.hid HST1.out
          have HNT : Hid (NS w0 P B ((opT t sk).1) ((opT t sk).2) G2 _) := HNA
          generalize (opT t sk).1 = ov at *
          generalize (opT t sk).2 = rv at *
          go_upto_region 13 with fail
          refine E_region (S := (fun V => (V.cell? ⟨P, 0, none⟩ = some (.slice va ov.length vc) ∧ V.cell? ⟨X, 0, none⟩ = some (.int .u8 (t.1 : Nat)) ∧ V.cell? ⟨X, 1, none⟩ = some (.string t.2.1) ∧ V.cell? ⟨X, 2, none⟩ = some (.int .i64 (t.2.2.1 : Nat)) ∧ V.cell? ⟨X, 3, none⟩ = some (.int .i64 (t.2.2.2 : Nat))) ∧ Hid (NX w10 P B va vc ra rc ov rv.reverse G2 V))) 7 (by kernel_rfl) (⟨⟨(HNX.out.below (Below.refl _ _).drew).n.cells.1, ((HNX.out.below (Below.refl _ _).drew).cell hXG).trans q0, ((HNX.out.below (Below.refl _ _).drew).cell hXG).trans q1, ((HNX.out.below (Below.refl _ _).drew).cell hXG).trans q2, ((HNX.out.below (Below.refl _ _).drew).cell hXG).trans q3⟩, Lib.hid (HNX.out.below (Below.refl _ _).drew)⟩) (fun _ _ _ _ _ h => h) (fun Q' hQ hK' hHeld => ?_)
          refine E_take0 hQ (fun _ => hHeld) 0 (v := ?q11v1) rfl rfl (by kernel_rfl) (by kernel_rfl) (by kernel_rfl) (by decide) (by rfl) ?q11y1 ?q11r1
          case q11y1 => (intro w; go_simp; (try with_reducible rfl))
          (try simp only [layE])
          refine E_take0 hQ (fun _ => hHeld) 1 (v := ?q11v2) rfl rfl (by kernel_rfl) (by kernel_rfl) (by kernel_rfl) (by decide) (by rfl) ?q11y2 ?q11r2
          case q11y2 => (intro w; go_simp; (try with_reducible rfl))
          (try simp only [layE])
          refine E_take0 hQ (fun _ => hHeld) 2 (v := ?q11v3) rfl rfl (by kernel_rfl) (by kernel_rfl) (by kernel_rfl) (by decide) (by rfl) ?q11y3 ?q11r3
          case q11y3 => (intro w; go_simp; (try with_reducible rfl))
          (try simp only [layE])
          refine E_take0 hQ (fun _ => hHeld) 3 (v := ?q11v4) rfl rfl (by kernel_rfl) (by kernel_rfl) (by kernel_rfl) (by decide) (by rfl) ?q11y4 ?q11r4
          case q11y4 => (intro w; go_simp; (try with_reducible rfl))
          (try simp only [layE])
          refine E_take hQ hHeld 4 (v := ?q11v5) rfl rfl (by kernel_rfl) (by kernel_rfl) (by kernel_rfl) (by kernel_rfl) (by kernel_rfl) (by rfl) ?q11y5 ?q11r5
          case q11y5 => (intro w hSw; (try dsimp only at hSw); go_simp; (try with_reducible rfl))
          (try simp only [layE])
          refine E_take hQ hHeld 5 (v := ?q11v6) rfl rfl (by kernel_rfl) (by kernel_rfl) (by kernel_rfl) (by kernel_rfl) (by kernel_rfl) (by rfl) ?q11y6 ?q11r6
          case q11y6 => (intro w hSw; (try dsimp only at hSw); go_simp; (try with_reducible rfl))
          (try simp only [layE])
          refine E_one 6 (by kernel_rfl) rfl (by rfl) (fun K hK => ?_)
          generalize w10.drew = w7 at *
          have hal7 : Below w7.heap.size w7 (w7.alloc (.cells #[.int .u8 (t.1 : Nat), .string t.2.1, .int .i64 (t.2.2.1 : Nat), .int .i64 (t.2.2.2 : Nat)] 39)) := (Below.refl _ _).alloc (Nat.le_refl _) _
          have HN7 := Lib.hid (hHeld.2.out.below hal7)
          have hBw3 : B ≤ w7.heap.size := Nat.le_trans HN7.out.n.hBP (Nat.le_of_lt hHeld.2.out.n.lt)
          have hsz3 : (w7.alloc (.cells #[.int .u8 (t.1 : Nat), .string t.2.1, .int .i64 (t.2.2.1 : Nat), .int .i64 (t.2.2.2 : Nat)] 39)).heap.size = w7.heap.size + 1 := by simp
          go_simp
          (try simp only [layE])
          refine hK.out _ _ (fun _ _ => ⟨⟨(HN7.out).n.cells.1, ((HN7.out).cell hXG).trans q0, ((HN7.out).cell hXG).trans q1, ((HN7.out).cell hXG).trans q2, ((HN7.out).cell hXG).trans q3⟩, Lib.hid (HN7.out)⟩) (fun hHeld' => ?_)
          replace hHeld := hHeld' (by rfl) (by decide)
          clear hK hHeld'
          (try simp only [layE])
          refine E_one 7 (by kernel_rfl) rfl (by rfl) (fun K hK => ?_)
          refine opwp_pushN _ _ 31 rfl B 39 i0 (.agg #[.int .u8 0, .string { data := #[] }, .int .i64 0, .int .i64 0]) 4 40 Tryz.underlying31 hi hz0 hz1 hz2 rfl (by decide) _ (ov.length) (ov.flatMap tokC) rfl HN7.out.n.own1 ⟨w7.heap.size, 0, none⟩ 1 1 [_, _, _, _] rfl rfl (new4 _ _ _ _ _ _) (by simp [Value.oneCell']) (by unfold maxLen; omega) (by omega) (by omega) ?_
          intro v' w8 hown' hgrow hfr
          obtain ⟨va', vc', rfl, e3, e4, hA8⟩ := NX.pushOut HN7.out (t := t) hown' hgrow hfr
          have HA8 := Lib.hid hA8
          clear hown' hgrow hfr hA8 HN7 hal7 hsz3
          (try simp only [layE])
          refine hK.out _ _ (fun _ h => absurd rfl h) (fun _ => ?_)
          clear hK hHeld
          (try simp only [layE])
          refine E_take0 hQ (fun h => absurd h (by decide)) 8 (v := ?q11v7) rfl rfl (by kernel_rfl) (by kernel_rfl) (by kernel_rfl) (by decide) (by rfl) ?q11y7 ?q11r7
          case q11y7 => (intro w; go_simp; (try with_reducible rfl))
          (try simp only [layE])
          refine E_take0 hQ (fun h => absurd h (by decide)) 9 (v := ?q11v8) rfl rfl (by kernel_rfl) (by kernel_rfl) (by kernel_rfl) (by decide) (by rfl) ?q11y8 ?q11r8
          case q11y8 => (intro w; go_simp; (try with_reducible rfl))
          (try simp only [layE])
          refine E_one 10 (by kernel_rfl) rfl (by rfl) (fun K hK => ?_)
          go_simp
          (try simp only [layE])
          refine hK.out _ _ (fun h => absurd h (by decide)) (fun _ => ?_)
          clear hK
          (try simp only [layE])
          refine E_done (by kernel_rfl) ?_ _
          refine hK'.out _ _ ?_
          have HN9 := Lib.hid (HN.out.round (by have := HAL.out; rwa [← hX] at this) (X := X) (by have h2 := HNT.out.step HA8.out.r HA8.out.b HA8.out.k; rw [← hG2] at h2; exact h2))
          clear q0 q1 q2 q3
          go_wp2_with fail
          go_roundg (ts.length + 1 - (k + 1))
          case measure => omega
          case rel => exact ⟨k + 1, by omega, by omega, by simp, Lib.hid (by rw [HSTK.out]; exact HN9.out)⟩
        · have d57 : decide ((u.1 : Int) = 3) = false := decide_eq_false (by omega)
          have HST1 : Hid (stJ ts s (k + 1) = puT t (sk.1, sk.2)) := Lib.hid (by rw [HST.out, if_neg hu])
          have q0 := (HM8.out.cell hXG).trans hx0
          have q1 := (HM8.out.cell hXG).trans hx1
          have q2 := (HM8.out.cell hXG).trans hx2
          have q3 := (HM8.out.cell hXG).trans hx3
          obtain ⟨va, vc, ra, rc, hNX⟩ := HM8.out.n.x
          have HNX := Lib.hid hNX
          clear hNX
          have HSTK : Hid (stJ ts s (k + 1) = puT t (sk.1, sk.2)) := Lib.hid HST1.out
          have HNT : Hid (NS w0 P B (sk.1) (sk.2) G2 _) := HM8
          generalize sk.1 = ov at *
          generalize sk.2 = rv at *
          go_upto_region 13 with fail
          refine E_region (S := (fun V => (V.cell? ⟨P, 0, none⟩ = some (.slice va ov.length vc) ∧ V.cell? ⟨X, 0, none⟩ = some (.int .u8 (t.1 : Nat)) ∧ V.cell? ⟨X, 1, none⟩ = some (.string t.2.1) ∧ V.cell? ⟨X, 2, none⟩ = some (.int .i64 (t.2.2.1 : Nat)) ∧ V.cell? ⟨X, 3, none⟩ = some (.int .i64 (t.2.2.2 : Nat))) ∧ Hid (NX w8 P B va vc ra rc ov rv.reverse G2 V))) 7 (by kernel_rfl) (⟨⟨(HNX.out.below (Below.refl _ _).drew).n.cells.1, ((HNX.out.below (Below.refl _ _).drew).cell hXG).trans q0, ((HNX.out.below (Below.refl _ _).drew).cell hXG).trans q1, ((HNX.out.below (Below.refl _ _).drew).cell hXG).trans q2, ((HNX.out.below (Below.refl _ _).drew).cell hXG).trans q3⟩, Lib.hid (HNX.out.below (Below.refl _ _).drew)⟩) (fun _ _ _ _ _ h => h) (fun Q' hQ hK' hHeld => ?_)
          refine E_take0 hQ (fun _ => hHeld) 0 (v := ?q12v1) rfl rfl (by kernel_rfl) (by kernel_rfl) (by kernel_rfl) (by decide) (by rfl) ?q12y1 ?q12r1
          case q12y1 => (intro w; go_simp; (try with_reducible rfl))
          (try simp only [layE])
          refine E_take0 hQ (fun _ => hHeld) 1 (v := ?q12v2) rfl rfl (by kernel_rfl) (by kernel_rfl) (by kernel_rfl) (by decide) (by rfl) ?q12y2 ?q12r2
          case q12y2 => (intro w; go_simp; (try with_reducible rfl))
          (try simp only [layE])
          refine E_take0 hQ (fun _ => hHeld) 2 (v := ?q12v3) rfl rfl (by kernel_rfl) (by kernel_rfl) (by kernel_rfl) (by decide) (by rfl) ?q12y3 ?q12r3
          case q12y3 => (intro w; go_simp; (try with_reducible rfl))
          (try simp only [layE])
          refine E_take0 hQ (fun _ => hHeld) 3 (v := ?q12v4) rfl rfl (by kernel_rfl) (by kernel_rfl) (by kernel_rfl) (by decide) (by rfl) ?q12y4 ?q12r4
          case q12y4 => (intro w; go_simp; (try with_reducible rfl))
          (try simp only [layE])
          refine E_take hQ hHeld 4 (v := ?q12v5) rfl rfl (by kernel_rfl) (by kernel_rfl) (by kernel_rfl) (by kernel_rfl) (by kernel_rfl) (by rfl) ?q12y5 ?q12r5
          case q12y5 => (intro w hSw; (try dsimp only at hSw); go_simp; (try with_reducible rfl))
          (try simp only [layE])
          refine E_take hQ hHeld 5 (v := ?q12v6) rfl rfl (by kernel_rfl) (by kernel_rfl) (by kernel_rfl) (by kernel_rfl) (by kernel_rfl) (by rfl) ?q12y6 ?q12r6
          case q12y6 => (intro w hSw; (try dsimp only at hSw); go_simp; (try with_reducible rfl))
          (try simp only [layE])
          refine E_one 6 (by kernel_rfl) rfl (by rfl) (fun K hK => ?_)
          generalize w8.drew = w7 at *
          have hal7 : Below w7.heap.size w7 (w7.alloc (.cells #[.int .u8 (t.1 : Nat), .string t.2.1, .int .i64 (t.2.2.1 : Nat), .int .i64 (t.2.2.2 : Nat)] 39)) := (Below.refl _ _).alloc (Nat.le_refl _) _
          have HN7 := Lib.hid (hHeld.2.out.below hal7)
          have hBw3 : B ≤ w7.heap.size := Nat.le_trans HN7.out.n.hBP (Nat.le_of_lt hHeld.2.out.n.lt)
          have hsz3 : (w7.alloc (.cells #[.int .u8 (t.1 : Nat), .string t.2.1, .int .i64 (t.2.2.1 : Nat), .int .i64 (t.2.2.2 : Nat)] 39)).heap.size = w7.heap.size + 1 := by simp
          go_simp
          (try simp only [layE])
          refine hK.out _ _ (fun _ _ => ⟨⟨(HN7.out).n.cells.1, ((HN7.out).cell hXG).trans q0, ((HN7.out).cell hXG).trans q1, ((HN7.out).cell hXG).trans q2, ((HN7.out).cell hXG).trans q3⟩, Lib.hid (HN7.out)⟩) (fun hHeld' => ?_)
          replace hHeld := hHeld' (by rfl) (by decide)
          clear hK hHeld'
          (try simp only [layE])
          refine E_one 7 (by kernel_rfl) rfl (by rfl) (fun K hK => ?_)
          refine opwp_pushN _ _ 31 rfl B 39 i0 (.agg #[.int .u8 0, .string { data := #[] }, .int .i64 0, .int .i64 0]) 4 40 Tryz.underlying31 hi hz0 hz1 hz2 rfl (by decide) _ (ov.length) (ov.flatMap tokC) rfl HN7.out.n.own1 ⟨w7.heap.size, 0, none⟩ 1 1 [_, _, _, _] rfl rfl (new4 _ _ _ _ _ _) (by simp [Value.oneCell']) (by unfold maxLen; omega) (by omega) (by omega) ?_
          intro v' w8 hown' hgrow hfr
          obtain ⟨va', vc', rfl, e3, e4, hA8⟩ := NX.pushOut HN7.out (t := t) hown' hgrow hfr
          have HA8 := Lib.hid hA8
          clear hown' hgrow hfr hA8 HN7 hal7 hsz3
          (try simp only [layE])
          refine hK.out _ _ (fun _ h => absurd rfl h) (fun _ => ?_)
          clear hK hHeld
          (try simp only [layE])
          refine E_take0 hQ (fun h => absurd h (by decide)) 8 (v := ?q12v7) rfl rfl (by kernel_rfl) (by kernel_rfl) (by kernel_rfl) (by decide) (by rfl) ?q12y7 ?q12r7
          case q12y7 => (intro w; go_simp; (try with_reducible rfl))
          (try simp only [layE])
          refine E_take0 hQ (fun h => absurd h (by decide)) 9 (v := ?q12v8) rfl rfl (by kernel_rfl) (by kernel_rfl) (by kernel_rfl) (by decide) (by rfl) ?q12y8 ?q12r8
          case q12y8 => (intro w; go_simp; (try with_reducible rfl))
          (try simp only [layE])
          refine E_one 10 (by kernel_rfl) rfl (by rfl) (fun K hK => ?_)
          go_simp
          (try simp only [layE])
          refine hK.out _ _ (fun h => absurd h (by decide)) (fun _ => ?_)
          clear hK
          (try simp only [layE])
          refine E_done (by kernel_rfl) ?_ _
          refine hK'.out _ _ ?_
          have HN9 := Lib.hid (HN.out.round (by have := HAL.out; rwa [← hX] at this) (X := X) (by have h2 := HNT.out.step HA8.out.r HA8.out.b HA8.out.k; rw [← hG2] at h2; exact h2))
          clear q0 q1 q2 q3
          go_wp2_with fail
          go_roundg (ts.length + 1 - (k + 1))
          case measure => omega
          case rel => exact ⟨k + 1, by omega, by omega, by simp, Lib.hid (by rw [HSTK.out]; exact HN9.out)⟩
    · have hkn : k = ts.length := by omega
      subst hkn
      have d3 : decide ((ts.length : Int) < (ts.length : Int)) = false := decide_eq_false (by omega)
      go_wp2_with fail
      go_ret
      exact ⟨rfl, HN.out.n, HN.out.b, HN.out.k⟩
end Go.Proofs.YtdhgcgejdoedbaaGreatDoor
