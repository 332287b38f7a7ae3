/-
  block.At: contract.
-/
import Derived.Deep.DeepCutAuto
import Derived.Test.YtdhgcgejdoedbaaGreatDoorBw17
import Derived.Test.YtdhgcgejdoedbaaGreatDoorBw22
namespace Go.Proofs.YtdhgcgejdoedbaaGreatDoor
open Go.RowKit Go.WideShapes

def kidAt (x : Tree) (s : ByteArray) : Int := if x.kind = 3 then idxS x.keys s else if x.kind = 2 then (if (numN (bsN s)).2 = 0 then ((numN (bsN s)).1 : Int) else -1) else -1
def atT : Tree → List ByteArray → Option Tree
  | x, [] => some x
  | x, s :: l => if h : 0 ≤ kidAt x s ∧ kidAt x s < (x.kids.length : Int) then atT (x.kids[(kidAt x s).toNat]'(by omega)) l else none
theorem atT_no {x : Tree} {s : ByteArray} {l : List ByteArray} (h : ¬ (0 ≤ kidAt x s ∧ kidAt x s < (x.kids.length : Int))) : atT x (s :: l) = none := by rw [atT, dif_neg h]
theorem atT_go {x : Tree} {s : ByteArray} {l : List ByteArray} {k : Nat} (hk : k < x.kids.length) (h : kidAt x s = (k : Int)) : atT x (s :: l) = atT x.kids[k] l := by
  rw [atT, dif_pos (by omega)]
  congr 1
  simp [h]
def NodeAt (w' : World) (o : Option Tree) (b : Bool) (cs' : List Value) : Prop := match o with
  | some y => b = true ∧ NodeR w' cs' y
  | none => b = false ∧ cs' = [.int .u8 0, .string { data := #[] }, .slice none 0 0, .slice none 0 0, .int .i64 0]
theorem NodeR.kidsR {w : World} {x : Tree} {ka ba : Option Addr} {kc bc : Nat} (h : NodeR w [.int .u8 (x.kind : Int), .string x.text, .slice ka x.keys.length kc, .slice ba x.kids.length bc, .int .i64 x.line] x) : RdS w (.slice ka x.keys.length kc) 1 x.keys.length (strsV x.keys) ∧ NodesR w (.slice ba x.kids.length bc) x.kids ∧ x.kind < 256 := by
  obtain ⟨k, t, ks, kids, ln⟩ := x
  obtain ⟨vk, vc, he, h1, _, _, _, h5, h6⟩ := h.parts
  simp only [Tree.kind, Tree.text, Tree.keys, Tree.kids, Tree.line, List.cons.injEq, and_true, true_and] at he
  obtain ⟨rfl, rfl⟩ := he
  exact ⟨h5, h6, h1⟩
theorem numN_range (s : ByteArray) : (numN (bsN s)).1 < 1000000000 ∧ ((numN (bsN s)).2 = 0 ∨ (numN (bsN s)).2 = 3) := by
  unfold numN
  split
  · rename_i h
    unfold numOk at h
    simp only [Bool.and_eq_true, decide_eq_true_eq] at h
    exact ⟨valN_9 h.1.1.2 h.2, .inl rfl⟩
  · exact ⟨by decide, .inr rfl⟩
theorem idxS_range (l : List ByteArray) (s : ByteArray) (hl : l.length ≤ 9223372036854775807) : -1 ≤ idxS l s ∧ idxS l s ≤ 9223372036854775807 := by
  unfold idxS
  split
  · have := List.idxOf_le_length (a := s) (l := l); omega
  · omega

set_option maxRecDepth 100000 in
set_option maxHeartbeats 4000000 in
theorem At_any (x : Tree) (l : List ByteArray) (cs : List Value) (v : Value) (w : World) (h : NodeR w cs x) (hv : RdS w v 1 l.length (strsV l)) (hs : ∀ s ∈ l, s.size ≤ 9223372036854775807) :
    Calls Tryz.prog 14 #[.agg cs.toArray, v] w fun e w' => ∃ cs' b, e = .returned (.tuple #[.agg cs'.toArray, .bool b]) ∧ NodeAt w' (atT x l) b cs' ∧ Below w.heap.size w w' := by
  obtain ⟨ka0, kc0, ba0, bc0, rfl⟩ := h.cells
  have H := Lib.hid h
  have HV := Lib.hid hv
  have HS := Lib.hid hs
  have hl63 := rds_len2 hv
  obtain ⟨va, vc, rfl⟩ := hv.form
  have hb0 : Below w.heap.size w ((w.alloc (.cells #[.int .u8 (x.kind : Int), .string x.text, .slice ka0 x.keys.length kc0, .slice ba0 x.kids.length bc0, .int .i64 x.line] 25)).alloc (.cells #[.int .u8 0, .string { data := #[] }, .slice none 0 0, .slice none 0 0, .int .i64 0] 25)) := ((Below.refl _ w).alloc (Nat.le_refl _) _).alloc (by simp) _
  have g1 : ((w.alloc (.cells #[.int .u8 (x.kind : Int), .string x.text, .slice ka0 x.keys.length kc0, .slice ba0 x.kids.length bc0, .int .i64 x.line] 25)).alloc (.cells #[.int .u8 0, .string { data := #[] }, .slice none 0 0, .slice none 0 0, .int .i64 0] 25)).heap[w.heap.size]? = some (.cells #[.int .u8 (x.kind : Int), .string x.text, .slice ka0 x.keys.length kc0, .slice ba0 x.kids.length bc0, .int .i64 x.line] 25 (0, 0)) := (Below.heap_alloc _ _ _ (by simp)).trans (World.alloc_heap_new w _)
  have g2 : ((w.alloc (.cells #[.int .u8 (x.kind : Int), .string x.text, .slice ka0 x.keys.length kc0, .slice ba0 x.kids.length bc0, .int .i64 x.line] 25)).alloc (.cells #[.int .u8 0, .string { data := #[] }, .slice none 0 0, .slice none 0 0, .int .i64 0] 25)).heap[w.heap.size + 1]? = some (.cells #[.int .u8 0, .string { data := #[] }, .slice none 0 0, .slice none 0 0, .int .i64 0] 25 (0, 0)) := by
    have := World.alloc_heap_new (w.alloc (.cells #[.int .u8 (x.kind : Int), .string x.text, .slice ka0 x.keys.length kc0, .slice ba0 x.kids.length bc0, .int .i64 x.line] 25)) (.cells #[.int .u8 0, .string { data := #[] }, .slice none 0 0, .slice none 0 0, .int .i64 0] 25)
    rwa [World.size_alloc] at this
  clear h hv hs
  go_enter Tryz.func14, Tryz.ntmps14
  go_upto_region 1 with fail
  generalize hwz : ((w.alloc (.cells #[.int .u8 (x.kind : Int), .string x.text, .slice ka0 x.keys.length kc0, .slice ba0 x.kids.length bc0, .int .i64 x.line] 25)).alloc (.cells #[.int .u8 0, .string { data := #[] }, .slice none 0 0, .slice none 0 0, .int .i64 0] 25)) = wz at *
  have HB0 := Lib.hid hb0
  have G1 := Lib.hid g1
  have G2 := Lib.hid g2
  clear hb0 g1 g2 hwz
  go_wp2_with fail
  go_loopw [13] (fun i wr => ∃ (j : Nat) (y : Tree) (ka : Option Addr) (kc : Nat) (ba : Option Addr) (bc : Nat), j ≤ l.length ∧ i = .int .i64 j ∧ Hid (atT x l = atT y (l.drop j)) ∧ Hid (NodeR w [.int .u8 (y.kind : Int), .string y.text, .slice ka y.keys.length kc, .slice ba y.kids.length bc, .int .i64 y.line] y) ∧ Hid (wr.heap[w.heap.size]? = some (.cells #[.int .u8 (y.kind : Int), .string y.text, .slice ka y.keys.length kc, .slice ba y.kids.length bc, .int .i64 y.line] 25 (0, 0))) ∧ Hid (wr.heap[w.heap.size + 1]? = some (.cells #[.int .u8 0, .string { data := #[] }, .slice none 0 0, .slice none 0 0, .int .i64 0] 25 (0, 0))) ∧ Hid (Below w.heap.size w wr)) (fun i _ => l.length - (intOf i).toNat)
  case atStart => exact ⟨0, x, _, _, _, _, by omega, rfl, Lib.hid rfl, H, G1, G2, HB0⟩
  case round =>
    obtain ⟨j, y, ka, kc, ba, bc, hj, rfl, HA, HY, GY, GZ, HB⟩ := hrel
    obtain ⟨hkr, hcr, hk8⟩ := HY.out.kidsR
    have HKR := Lib.hid (hkr.below HB.out)
    have HCR := Lib.hid (hcr.below HB.out)
    have hkl := rds_len2 hkr
    obtain ⟨_, _, he3, hcl1, hcl2⟩ := hcr.form
    cases he3
    obtain ⟨q0, q1, q2, q3, q4⟩ := cells5 GY.out
    obtain ⟨f0, f1, f2, f3, f4⟩ := cells5w GY.out
    clear hkr hcr
    by_cases hlt : j < l.length
    · obtain ⟨g, off, he, z1, z2, c1⟩ := strs_at (HV.out.below HB.out) hlt
      cases he
      have hj0 : (0 : Int) ≤ (j : Int) := by omega
      have hj1 : (j : Int) < (l.length : Int) := by omega
      have hsz := HS.out _ (List.getElem_mem hlt)
      have HDR : Hid (l.drop j = l[j] :: l.drop (j + 1)) := Lib.hid (List.drop_eq_getElem_cons hlt)
      generalize l[j] = s at *
      have hr1 := idxS_range y.keys s hkl
      have hr2 := numN_range s
      by_cases hk3 : y.kind = 3
      · have HK : Hid (kidAt y s = idxS y.keys s) := Lib.hid (by unfold kidAt; rw [if_pos hk3])
        have d1 : ((y.kind : Int) == 3) = true := by simp [hk3]
        clear hk3
        generalize hK : idxS y.keys s = K at *
        have HI := Lib.hid (IndexS_any y.keys _ s wr HKR.out)
        rw [hK] at HI
        clear hK
        go_wp2_with fail
        refine HI.out.mono ?_
        rintro e w3 ⟨rfl, rfl⟩
        by_cases hK0 : K < 0
        · have HN : Hid (atT x l = none) := Lib.hid (by rw [HA.out, HDR.out]; exact atT_no (by rw [HK.out]; omega))
          have e1 : decide (K < 0) = true := by simpa using hK0
          obtain ⟨r0, r1, r2, r3, r4⟩ := cells5 GZ.out
          obtain ⟨s0, s1, s2, s3, s4⟩ := cells5w GZ.out
          go_wp2
          have hset := set5w (x0 := .int .u8 0) (x1 := .string { data := #[] }) (x2 := .slice none 0 0) (x3 := .slice none 0 0) (x4 := .int .i64 0) GZ.out
          have hbf := set5w_below (x0 := .int .u8 0) (x1 := .string { data := #[] }) (x2 := .slice none 0 0) (x3 := .slice none 0 0) (x4 := .int .i64 0) HB.out (B := w.heap.size + 1) (by omega)
          generalize (((((wr.setCell ⟨w.heap.size + 1, 0, none⟩ (.int .u8 0)).setCell ⟨w.heap.size + 1, 1, none⟩ (.string { data := #[] })).setCell ⟨w.heap.size + 1, 2, none⟩ (.slice none 0 0)).setCell ⟨w.heap.size + 1, 3, none⟩ (.slice none 0 0)).setCell ⟨w.heap.size + 1, 4, none⟩ (.int .i64 0)) = wf at *
          clear r0 r1 r2 r3 r4 s0 s1 s2 s3 s4
          obtain ⟨y0, y1, y2, y3, y4⟩ := cells5 hset
          refine bodyPost_ret (v := .tuple #[.agg #[.int .u8 0, .string { data := #[] }, .slice none 0 0, .slice none 0 0, .int .i64 0], .bool false]) (by simp [results, Tryz.results14, go_sem, y0, y1, y2, y3, y4]) rfl ?_
          exact ⟨_, _, rfl, by rw [HN.out]; exact ⟨rfl, rfl⟩, hbf⟩
        have e1 : decide (K < 0) = false := by simpa using hK0
        by_cases hK1 : (y.kids.length : Int) ≤ K
        · have HN : Hid (atT x l = none) := Lib.hid (by rw [HA.out, HDR.out]; exact atT_no (by rw [HK.out]; omega))
          have e2 : decide ((y.kids.length : Int) ≤ K) = true := by simpa using hK1
          obtain ⟨r0, r1, r2, r3, r4⟩ := cells5 GZ.out
          obtain ⟨s0, s1, s2, s3, s4⟩ := cells5w GZ.out
          go_wp2
          have hset := set5w (x0 := .int .u8 0) (x1 := .string { data := #[] }) (x2 := .slice none 0 0) (x3 := .slice none 0 0) (x4 := .int .i64 0) GZ.out
          have hbf := set5w_below (x0 := .int .u8 0) (x1 := .string { data := #[] }) (x2 := .slice none 0 0) (x3 := .slice none 0 0) (x4 := .int .i64 0) HB.out (B := w.heap.size + 1) (by omega)
          generalize (((((wr.setCell ⟨w.heap.size + 1, 0, none⟩ (.int .u8 0)).setCell ⟨w.heap.size + 1, 1, none⟩ (.string { data := #[] })).setCell ⟨w.heap.size + 1, 2, none⟩ (.slice none 0 0)).setCell ⟨w.heap.size + 1, 3, none⟩ (.slice none 0 0)).setCell ⟨w.heap.size + 1, 4, none⟩ (.int .i64 0)) = wf at *
          clear r0 r1 r2 r3 r4 s0 s1 s2 s3 s4
          obtain ⟨y0, y1, y2, y3, y4⟩ := cells5 hset
          refine bodyPost_ret (v := .tuple #[.agg #[.int .u8 0, .string { data := #[] }, .slice none 0 0, .slice none 0 0, .int .i64 0], .bool false]) (by simp [results, Tryz.results14, go_sem, y0, y1, y2, y3, y4]) rfl ?_
          exact ⟨_, _, rfl, by rw [HN.out]; exact ⟨rfl, rfl⟩, hbf⟩
        have e2 : decide ((y.kids.length : Int) ≤ K) = false := by simpa using hK1
        obtain ⟨k, rfl⟩ : ∃ k : Nat, K = (k : Int) := ⟨K.toNat, by omega⟩
        have hk : k < y.kids.length := by omega
        obtain ⟨g', off', cap', ka2, kc2, ba2, bc2, he, n1, n2, hn6, z0, z1', z2', z3, z4⟩ := HY.out.kidsR.2.1.at hk
        cases he
        have z0 := cellB HB.out z0
        have z1' := cellB HB.out z1'
        have z2' := cellB HB.out z2'
        have z3 := cellB HB.out z3
        have z4 := cellB HB.out z4
        have HGA : Hid (atT x l = atT y.kids[k] (l.drop (j + 1))) := Lib.hid (by rw [HA.out, HDR.out]; exact atT_go hk HK.out)
        generalize y.kids[k] = y' at *
        have HN5 := Lib.hid hn6
        clear hn6
        go_wp2_with fail
        have hset := set5w (x0 := .int .u8 (y'.kind : Int)) (x1 := .string y'.text) (x2 := .slice ka2 y'.keys.length kc2) (x3 := .slice ba2 y'.kids.length bc2) (x4 := .int .i64 y'.line) GY.out
        have hbf := set5w_below (x0 := .int .u8 (y'.kind : Int)) (x1 := .string y'.text) (x2 := .slice ka2 y'.keys.length kc2) (x3 := .slice ba2 y'.kids.length bc2) (x4 := .int .i64 y'.line) HB.out (B := w.heap.size) (by omega)
        have hgz := (set5w_other (x0 := .int .u8 (y'.kind : Int)) (x1 := .string y'.text) (x2 := .slice ka2 y'.keys.length kc2) (x3 := .slice ba2 y'.kids.length bc2) (x4 := .int .i64 y'.line) (show w.heap.size + 1 ≠ w.heap.size by omega)).trans GZ.out
        clear q0 q1 q2 q3 q4 f0 f1 f2 f3 f4 z0 z1' z2' z3 z4
        generalize (((((wr.setCell ⟨w.heap.size, 0, none⟩ (.int .u8 (y'.kind : Int))).setCell ⟨w.heap.size, 1, none⟩ (.string y'.text)).setCell ⟨w.heap.size, 2, none⟩ (.slice ka2 y'.keys.length kc2)).setCell ⟨w.heap.size, 3, none⟩ (.slice ba2 y'.kids.length bc2)).setCell ⟨w.heap.size, 4, none⟩ (.int .i64 y'.line)) = wf at *
        go_roundw
        case rel => exact ⟨j + 1, y', ka2, kc2, ba2, bc2, by omega, by go_num, HGA, HN5, Lib.hid hset, Lib.hid hgz, Lib.hid hbf⟩
        case measure => simp [intOf]; omega
      have d1 : ((y.kind : Int) == 3) = false := by simp; omega
      by_cases hk2 : y.kind = 2
      · have d2 : ((y.kind : Int) == 2) = true := by simp [hk2]
        have HI := Lib.hid (Number_any s wr hsz)
        by_cases hn : (numN (bsN s)).2 = 0
        · have HK : Hid (kidAt y s = ((numN (bsN s)).1 : Int)) := Lib.hid (by unfold kidAt; rw [if_neg hk3, if_pos hk2, if_pos hn])
          clear hk3 hk2
          rw [hn] at HI
          clear hn
          generalize hK : (((numN (bsN s)).1 : Nat) : Int) = K at *
          have hr3 : 0 ≤ K ∧ K < 1000000000 := by omega
          clear hr1 hr2 hK
          go_wp2_with fail
          refine HI.out.mono ?_
          rintro e w3 ⟨rfl, hb3⟩
          have hbr3 := HB.out.size
          have hltY := (Array.getElem?_eq_some_iff.1 GY.out).1
          have hltZ := (Array.getElem?_eq_some_iff.1 GZ.out).1
          have HB3 := Lib.hid (bthen HB.out (Nat.le_refl _) hb3)
          have GY3 := Lib.hid ((hb3.block _ hltY).trans GY.out)
          have GZ3 := Lib.hid ((hb3.block _ hltZ).trans GZ.out)
          have HCR3 := Lib.hid (HCR.out.below hb3)
          clear hb3 q0 q1 q2 q3 q4 f0 f1 f2 f3 f4
          obtain ⟨q0, q1, q2, q3, q4⟩ := cells5 GY3.out
          obtain ⟨f0, f1, f2, f3, f4⟩ := cells5w GY3.out
          have hK0 : ¬ K < 0 := by omega
          have e1 : decide (K < 0) = false := by simpa using hK0
          by_cases hK1 : (y.kids.length : Int) ≤ K
          · have HN : Hid (atT x l = none) := Lib.hid (by rw [HA.out, HDR.out]; exact atT_no (by rw [HK.out]; omega))
            have e2 : decide ((y.kids.length : Int) ≤ K) = true := by simpa using hK1
            obtain ⟨r0, r1, r2, r3, r4⟩ := cells5 GZ3.out
            obtain ⟨s0, s1, s2, s3, s4⟩ := cells5w GZ3.out
            go_wp2
            have hset := set5w (x0 := .int .u8 0) (x1 := .string { data := #[] }) (x2 := .slice none 0 0) (x3 := .slice none 0 0) (x4 := .int .i64 0) GZ3.out
            have hbf := set5w_below (x0 := .int .u8 0) (x1 := .string { data := #[] }) (x2 := .slice none 0 0) (x3 := .slice none 0 0) (x4 := .int .i64 0) HB3.out (B := w.heap.size + 1) (by omega)
            generalize (((((w3.setCell ⟨w.heap.size + 1, 0, none⟩ (.int .u8 0)).setCell ⟨w.heap.size + 1, 1, none⟩ (.string { data := #[] })).setCell ⟨w.heap.size + 1, 2, none⟩ (.slice none 0 0)).setCell ⟨w.heap.size + 1, 3, none⟩ (.slice none 0 0)).setCell ⟨w.heap.size + 1, 4, none⟩ (.int .i64 0)) = wf at *
            clear r0 r1 r2 r3 r4 s0 s1 s2 s3 s4
            obtain ⟨y0, y1, y2, y3, y4⟩ := cells5 hset
            refine bodyPost_ret (v := .tuple #[.agg #[.int .u8 0, .string { data := #[] }, .slice none 0 0, .slice none 0 0, .int .i64 0], .bool false]) (by simp [results, Tryz.results14, go_sem, y0, y1, y2, y3, y4]) rfl ?_
            exact ⟨_, _, rfl, by rw [HN.out]; exact ⟨rfl, rfl⟩, hbf⟩
          have e2 : decide ((y.kids.length : Int) ≤ K) = false := by simpa using hK1
          obtain ⟨k, rfl⟩ : ∃ k : Nat, K = (k : Int) := ⟨K.toNat, by omega⟩
          have hk : k < y.kids.length := by omega
          obtain ⟨g', off', cap', ka2, kc2, ba2, bc2, he, n1, n2, hn6, z0, z1', z2', z3, z4⟩ := HY.out.kidsR.2.1.at hk
          cases he
          have z0 := cellB HB3.out z0
          have z1' := cellB HB3.out z1'
          have z2' := cellB HB3.out z2'
          have z3 := cellB HB3.out z3
          have z4 := cellB HB3.out z4
          have HGA : Hid (atT x l = atT y.kids[k] (l.drop (j + 1))) := Lib.hid (by rw [HA.out, HDR.out]; exact atT_go hk HK.out)
          generalize y.kids[k] = y' at *
          have HN5 := Lib.hid hn6
          clear hn6
          go_wp2_with fail
          have hset := set5w (x0 := .int .u8 (y'.kind : Int)) (x1 := .string y'.text) (x2 := .slice ka2 y'.keys.length kc2) (x3 := .slice ba2 y'.kids.length bc2) (x4 := .int .i64 y'.line) GY3.out
          have hbf := set5w_below (x0 := .int .u8 (y'.kind : Int)) (x1 := .string y'.text) (x2 := .slice ka2 y'.keys.length kc2) (x3 := .slice ba2 y'.kids.length bc2) (x4 := .int .i64 y'.line) HB3.out (B := w.heap.size) (by omega)
          have hgz := (set5w_other (x0 := .int .u8 (y'.kind : Int)) (x1 := .string y'.text) (x2 := .slice ka2 y'.keys.length kc2) (x3 := .slice ba2 y'.kids.length bc2) (x4 := .int .i64 y'.line) (show w.heap.size + 1 ≠ w.heap.size by omega)).trans GZ3.out
          clear q0 q1 q2 q3 q4 f0 f1 f2 f3 f4 z0 z1' z2' z3 z4
          generalize (((((w3.setCell ⟨w.heap.size, 0, none⟩ (.int .u8 (y'.kind : Int))).setCell ⟨w.heap.size, 1, none⟩ (.string y'.text)).setCell ⟨w.heap.size, 2, none⟩ (.slice ka2 y'.keys.length kc2)).setCell ⟨w.heap.size, 3, none⟩ (.slice ba2 y'.kids.length bc2)).setCell ⟨w.heap.size, 4, none⟩ (.int .i64 y'.line)) = wf at *
          go_roundw
          case rel => exact ⟨j + 1, y', ka2, kc2, ba2, bc2, by omega, by go_num, HGA, HN5, Lib.hid hset, Lib.hid hgz, Lib.hid hbf⟩
          case measure => simp [intOf]; omega
        · have hn3 : (numN (bsN s)).2 = 3 := by omega
          have HK : Hid (kidAt y s = -1) := Lib.hid (by unfold kidAt; rw [if_neg hk3, if_pos hk2, if_neg hn])
          clear hk3 hk2
          rw [hn3] at HI
          clear hn hn3 hr1 hr2
          generalize (((numN (bsN s)).1 : Nat) : Int) = K at *
          go_wp2_with fail
          refine HI.out.mono ?_
          rintro e w3 ⟨rfl, hb3⟩
          have hbr3 := HB.out.size
          have hltY := (Array.getElem?_eq_some_iff.1 GY.out).1
          have hltZ := (Array.getElem?_eq_some_iff.1 GZ.out).1
          have HB3 := Lib.hid (bthen HB.out (Nat.le_refl _) hb3)
          have GY3 := Lib.hid ((hb3.block _ hltY).trans GY.out)
          have GZ3 := Lib.hid ((hb3.block _ hltZ).trans GZ.out)
          have HCR3 := Lib.hid (HCR.out.below hb3)
          clear hb3 q0 q1 q2 q3 q4 f0 f1 f2 f3 f4
          obtain ⟨q0, q1, q2, q3, q4⟩ := cells5 GY3.out
          obtain ⟨f0, f1, f2, f3, f4⟩ := cells5w GY3.out
          have hK : ¬ (0 ≤ kidAt y s ∧ kidAt y s < (y.kids.length : Int)) := by rw [HK.out]; omega
          have HN : Hid (atT x l = none) := Lib.hid (by rw [HA.out, HDR.out]; exact atT_no hK)
          clear hK
          obtain ⟨r0, r1, r2, r3, r4⟩ := cells5 GZ3.out
          obtain ⟨s0, s1, s2, s3, s4⟩ := cells5w GZ3.out
          go_wp2
          have hset := set5w (x0 := .int .u8 0) (x1 := .string { data := #[] }) (x2 := .slice none 0 0) (x3 := .slice none 0 0) (x4 := .int .i64 0) GZ3.out
          have hbf := set5w_below (x0 := .int .u8 0) (x1 := .string { data := #[] }) (x2 := .slice none 0 0) (x3 := .slice none 0 0) (x4 := .int .i64 0) HB3.out (B := w.heap.size + 1) (by omega)
          generalize (((((w3.setCell ⟨w.heap.size + 1, 0, none⟩ (.int .u8 0)).setCell ⟨w.heap.size + 1, 1, none⟩ (.string { data := #[] })).setCell ⟨w.heap.size + 1, 2, none⟩ (.slice none 0 0)).setCell ⟨w.heap.size + 1, 3, none⟩ (.slice none 0 0)).setCell ⟨w.heap.size + 1, 4, none⟩ (.int .i64 0)) = wf at *
          clear r0 r1 r2 r3 r4 s0 s1 s2 s3 s4
          obtain ⟨y0, y1, y2, y3, y4⟩ := cells5 hset
          refine bodyPost_ret (v := .tuple #[.agg #[.int .u8 0, .string { data := #[] }, .slice none 0 0, .slice none 0 0, .int .i64 0], .bool false]) (by simp [results, Tryz.results14, go_sem, y0, y1, y2, y3, y4]) rfl ?_
          exact ⟨_, _, rfl, by rw [HN.out]; exact ⟨rfl, rfl⟩, hbf⟩
      have d2 : ((y.kind : Int) == 2) = false := by simp; omega
      have HK : Hid (kidAt y s = -1) := Lib.hid (by unfold kidAt; rw [if_neg hk3, if_neg hk2])
      have hK : ¬ (0 ≤ kidAt y s ∧ kidAt y s < (y.kids.length : Int)) := by rw [HK.out]; omega
      have HN : Hid (atT x l = none) := Lib.hid (by rw [HA.out, HDR.out]; exact atT_no hK)
      clear hK hk3 hk2 hr1 hr2
      obtain ⟨r0, r1, r2, r3, r4⟩ := cells5 GZ.out
      obtain ⟨s0, s1, s2, s3, s4⟩ := cells5w GZ.out
      go_wp2
      have hset := set5w (x0 := .int .u8 0) (x1 := .string { data := #[] }) (x2 := .slice none 0 0) (x3 := .slice none 0 0) (x4 := .int .i64 0) GZ.out
      have hbf := set5w_below (x0 := .int .u8 0) (x1 := .string { data := #[] }) (x2 := .slice none 0 0) (x3 := .slice none 0 0) (x4 := .int .i64 0) HB.out (B := w.heap.size + 1) (by omega)
      generalize (((((wr.setCell ⟨w.heap.size + 1, 0, none⟩ (.int .u8 0)).setCell ⟨w.heap.size + 1, 1, none⟩ (.string { data := #[] })).setCell ⟨w.heap.size + 1, 2, none⟩ (.slice none 0 0)).setCell ⟨w.heap.size + 1, 3, none⟩ (.slice none 0 0)).setCell ⟨w.heap.size + 1, 4, none⟩ (.int .i64 0)) = wf at *
      clear r0 r1 r2 r3 r4 s0 s1 s2 s3 s4
      obtain ⟨y0, y1, y2, y3, y4⟩ := cells5 hset
      refine bodyPost_ret (v := .tuple #[.agg #[.int .u8 0, .string { data := #[] }, .slice none 0 0, .slice none 0 0, .int .i64 0], .bool false]) (by simp [results, Tryz.results14, go_sem, y0, y1, y2, y3, y4]) rfl ?_
      exact ⟨_, _, rfl, by rw [HN.out]; exact ⟨rfl, rfl⟩, hbf⟩
    · have HD : Hid (l.drop j = []) := Lib.hid (List.drop_of_length_le (by omega))
      obtain ⟨r0, r1, r2, r3, r4⟩ := cells5 GZ.out
      obtain ⟨s0, s1, s2, s3, s4⟩ := cells5w GZ.out
      have HAE : Hid (atT x l = some y) := Lib.hid (by rw [HA.out, HD.out]; rfl)
      go_wp2
      have hset := set5w (x0 := .int .u8 (y.kind : Int)) (x1 := .string y.text) (x2 := .slice ka y.keys.length kc) (x3 := .slice ba y.kids.length bc) (x4 := .int .i64 y.line) GZ.out
      have hbf := set5w_below (x0 := .int .u8 (y.kind : Int)) (x1 := .string y.text) (x2 := .slice ka y.keys.length kc) (x3 := .slice ba y.kids.length bc) (x4 := .int .i64 y.line) HB.out (B := w.heap.size + 1) (by omega)
      generalize (((((wr.setCell ⟨w.heap.size + 1, 0, none⟩ (.int .u8 (y.kind : Int))).setCell ⟨w.heap.size + 1, 1, none⟩ (.string y.text)).setCell ⟨w.heap.size + 1, 2, none⟩ (.slice ka y.keys.length kc)).setCell ⟨w.heap.size + 1, 3, none⟩ (.slice ba y.kids.length bc)).setCell ⟨w.heap.size + 1, 4, none⟩ (.int .i64 y.line)) = wf at *
      clear r0 r1 r2 r3 r4 s0 s1 s2 s3 s4
      obtain ⟨y0, y1, y2, y3, y4⟩ := cells5 hset
      refine bodyPost_ret (v := .tuple #[.agg #[.int .u8 (y.kind : Int), .string y.text, .slice ka y.keys.length kc, .slice ba y.kids.length bc, .int .i64 y.line], .bool true]) (by simp [results, Tryz.results14, go_sem, y0, y1, y2, y3, y4]) rfl ?_
      exact ⟨_, _, rfl, by rw [HAE.out]; exact ⟨rfl, HY.out.belowW hbf⟩, hbf⟩
end Go.Proofs.YtdhgcgejdoedbaaGreatDoor
