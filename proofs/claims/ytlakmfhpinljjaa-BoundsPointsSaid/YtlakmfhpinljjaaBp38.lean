/-
  block.At: contract.
-/
import Derived.Deep.DeepCutAuto
import Derived.Test.YtlakmfhpinljjaaBp9
import Derived.Test.YtlakmfhpinljjaaBp24
import Derived.Test.YtlakmfhpinljjaaBp27
import Derived.Test.YtlakmfhpinljjaaBp33
import Derived.Test.YtlakmfhpinljjaaBp34
import Derived.Test.YtlakmfhpinljjaaBp37
namespace Go.Proofs.Ytlakmfhpinljjaa
open Go.RowKit Go.WideShapes

/-- Which kid a name stands for. -/
def kidAt (x : Tree) (s : ByteArray) : Int := if x.kind = 3 then idxS x.keys s else if x.kind = 2 then (if (numN (bsN s)).2 = 0 then ((numN (bsN s)).1 : Int) else -1) else -1
def atT : Tree → List ByteArray → Option Tree
  | x, [] => some x
  | x, s :: l => if h : 0 ≤ kidAt x s ∧ kidAt x s < (x.kids.length : Int) then atT (x.kids[(kidAt x s).toNat]'(by omega)) l else none
theorem atT_no {x : Tree} {s : ByteArray} {l : List ByteArray} (h : ¬ (0 ≤ kidAt x s ∧ kidAt x s < (x.kids.length : Int))) : atT x (s :: l) = none := by rw [atT, dif_neg h]
theorem atT_go {x : Tree} {s : ByteArray} {l : List ByteArray} {k : Nat} (hk : k < x.kids.length) (h : kidAt x s = (k : Int)) : atT x (s :: l) = atT x.kids[k] l := by
  rw [atT, dif_pos (by omega)]
  congr 1
  simp [h]
/-- What is found: a node, or none. -/
def NodeAt (w' : World) (o : Option Tree) (b : Bool) (cs' : List Value) : Prop := match o with
  | some y => b = true ∧ NodeR w' cs' y
  | none => b = false ∧ cs' = [.int .u8 0, .string { data := #[] }, .slice none 0 0, .slice none 0 0, .int .i64 0]
theorem NodeR.kidsR {w : World} {x : Tree} {ka ba : Option Addr} {kc bc : Nat} (h : NodeR w [.int .u8 (x.kind : Int), .string x.text, .slice ka x.keys.length kc, .slice ba x.kids.length bc, .int .i64 x.line] x) : RdS w (.slice ka x.keys.length kc) 1 x.keys.length (strsV x.keys) ∧ NodesR w (.slice ba x.kids.length bc) x.kids ∧ x.kind < 256 := by
  obtain ⟨k, t, ks, kids, ln⟩ := x
  obtain ⟨vk, vc, he, h1, _, _, _, h5, h6⟩ := h.parts
  simp only [Tree.kind, Tree.text, Tree.keys, Tree.kids, Tree.line, List.cons.injEq, and_true, true_and] at he
  obtain ⟨rfl, rfl⟩ := he
  exact ⟨h5, h6, h1⟩
theorem numN_range (s : ByteArray) : (numN (bsN s)).1 < 1000000000 ∧ ((numN (bsN s)).2 = 0 ∨ (numN (bsN s)).2 = 3) := by
  unfold numN
  split
  · rename_i h
    unfold numOk at h
    simp only [Bool.and_eq_true, decide_eq_true_eq] at h
    exact ⟨valN_9 h.1.1.2 h.2, .inl rfl⟩
  · exact ⟨by decide, .inr rfl⟩
theorem idxS_range (l : List ByteArray) (s : ByteArray) (hl : l.length ≤ 9223372036854775807) : -1 ≤ idxS l s ∧ idxS l s ≤ 9223372036854775807 := by
  unfold idxS
  split
  · have := List.idxOf_le_length (a := s) (l := l); omega
  · omega

set_option maxRecDepth 100000 in
set_option maxHeartbeats 4000000 in
theorem At_any (x : Tree) (l : List ByteArray) (cs : List Value) (v : Value) (w : World) (h : NodeR w cs x) (hv : RdS w v 1 l.length (strsV l)) (hs : ∀ s ∈ l, s.size ≤ 9223372036854775807) :
    Calls Try.prog 74 #[.agg cs.toArray, v] w fun e w' => ∃ cs' b, e = .returned (.tuple #[.agg cs'.toArray, .bool b]) ∧ NodeAt w' (atT x l) b cs' ∧ Below w.heap.size w w' := by
  obtain ⟨ka0, kc0, ba0, bc0, rfl⟩ := h.cells
  have H := Lib.hid h
  have HV := Lib.hid hv
  have HS := Lib.hid hs
  have hl63 := rds_len2 hv
  obtain ⟨va, vc, rfl⟩ := hv.form
  have hb0 : Below w.heap.size w ((w.alloc (.cells #[.int .u8 (x.kind : Int), .string x.text, .slice ka0 x.keys.length kc0, .slice ba0 x.kids.length bc0, .int .i64 x.line] 34)).alloc (.cells #[.int .u8 0, .string { data := #[] }, .slice none 0 0, .slice none 0 0, .int .i64 0] 34)) := ((Below.refl _ w).alloc (Nat.le_refl _) _).alloc (by simp) _
  have g1 : ((w.alloc (.cells #[.int .u8 (x.kind : Int), .string x.text, .slice ka0 x.keys.length kc0, .slice ba0 x.kids.length bc0, .int .i64 x.line] 34)).alloc (.cells #[.int .u8 0, .string { data := #[] }, .slice none 0 0, .slice none 0 0, .int .i64 0] 34)).heap[w.heap.size]? = some (.cells #[.int .u8 (x.kind : Int), .string x.text, .slice ka0 x.keys.length kc0, .slice ba0 x.kids.length bc0, .int .i64 x.line] 34 (0, 0)) := (Below.heap_alloc _ _ _ (by simp)).trans (World.alloc_heap_new w _)
  have g2 : ((w.alloc (.cells #[.int .u8 (x.kind : Int), .string x.text, .slice ka0 x.keys.length kc0, .slice ba0 x.kids.length bc0, .int .i64 x.line] 34)).alloc (.cells #[.int .u8 0, .string { data := #[] }, .slice none 0 0, .slice none 0 0, .int .i64 0] 34)).heap[w.heap.size + 1]? = some (.cells #[.int .u8 0, .string { data := #[] }, .slice none 0 0, .slice none 0 0, .int .i64 0] 34 (0, 0)) := by
    have := World.alloc_heap_new (w.alloc (.cells #[.int .u8 (x.kind : Int), .string x.text, .slice ka0 x.keys.length kc0, .slice ba0 x.kids.length bc0, .int .i64 x.line] 34)) (.cells #[.int .u8 0, .string { data := #[] }, .slice none 0 0, .slice none 0 0, .int .i64 0] 34)
    rwa [World.size_alloc] at this
  clear h hv hs
  go_enter Try.func74, Try.ntmps74
  go_upto_region 1 with fail
  generalize hwz : ((w.alloc (.cells #[.int .u8 (x.kind : Int), .string x.text, .slice ka0 x.keys.length kc0, .slice ba0 x.kids.length bc0, .int .i64 x.line] 34)).alloc (.cells #[.int .u8 0, .string { data := #[] }, .slice none 0 0, .slice none 0 0, .int .i64 0] 34)) = wz at *
  have HB0 := Lib.hid hb0
  have G1 := Lib.hid g1
  have G2 := Lib.hid g2
  clear hb0 g1 g2 hwz
  go_wp2_with fail
  go_loopw [13] (fun i wr => ∃ (j : Nat) (y : Tree) (ka : Option Addr) (kc : Nat) (ba : Option Addr) (bc : Nat), j ≤ l.length ∧ i = .int .i64 j ∧ Hid (atT x l = atT y (l.drop j)) ∧ Hid (NodeR w [.int .u8 (y.kind : Int), .string y.text, .slice ka y.keys.length kc, .slice ba y.kids.length bc, .int .i64 y.line] y) ∧ Hid (wr.heap[w.heap.size]? = some (.cells #[.int .u8 (y.kind : Int), .string y.text, .slice ka y.keys.length kc, .slice ba y.kids.length bc, .int .i64 y.line] 34 (0, 0))) ∧ Hid (wr.heap[w.heap.size + 1]? = some (.cells #[.int .u8 0, .string { data := #[] }, .slice none 0 0, .slice none 0 0, .int .i64 0] 34 (0, 0))) ∧ Hid (Below w.heap.size w wr)) (fun i _ => l.length - (intOf i).toNat)
  case atStart => exact ⟨0, x, _, _, _, _, by omega, rfl, Lib.hid rfl, H, G1, G2, HB0⟩
  case round =>
    obtain ⟨j, y, ka, kc, ba, bc, hj, rfl, HA, HY, GY, GZ, HB⟩ := hrel
    obtain ⟨hkr, hcr, hk8⟩ := HY.out.kidsR
    have HKR := Lib.hid (hkr.below HB.out)
    have HCR := Lib.hid (hcr.below HB.out)
    have hkl := rds_len2 hkr
    obtain ⟨_, _, he3, hcl1, hcl2⟩ := hcr.form
    cases he3
    obtain ⟨q0, q1, q2, q3, q4⟩ := cells5 GY.out
    obtain ⟨f0, f1, f2, f3, f4⟩ := cells5w GY.out
    clear hkr hcr
    by_cases hlt : j < l.length
    · obtain ⟨g, off, he, z1, z2, c1⟩ := strs_at (HV.out.below HB.out) hlt
      cases he
      have hj0 : (0 : Int) ≤ (j : Int) := by omega
      have hj1 : (j : Int) < (l.length : Int) := by omega
      have hsz := HS.out _ (List.getElem_mem hlt)
      have HDR : Hid (l.drop j = l[j] :: l.drop (j + 1)) := Lib.hid (List.drop_eq_getElem_cons hlt)
      generalize l[j] = s at *
      have hr1 := idxS_range y.keys s hkl
      have hr2 := numN_range s
      by_cases hk3 : y.kind = 3
      · have HK : Hid (kidAt y s = idxS y.keys s) := Lib.hid (by unfold kidAt; rw [if_pos hk3])
        have d1 : ((y.kind : Int) == 3) = true := by simp [hk3]
        clear hk3
        generalize hK : idxS y.keys s = K at *
        have HI := Lib.hid (IndexS_any y.keys _ s wr HKR.out)
        rw [hK] at HI
        clear hK
        go_wp2_with fail
        refine HI.out.mono ?_
        rintro e w3 ⟨rfl, rfl⟩
        by_cases hK0 : K < 0
        · have HN : Hid (atT x l = none) := Lib.hid (by rw [HA.out, HDR.out]; exact atT_no (by rw [HK.out]; omega))
          have e1 : decide (K < 0) = true := by simpa using hK0
          obtain ⟨r0, r1, r2, r3, r4⟩ := cells5 GZ.out
          obtain ⟨s0, s1, s2, s3, s4⟩ := cells5w GZ.out
          go_wp2
          have hset := set5w (x0 := .int .u8 0) (x1 := .string { data := #[] }) (x2 := .slice none 0 0) (x3 := .slice none 0 0) (x4 := .int .i64 0) GZ.out
          have hbf := set5w_below (x0 := .int .u8 0) (x1 := .string { data := #[] }) (x2 := .slice none 0 0) (x3 := .slice none 0 0) (x4 := .int .i64 0) HB.out (B := w.heap.size + 1) (by omega)
          generalize (((((wr.setCell ⟨w.heap.size + 1, 0, none⟩ (.int .u8 0)).setCell ⟨w.heap.size + 1, 1, none⟩ (.string { data := #[] })).setCell ⟨w.heap.size + 1, 2, none⟩ (.slice none 0 0)).setCell ⟨w.heap.size + 1, 3, none⟩ (.slice none 0 0)).setCell ⟨w.heap.size + 1, 4, none⟩ (.int .i64 0)) = wf at *
          clear r0 r1 r2 r3 r4 s0 s1 s2 s3 s4
          obtain ⟨y0, y1, y2, y3, y4⟩ := cells5 hset
          refine bodyPost_ret (v := .tuple #[.agg #[.int .u8 0, .string { data := #[] }, .slice none 0 0, .slice none 0 0, .int .i64 0], .bool false]) (by simp [results, Try.results74, go_sem, y0, y1, y2, y3, y4]) rfl ?_
          exact ⟨_, _, rfl, by rw [HN.out]; exact ⟨rfl, rfl⟩, hbf⟩
        have e1 : decide (K < 0) = false := by simpa using hK0
        by_cases hK1 : (y.kids.length : Int) ≤ K
        · have HN : Hid (atT x l = none) := Lib.hid (by rw [HA.out, HDR.out]; exact atT_no (by rw [HK.out]; omega))
          have e2 : decide ((y.kids.length : Int) ≤ K) = true := by simpa using hK1
          obtain ⟨r0, r1, r2, r3, r4⟩ := cells5 GZ.out
          obtain ⟨s0, s1, s2, s3, s4⟩ := cells5w GZ.out
          go_wp2
          have hset := set5w (x0 := .int .u8 0) (x1 := .string { data := #[] }) (x2 := .slice none 0 0) (x3 := .slice none 0 0) (x4 := .int .i64 0) GZ.out
          have hbf := set5w_below (x0 := .int .u8 0) (x1 := .string { data := #[] }) (x2 := .slice none 0 0) (x3 := .slice none 0 0) (x4 := .int .i64 0) HB.out (B := w.heap.size + 1) (by omega)
          generalize (((((wr.setCell ⟨w.heap.size + 1, 0, none⟩ (.int .u8 0)).setCell ⟨w.heap.size + 1, 1, none⟩ (.string { data := #[] })).setCell ⟨w.heap.size + 1, 2, none⟩ (.slice none 0 0)).setCell ⟨w.heap.size + 1, 3, none⟩ (.slice none 0 0)).setCell ⟨w.heap.size + 1, 4, none⟩ (.int .i64 0)) = wf at *
          clear r0 r1 r2 r3 r4 s0 s1 s2 s3 s4
          obtain ⟨y0, y1, y2, y3, y4⟩ := cells5 hset
          refine bodyPost_ret (v := .tuple #[.agg #[.int .u8 0, .string { data := #[] }, .slice none 0 0, .slice none 0 0, .int .i64 0], .bool false]) (by simp [results, Try.results74, go_sem, y0, y1, y2, y3, y4]) rfl ?_
          exact ⟨_, _, rfl, by rw [HN.out]; exact ⟨rfl, rfl⟩, hbf⟩
        have e2 : decide ((y.kids.length : Int) ≤ K) = false := by simpa using hK1
        obtain ⟨k, rfl⟩ : ∃ k : Nat, K = (k : Int) := ⟨K.toNat, by omega⟩
        have hk : k < y.kids.length := by omega
        obtain ⟨g', off', cap', ka2, kc2, ba2, bc2, he, n1, n2, hn6, z0, z1', z2', z3, z4⟩ := HY.out.kidsR.2.1.at hk
        cases he
        have z0 := cellB HB.out z0
        have z1' := cellB HB.out z1'
        have z2' := cellB HB.out z2'
        have z3 := cellB HB.out z3
        have z4 := cellB HB.out z4
        have HGA : Hid (atT x l = atT y.kids[k] (l.drop (j + 1))) := Lib.hid (by rw [HA.out, HDR.out]; exact atT_go hk HK.out)
        generalize y.kids[k] = y' at *
        have HN5 := Lib.hid hn6
        clear hn6
        go_wp2_with fail
        have hset := set5w (x0 := .int .u8 (y'.kind : Int)) (x1 := .string y'.text) (x2 := .slice ka2 y'.keys.length kc2) (x3 := .slice ba2 y'.kids.length bc2) (x4 := .int .i64 y'.line) GY.out
        have hbf := set5w_below (x0 := .int .u8 (y'.kind : Int)) (x1 := .string y'.text) (x2 := .slice ka2 y'.keys.length kc2) (x3 := .slice ba2 y'.kids.length bc2) (x4 := .int .i64 y'.line) HB.out (B := w.heap.size) (by omega)
        have hgz := (set5w_other (x0 := .int .u8 (y'.kind : Int)) (x1 := .string y'.text) (x2 := .slice ka2 y'.keys.length kc2) (x3 := .slice ba2 y'.kids.length bc2) (x4 := .int .i64 y'.line) (show w.heap.size + 1 ≠ w.heap.size by omega)).trans GZ.out
        clear q0 q1 q2 q3 q4 f0 f1 f2 f3 f4 z0 z1' z2' z3 z4
        generalize (((((wr.setCell ⟨w.heap.size, 0, none⟩ (.int .u8 (y'.kind : Int))).setCell ⟨w.heap.size, 1, none⟩ (.string y'.text)).setCell ⟨w.heap.size, 2, none⟩ (.slice ka2 y'.keys.length kc2)).setCell ⟨w.heap.size, 3, none⟩ (.slice ba2 y'.kids.length bc2)).setCell ⟨w.heap.size, 4, none⟩ (.int .i64 y'.line)) = wf at *
        go_roundw
        case rel => exact ⟨j + 1, y', ka2, kc2, ba2, bc2, by omega, by go_num, HGA, HN5, Lib.hid hset, Lib.hid hgz, Lib.hid hbf⟩
        case measure => simp [intOf]; omega
      have d1 : ((y.kind : Int) == 3) = false := by simp; omega
      by_cases hk2 : y.kind = 2
      · have d2 : ((y.kind : Int) == 2) = true := by simp [hk2]
        have HI := Lib.hid (Number_any s wr hsz)
        by_cases hn : (numN (bsN s)).2 = 0
        · have HK : Hid (kidAt y s = ((numN (bsN s)).1 : Int)) := Lib.hid (by unfold kidAt; rw [if_neg hk3, if_pos hk2, if_pos hn])
          clear hk3 hk2
          rw [hn] at HI
          clear hn
          generalize hK : (((numN (bsN s)).1 : Nat) : Int) = K at *
          have hr3 : 0 ≤ K ∧ K < 1000000000 := by omega
          clear hr1 hr2 hK
          go_wp2_with fail
          refine HI.out.mono ?_
          rintro e w3 ⟨rfl, hb3⟩
          have hbr3 := HB.out.size
          have hltY := (Array.getElem?_eq_some_iff.1 GY.out).1
          have hltZ := (Array.getElem?_eq_some_iff.1 GZ.out).1
          have HB3 := Lib.hid (bthen HB.out (Nat.le_refl _) hb3)
          have GY3 := Lib.hid ((hb3.block _ hltY).trans GY.out)
          have GZ3 := Lib.hid ((hb3.block _ hltZ).trans GZ.out)
          have HCR3 := Lib.hid (HCR.out.below hb3)
          clear hb3 q0 q1 q2 q3 q4 f0 f1 f2 f3 f4
          obtain ⟨q0, q1, q2, q3, q4⟩ := cells5 GY3.out
          obtain ⟨f0, f1, f2, f3, f4⟩ := cells5w GY3.out
          have hK0 : ¬ K < 0 := by omega
          have e1 : decide (K < 0) = false := by simpa using hK0
          by_cases hK1 : (y.kids.length : Int) ≤ K
          · have HN : Hid (atT x l = none) := Lib.hid (by rw [HA.out, HDR.out]; exact atT_no (by rw [HK.out]; omega))
            have e2 : decide ((y.kids.length : Int) ≤ K) = true := by simpa using hK1
            obtain ⟨r0, r1, r2, r3, r4⟩ := cells5 GZ3.out
            obtain ⟨s0, s1, s2, s3, s4⟩ := cells5w GZ3.out
            go_wp2
            have hset := set5w (x0 := .int .u8 0) (x1 := .string { data := #[] }) (x2 := .slice none 0 0) (x3 := .slice none 0 0) (x4 := .int .i64 0) GZ3.out
            have hbf := set5w_below (x0 := .int .u8 0) (x1 := .string { data := #[] }) (x2 := .slice none 0 0) (x3 := .slice none 0 0) (x4 := .int .i64 0) HB3.out (B := w.heap.size + 1) (by omega)
            generalize (((((w3.setCell ⟨w.heap.size + 1, 0, none⟩ (.int .u8 0)).setCell ⟨w.heap.size + 1, 1, none⟩ (.string { data := #[] })).setCell ⟨w.heap.size + 1, 2, none⟩ (.slice none 0 0)).setCell ⟨w.heap.size + 1, 3, none⟩ (.slice none 0 0)).setCell ⟨w.heap.size + 1, 4, none⟩ (.int .i64 0)) = wf at *
            clear r0 r1 r2 r3 r4 s0 s1 s2 s3 s4
            obtain ⟨y0, y1, y2, y3, y4⟩ := cells5 hset
            refine bodyPost_ret (v := .tuple #[.agg #[.int .u8 0, .string { data := #[] }, .slice none 0 0, .slice none 0 0, .int .i64 0], .bool false]) (by simp [results, Try.results74, go_sem, y0, y1, y2, y3, y4]) rfl ?_
            exact ⟨_, _, rfl, by rw [HN.out]; exact ⟨rfl, rfl⟩, hbf⟩
          have e2 : decide ((y.kids.length : Int) ≤ K) = false := by simpa using hK1
          obtain ⟨k, rfl⟩ : ∃ k : Nat, K = (k : Int) := ⟨K.toNat, by omega⟩
          have hk : k < y.kids.length := by omega
          obtain ⟨g', off', cap', ka2, kc2, ba2, bc2, he, n1, n2, hn6, z0, z1', z2', z3, z4⟩ := HY.out.kidsR.2.1.at hk
          cases he
          have z0 := cellB HB3.out z0
          have z1' := cellB HB3.out z1'
          have z2' := cellB HB3.out z2'
          have z3 := cellB HB3.out z3
          have z4 := cellB HB3.out z4
          have HGA : Hid (atT x l = atT y.kids[k] (l.drop (j + 1))) := Lib.hid (by rw [HA.out, HDR.out]; exact atT_go hk HK.out)
          generalize y.kids[k] = y' at *
          have HN5 := Lib.hid hn6
          clear hn6
          go_wp2_with fail
          have hset := set5w (x0 := .int .u8 (y'.kind : Int)) (x1 := .string y'.text) (x2 := .slice ka2 y'.keys.length kc2) (x3 := .slice ba2 y'.kids.length bc2) (x4 := .int .i64 y'.line) GY3.out
          have hbf := set5w_below (x0 := .int .u8 (y'.kind : Int)) (x1 := .string y'.text) (x2 := .slice ka2 y'.keys.length kc2) (x3 := .slice ba2 y'.kids.length bc2) (x4 := .int .i64 y'.line) HB3.out (B := w.heap.size) (by omega)
          have hgz := (set5w_other (x0 := .int .u8 (y'.kind : Int)) (x1 := .string y'.text) (x2 := .slice ka2 y'.keys.length kc2) (x3 := .slice ba2 y'.kids.length bc2) (x4 := .int .i64 y'.line) (show w.heap.size + 1 ≠ w.heap.size by omega)).trans GZ3.out
          clear q0 q1 q2 q3 q4 f0 f1 f2 f3 f4 z0 z1' z2' z3 z4
          generalize (((((w3.setCell ⟨w.heap.size, 0, none⟩ (.int .u8 (y'.kind : Int))).setCell ⟨w.heap.size, 1, none⟩ (.string y'.text)).setCell ⟨w.heap.size, 2, none⟩ (.slice ka2 y'.keys.length kc2)).setCell ⟨w.heap.size, 3, none⟩ (.slice ba2 y'.kids.length bc2)).setCell ⟨w.heap.size, 4, none⟩ (.int .i64 y'.line)) = wf at *
          go_roundw
          case rel => exact ⟨j + 1, y', ka2, kc2, ba2, bc2, by omega, by go_num, HGA, HN5, Lib.hid hset, Lib.hid hgz, Lib.hid hbf⟩
          case measure => simp [intOf]; omega
        · have hn3 : (numN (bsN s)).2 = 3 := by omega
          have HK : Hid (kidAt y s = -1) := Lib.hid (by unfold kidAt; rw [if_neg hk3, if_pos hk2, if_neg hn])
          clear hk3 hk2
          rw [hn3] at HI
          clear hn hn3 hr1 hr2
          generalize (((numN (bsN s)).1 : Nat) : Int) = K at *
          go_wp2_with fail
          refine HI.out.mono ?_
          rintro e w3 ⟨rfl, hb3⟩
          have hbr3 := HB.out.size
          have hltY := (Array.getElem?_eq_some_iff.1 GY.out).1
          have hltZ := (Array.getElem?_eq_some_iff.1 GZ.out).1
          have HB3 := Lib.hid (bthen HB.out (Nat.le_refl _) hb3)
          have GY3 := Lib.hid ((hb3.block _ hltY).trans GY.out)
          have GZ3 := Lib.hid ((hb3.block _ hltZ).trans GZ.out)
          have HCR3 := Lib.hid (HCR.out.below hb3)
          clear hb3 q0 q1 q2 q3 q4 f0 f1 f2 f3 f4
          obtain ⟨q0, q1, q2, q3, q4⟩ := cells5 GY3.out
          obtain ⟨f0, f1, f2, f3, f4⟩ := cells5w GY3.out
          have hK : ¬ (0 ≤ kidAt y s ∧ kidAt y s < (y.kids.length : Int)) := by rw [HK.out]; omega
          have HN : Hid (atT x l = none) := Lib.hid (by rw [HA.out, HDR.out]; exact atT_no hK)
          clear hK
          obtain ⟨r0, r1, r2, r3, r4⟩ := cells5 GZ3.out
          obtain ⟨s0, s1, s2, s3, s4⟩ := cells5w GZ3.out
          go_wp2
          have hset := set5w (x0 := .int .u8 0) (x1 := .string { data := #[] }) (x2 := .slice none 0 0) (x3 := .slice none 0 0) (x4 := .int .i64 0) GZ3.out
          have hbf := set5w_below (x0 := .int .u8 0) (x1 := .string { data := #[] }) (x2 := .slice none 0 0) (x3 := .slice none 0 0) (x4 := .int .i64 0) HB3.out (B := w.heap.size + 1) (by omega)
          generalize (((((w3.setCell ⟨w.heap.size + 1, 0, none⟩ (.int .u8 0)).setCell ⟨w.heap.size + 1, 1, none⟩ (.string { data := #[] })).setCell ⟨w.heap.size + 1, 2, none⟩ (.slice none 0 0)).setCell ⟨w.heap.size + 1, 3, none⟩ (.slice none 0 0)).setCell ⟨w.heap.size + 1, 4, none⟩ (.int .i64 0)) = wf at *
          clear r0 r1 r2 r3 r4 s0 s1 s2 s3 s4
          obtain ⟨y0, y1, y2, y3, y4⟩ := cells5 hset
          refine bodyPost_ret (v := .tuple #[.agg #[.int .u8 0, .string { data := #[] }, .slice none 0 0, .slice none 0 0, .int .i64 0], .bool false]) (by simp [results, Try.results74, go_sem, y0, y1, y2, y3, y4]) rfl ?_
          exact ⟨_, _, rfl, by rw [HN.out]; exact ⟨rfl, rfl⟩, hbf⟩
      have d2 : ((y.kind : Int) == 2) = false := by simp; omega
      have HK : Hid (kidAt y s = -1) := Lib.hid (by unfold kidAt; rw [if_neg hk3, if_neg hk2])
      have hK : ¬ (0 ≤ kidAt y s ∧ kidAt y s < (y.kids.length : Int)) := by rw [HK.out]; omega
      have HN : Hid (atT x l = none) := Lib.hid (by rw [HA.out, HDR.out]; exact atT_no hK)
      clear hK hk3 hk2 hr1 hr2
      obtain ⟨r0, r1, r2, r3, r4⟩ := cells5 GZ.out
      obtain ⟨s0, s1, s2, s3, s4⟩ := cells5w GZ.out
      go_wp2
      have hset := set5w (x0 := .int .u8 0) (x1 := .string { data := #[] }) (x2 := .slice none 0 0) (x3 := .slice none 0 0) (x4 := .int .i64 0) GZ.out
      have hbf := set5w_below (x0 := .int .u8 0) (x1 := .string { data := #[] }) (x2 := .slice none 0 0) (x3 := .slice none 0 0) (x4 := .int .i64 0) HB.out (B := w.heap.size + 1) (by omega)
      generalize (((((wr.setCell ⟨w.heap.size + 1, 0, none⟩ (.int .u8 0)).setCell ⟨w.heap.size + 1, 1, none⟩ (.string { data := #[] })).setCell ⟨w.heap.size + 1, 2, none⟩ (.slice none 0 0)).setCell ⟨w.heap.size + 1, 3, none⟩ (.slice none 0 0)).setCell ⟨w.heap.size + 1, 4, none⟩ (.int .i64 0)) = wf at *
      clear r0 r1 r2 r3 r4 s0 s1 s2 s3 s4
      obtain ⟨y0, y1, y2, y3, y4⟩ := cells5 hset
      refine bodyPost_ret (v := .tuple #[.agg #[.int .u8 0, .string { data := #[] }, .slice none 0 0, .slice none 0 0, .int .i64 0], .bool false]) (by simp [results, Try.results74, go_sem, y0, y1, y2, y3, y4]) rfl ?_
      exact ⟨_, _, rfl, by rw [HN.out]; exact ⟨rfl, rfl⟩, hbf⟩
    · have HD : Hid (l.drop j = []) := Lib.hid (List.drop_of_length_le (by omega))
      obtain ⟨r0, r1, r2, r3, r4⟩ := cells5 GZ.out
      obtain ⟨s0, s1, s2, s3, s4⟩ := cells5w GZ.out
      have HAE : Hid (atT x l = some y) := Lib.hid (by rw [HA.out, HD.out]; rfl)
      go_wp2
      have hset := set5w (x0 := .int .u8 (y.kind : Int)) (x1 := .string y.text) (x2 := .slice ka y.keys.length kc) (x3 := .slice ba y.kids.length bc) (x4 := .int .i64 y.line) GZ.out
      have hbf := set5w_below (x0 := .int .u8 (y.kind : Int)) (x1 := .string y.text) (x2 := .slice ka y.keys.length kc) (x3 := .slice ba y.kids.length bc) (x4 := .int .i64 y.line) HB.out (B := w.heap.size + 1) (by omega)
      generalize (((((wr.setCell ⟨w.heap.size + 1, 0, none⟩ (.int .u8 (y.kind : Int))).setCell ⟨w.heap.size + 1, 1, none⟩ (.string y.text)).setCell ⟨w.heap.size + 1, 2, none⟩ (.slice ka y.keys.length kc)).setCell ⟨w.heap.size + 1, 3, none⟩ (.slice ba y.kids.length bc)).setCell ⟨w.heap.size + 1, 4, none⟩ (.int .i64 y.line)) = wf at *
      clear r0 r1 r2 r3 r4 s0 s1 s2 s3 s4
      obtain ⟨y0, y1, y2, y3, y4⟩ := cells5 hset
      refine bodyPost_ret (v := .tuple #[.agg #[.int .u8 (y.kind : Int), .string y.text, .slice ka y.keys.length kc, .slice ba y.kids.length bc, .int .i64 y.line], .bool true]) (by simp [results, Try.results74, go_sem, y0, y1, y2, y3, y4]) rfl ?_
      exact ⟨_, _, rfl, by rw [HAE.out]; exact ⟨rfl, HY.out.belowW hbf⟩, hbf⟩
end Go.Proofs.Ytlakmfhpinljjaa

/-
  rescriptlaw21.one, rescriptlaw21.live: contracts.
-/
namespace Go.Proofs.Ytlakmfhpinljjaa
open Go Go.RowKit Go.WideShapes

def oneS (lim : Int) : StepD := ⟨{ data := #[97] }, { data := #[100, 111] }, { data := #[117, 110, 100, 111] }, [{ data := #[98] }], 2, 0, 0, lim, .mk 0 { data := #[] } [] [] 0⟩
def oneD (lim : Int) : DefD := ⟨{ data := #[115] }, { data := #[] }, [oneS lim]⟩
theorem one_small (lim : Int) : SmallD (oneD lim) := by
  refine ⟨by simp only [oneD]; decide, by simp only [oneD]; decide, by simp [oneD], fun s hs => ?_⟩
  simp only [oneD, List.mem_singleton] at hs
  subst hs
  exact ⟨by simp only [oneS]; decide, by simp only [oneS]; decide, by simp only [oneS]; decide, by simp [oneS], .mk (by decide) (by simp) (fun s hs => by cases hs) (fun x hx => by cases hx) (by simp), fun a ha => by simp only [oneS, List.mem_singleton] at ha; subst ha; decide⟩
theorem node_none (W : World) : NodeR W [.int .u8 0, .string { data := #[] }, .slice none 0 0, .slice none 0 0, .int .i64 0] (.mk 0 { data := #[] } [] [] 0) :=
  .mk [] (by decide) (by decide) (fun s hs => by cases hs) (by decide) ⟨rfl, none, 0, rfl, Nat.le_refl _, Nat.zero_le _, .inl rfl⟩ rfl ⟨rfl, none, 0, rfl, Nat.le_refl _, Nat.zero_le _, .inl rfl⟩ (fun i r x h => by simp at h)
/-- The blocks of a definition of one step. -/
structure OneAt (W : World) (g1 g2 : Nat) (lim : Int) : Prop where
  b1 : W.heap[g1]? = some (.cells #[.string { data := #[98] }] 9 (0, 0))
  b2 : W.heap[g2]? = some (.cells #[.string { data := #[97] }, .string { data := #[100, 111] }, .string { data := #[117, 110, 100, 111] }, .slice (some ⟨g1, 0, none⟩) 1 1, .int .i64 2, .int .i64 0, .int .i64 0, .int .i64 lim, .int .u8 0, .string { data := #[] }, .slice none 0 0, .slice none 0 0, .int .i64 0] 45 (0, 0))
theorem OneAt.below {W W' : World} {g1 g2 : Nat} {lim : Int} (h : OneAt W g1 g2 lim) (hb : Below W.heap.size W W') : OneAt W' g1 g2 lim :=
  ⟨(hb.block _ (Array.getElem?_eq_some_iff.1 h.b1).1).trans h.b1, (hb.block _ (Array.getElem?_eq_some_iff.1 h.b2).1).trans h.b2⟩
theorem rds_row {W : World} {g : Nat} {l : List Value} {t : TypeId} {fr : Nat × Nat} (n size : Nat) (h : W.heap[g]? = some (.cells l.toArray t fr)) (hn : l.length = n * size) (hb : n ≤ 1073741824) : RdS W (.slice (some ⟨g, 0, none⟩) n n) size n l := by
  refine ⟨hn, _, _, rfl, Nat.le_refl _, by unfold maxLen; omega, .inr ⟨g, 0, rfl, fun i c hi => ?_⟩⟩
  simp only [World.cell?, h, Nat.zero_add]
  simpa using hi
theorem OneAt.toR {W : World} {g1 g2 : Nat} {lim : Int} (h : OneAt W g1 g2 lim) (hl : I64w lim) : DefR W [.string { data := #[115] }, .string { data := #[] }, .slice (some ⟨g2, 0, none⟩) 1 1] (oneD lim) (some ⟨g2, 0, none⟩) 1 := by
  refine ⟨rfl, by simp only [oneD]; decide, by simp only [oneD]; decide, [[.string { data := #[97] }, .string { data := #[100, 111] }, .string { data := #[117, 110, 100, 111] }, .slice (some ⟨g1, 0, none⟩) 1 1, .int .i64 2, .int .i64 0, .int .i64 0, .int .i64 lim, .int .u8 0, .string { data := #[] }, .slice none 0 0, .slice none 0 0, .int .i64 0]], rfl, rds_row 1 13 h.b2 rfl (by decide), fun i r s hr hs => ?_⟩
  rcases i with _ | i
  · cases hr
    cases hs
    refine ⟨some ⟨g1, 0, none⟩, 1, none, 0, none, 0, rfl, ⟨by simp only [oneS]; decide, by simp only [oneS]; decide, by simp only [oneS]; decide, fun a ha => by simp only [oneS, List.mem_singleton] at ha; subst ha; decide, by simp only [oneS]; unfold I64w; omega, by simp only [oneS]; unfold I64w; omega, by simp only [oneS]; unfold I64w; omega, hl⟩, rds_row 1 1 h.b1 rfl (by decide), node_none W⟩
  · simp at hr
theorem OneAt.setLim {W : World} {g1 g2 : Nat} {lim : Int} (h : OneAt W g1 g2 lim) (hne : g1 ≠ g2) (n : Int) : OneAt (W.setCell ⟨g2, 7, none⟩ (.int .i64 n)) g1 g2 n :=
  ⟨(Below.heap_setCell W ⟨g2, 7, none⟩ _ g1 hne).trans h.b1, by simp [World.setCell, h.b2, Array.getElem?_modify]⟩

set_option maxRecDepth 100000 in
set_option maxHeartbeats 1000000 in
theorem one_any (w : World) : Calls Try.prog 73 #[] w fun e w' => e = .returned (.agg #[.string { data := #[115] }, .string { data := #[] }, .slice (some ⟨w.heap.size + 2, 0, none⟩) 1 1]) ∧ OneAt w' (w.heap.size + 1) (w.heap.size + 2) 5 ∧ Below w.heap.size w w' := by
  go_enter Try.func73, Try.ntmps73
  go_wp2
  obtain ⟨h1, h2, h3, h4, h5⟩ := alloc3 w 24 9 45 #[.string { data := #[115] }, .string { data := #[] }, .slice (some ⟨w.heap.size + 1 + 1, 0, none⟩) 1 1] #[.string { data := #[98] }] #[.string { data := #[97] }, .string { data := #[100, 111] }, .string { data := #[117, 110, 100, 111] }, .slice (some ⟨w.heap.size + 1, 0, none⟩) 1 1, .int .i64 2, .int .i64 0, .int .i64 0, .int .i64 5, .int .u8 0, .string { data := #[] }, .slice none 0 0, .slice none 0 0, .int .i64 0]
  obtain ⟨y0, y1, y2, -, -, -⟩ := cells3h h2
  refine bodyPost_ret (v := .agg #[.string { data := #[115] }, .string { data := #[] }, .slice (some ⟨w.heap.size + 2, 0, none⟩) 1 1]) (by simp [results, Try.results73, go_sem, y0, y1, y2]) rfl ?_
  exact ⟨rfl, ⟨h3, h4⟩, h1⟩

theorem one_check : defC (oneD 5) = (0, 0) := by decide +kernel
theorem bad_check : defC (oneD (-1)) = (1, 1) := by decide +kernel
theorem one_same : sameD (oneD 5) (oneD 5) = true := by decide +kernel
theorem bad_same : sameD (oneD 5) (oneD (-1)) = false := by decide +kernel
theorem one_idx : idxStep (oneD 5).steps { data := #[97] } 0 = 0 := by decide +kernel
theorem one_idz : idxStep (oneD 5).steps { data := #[122] } 0 = -1 := by decide +kernel
def pathL : List ByteArray := [sSteps, { data := #[48] }, sRetry, sMost]
theorem one_at : atT (defT (oneD 5)) pathL = some (numT 2) := by kernel_rfl
theorem num2 : digS 2 = { data := #[50] } := by decide +kernel
theorem cs_pair {W : World} {cs : List Value} {b : Bool} (h : NodeAt W (some (numT 2)) b cs) : b = true ∧ ∃ ka kc ba bc, cs = [.int .u8 1, .string { data := #[50] }, .slice ka 0 kc, .slice ba 0 bc, .int .i64 0] := by
  obtain ⟨h1, h2⟩ := h
  obtain ⟨ka, kc, ba, bc, he⟩ := h2.cells
  refine ⟨h1, ka, kc, ba, bc, ?_⟩
  rw [he]
  show [_, Value.string (digS 2), _, _, _] = _
  rw [num2]; rfl

theorem c_check {lim a b : Int} (hf : defC (oneD lim) = (a, b)) (hl : I64w lim) {g1 g2 : Nat} {W0 W : World} (h : OneAt W0 g1 g2 lim) (hb : Below W0.heap.size W0 W) : Calls Try.prog 16 #[.agg #[.string { data := #[115] }, .string { data := #[] }, .slice (some ⟨g2, 0, none⟩) 1 1]] W fun e w' => e = .returned (.agg #[.int .i64 a, .int .i64 b]) ∧ Below W.heap.size W w' := by
  have := dCheck_any (oneD lim) _ _ _ W ((h.below hb).toR hl) (one_small lim)
  rw [hf] at this
  exact this
theorem c_same {l1 l2 : Int} {b : Bool} (hf : sameD (oneD l1) (oneD l2) = b) (hl1 : I64w l1) (hl2 : I64w l2) {g1 g2 k1 k2 : Nat} {W : World} (h : OneAt W g1 g2 l1) (h' : OneAt W k1 k2 l2) : Calls Try.prog 20 #[.agg #[.string { data := #[115] }, .string { data := #[] }, .slice (some ⟨g2, 0, none⟩) 1 1], .agg #[.string { data := #[115] }, .string { data := #[] }, .slice (some ⟨k2, 0, none⟩) 1 1]] W fun e w' => e = .returned (.bool b) ∧ Below W.heap.size W w' := by
  have := dSame_any (oneD l1) (oneD l2) _ _ _ _ _ _ W (h.toR hl1) (h'.toR hl2)
  rw [hf] at this
  exact this
theorem c_copy {g1 g2 : Nat} {W : World} (h : OneAt W g1 g2 5) : Calls Try.prog 18 #[.agg #[.string { data := #[115] }, .string { data := #[] }, .slice (some ⟨g2, 0, none⟩) 1 1]] W fun e w' => ∃ va vc, e = .returned (.agg #[.string { data := #[115] }, .string { data := #[] }, .slice va 1 vc]) ∧ DefR w' [.string { data := #[115] }, .string { data := #[] }, .slice va 1 vc] (oneD 5) va vc ∧ Below W.heap.size W w' := by
  refine (dCopy_any (oneD 5) _ _ _ W (h.toR (by unfold I64w; omega)) (one_small 5)).mono ?_
  rintro e w' ⟨va, vc, rows, rfl, h1, h2, h3, hb⟩
  exact ⟨va, vc, rfl, ⟨rfl, by simp only [oneD]; decide, by simp only [oneD]; decide, rows, h1, RdS.of_owns h2, fun i r s hr hs => (h3 i r s hr hs).toX⟩, hb⟩
theorem c_same2 {g1 g2 : Nat} {va : Option Addr} {vc : Nat} {W : World} (h' : DefR W [.string { data := #[115] }, .string { data := #[] }, .slice va 1 vc] (oneD 5) va vc) (h : OneAt W g1 g2 5) : Calls Try.prog 20 #[.agg #[.string { data := #[115] }, .string { data := #[] }, .slice va 1 vc], .agg #[.string { data := #[115] }, .string { data := #[] }, .slice (some ⟨g2, 0, none⟩) 1 1]] W fun e w' => e = .returned (.bool true) ∧ Below W.heap.size W w' := by
  have := dSame_any (oneD 5) (oneD 5) _ _ _ _ _ _ W h' (h.toR (by unfold I64w; omega))
  rw [one_same] at this
  exact this
theorem c_index {n : ByteArray} {k : Int} (hf : idxStep (oneD 5).steps n 0 = k) {g1 g2 : Nat} {W : World} (h : OneAt W g1 g2 5) : Calls Try.prog 22 #[.agg #[.string { data := #[115] }, .string { data := #[] }, .slice (some ⟨g2, 0, none⟩) 1 1], .string n] W fun e w' => e = .returned (.int .i64 k) ∧ Below W.heap.size W w' := by
  have := dIndex_any (oneD 5) n _ _ _ W (h.toR (by unfold I64w; omega))
  rw [hf] at this
  exact this

set_option maxRecDepth 100000 in
set_option maxHeartbeats 8000000 in
theorem live21_any (w : World) : Calls Try.prog 23 #[] w fun e w' => e = .returned (.bool true) ∧ Below w.heap.size w w' := by
  go_enter Try.func23, Try.ntmps23
  go_wp2_with fail
  refine (one_any w).mono ?_
  rintro e w1 ⟨rfl, ho1, hb1⟩
  have hs1 := hb1.size
  have hlb := (Array.getElem?_eq_some_iff.1 ho1.b2).1
  go_upto_region 2 with fail
  have hba := (Below.refl w1.heap.size w1).alloc (Nat.le_refl _) (.cells #[.string { data := #[115] }, .string { data := #[] }, .slice (some ⟨w.heap.size + 2, 0, none⟩) 1 1] 24)
  have HOA := Lib.hid (ho1.below hba)
  have HGA := Lib.hid (World.alloc_heap_new w1 (.cells #[.string { data := #[115] }, .string { data := #[] }, .slice (some ⟨w.heap.size + 2, 0, none⟩) 1 1] 24))
  have HBA := Lib.hid (bthen hb1 (Nat.le_refl _) hba)
  have HSA : Hid ((w1.alloc (.cells #[.string { data := #[115] }, .string { data := #[] }, .slice (some ⟨w.heap.size + 2, 0, none⟩) 1 1] 24)).heap.size = w1.heap.size + 1) := Lib.hid (by simp)
  generalize w1.alloc (.cells #[.string { data := #[115] }, .string { data := #[] }, .slice (some ⟨w.heap.size + 2, 0, none⟩) 1 1] 24) = wa at *
  generalize w1.heap.size = D1 at *
  generalize hg2 : w.heap.size + 2 = g2 at *
  generalize hg1 : w.heap.size + 1 = g1 at *
  have HG12 : Hid (g1 ≠ g2) := Lib.hid (by omega)
  obtain ⟨q0, q1, q2, -, -, -⟩ := cells3h HGA.out
  have HI : Hid (I64w 5) := Lib.hid (by unfold I64w; omega)
  have HSM := Lib.hid (one_small 5)
  clear hba ho1 hb1 hs1 hlb
  go_wp2_with fail
  refine (dTree_any (oneD 5) _ _ _ wa (HOA.out.toR HI.out) HSM.out).mono ?_
  rintro e w2 ⟨cs2, rfl, hn2, hb2⟩
  obtain ⟨ka2, kc2, ba2, bc2, rfl⟩ := hn2.cells
  have hkl : (defT (oneD 5)).keys.length = 2 := by kernel_rfl
  have HAT := Lib.hid one_at
  generalize defT (oneD 5) = tr at *
  rw [hkl] at hn2
  rw [hkl]
  clear q0 q1 q2 hkl
  go_upto_region 3 with fail
  have hbb := (Below.refl w2.heap.size w2).alloc (Nat.le_refl _) (.cells #[.int .u8 (tr.kind : Int), .string tr.text, .slice ka2 2 kc2, .slice ba2 tr.kids.length bc2, .int .i64 tr.line] 34)
  have HGB := Lib.hid (World.alloc_heap_new w2 (.cells #[.int .u8 (tr.kind : Int), .string tr.text, .slice ka2 2 kc2, .slice ba2 tr.kids.length bc2, .int .i64 tr.line] 34))
  have HNB := Lib.hid (hn2.toR.belowW hbb)
  have hb2b := bthen hb2 (Nat.le_refl _) hbb
  have hltA := (Array.getElem?_eq_some_iff.1 HGA.out).1
  have HGAB := Lib.hid ((hb2b.block _ hltA).trans HGA.out)
  have HOB := Lib.hid (HOA.out.below hb2b)
  have HBB := Lib.hid (bthen HBA.out (Nat.le_refl _) hb2b)
  clear hb2b hltA HGA HOA HBA
  generalize w2.alloc (.cells #[.int .u8 (tr.kind : Int), .string tr.text, .slice ka2 2 kc2, .slice ba2 tr.kids.length bc2, .int .i64 tr.line] 34) = wb at *
  generalize w2.heap.size = T2 at *
  obtain ⟨q0, q1, q2, q3, q4⟩ := cells5 HGB.out
  have hbp := (Below.refl wb.heap.size wb).alloc (Nat.le_refl _) (.cells #[.string { data := #[115, 116, 101, 112, 115] }, .string { data := #[48] }, .string { data := #[114, 101, 116, 114, 121] }, .string { data := #[109, 111, 115, 116] }] 9)
  have HBP := Lib.hid hbp
  have HPR : Hid (RdS (wb.alloc (.cells #[.string { data := #[115, 116, 101, 112, 115] }, .string { data := #[48] }, .string { data := #[114, 101, 116, 114, 121] }, .string { data := #[109, 111, 115, 116] }] 9)) (.slice (some ⟨wb.heap.size, 0, none⟩) 4 4) 1 pathL.length (strsV pathL)) := Lib.hid (rds_row 4 1 (World.alloc_heap_new wb _) rfl (by decide))
  clear hn2 hb2 hbb hbp HSA
  go_wp2_with fail
  refine (At_any tr pathL _ _ _ (HNB.out.belowW HBP.out) HPR.out (by decide +kernel)).mono ?_
  rintro e w3 ⟨cs3, b3, rfl, h3, hb3⟩
  rw [HAT.out] at h3
  obtain ⟨rfl, ka3, kc3, ba3, bc3, rfl⟩ := cs_pair h3
  clear q0 q1 q2 q3 q4 h3
  go_upto_region 4 with fail
  have hb3' := bthen HBP.out (Nat.le_refl _) hb3
  have hbc := (Below.refl w3.heap.size w3).alloc (Nat.le_refl _) (.cells #[.int .u8 1, .string { data := #[50] }, .slice ka3 0 kc3, .slice ba3 0 bc3, .int .i64 0] 34)
  have HGC := Lib.hid (World.alloc_heap_new w3 (.cells #[.int .u8 1, .string { data := #[50] }, .slice ka3 0 kc3, .slice ba3 0 bc3, .int .i64 0] 34))
  have hb3c := bthen hb3' (Nat.le_refl _) hbc
  have hltA := (Array.getElem?_eq_some_iff.1 HGAB.out).1
  have hltB := (Array.getElem?_eq_some_iff.1 HGB.out).1
  have HGAC := Lib.hid ((hb3c.block _ hltA).trans HGAB.out)
  have HGBC := Lib.hid ((hb3c.block _ hltB).trans HGB.out)
  have HOC := Lib.hid (HOB.out.below hb3c)
  have HBC := Lib.hid (bthen HBB.out (Nat.le_refl _) hb3c)
  clear hb3' hb3c hltA hltB HGAB HGB HOB HBB HPR HBP hb3 hbc HNB HAT
  generalize w3.alloc (.cells #[.int .u8 1, .string { data := #[50] }, .slice ka3 0 kc3, .slice ba3 0 bc3, .int .i64 0] 34) = wc at *
  generalize w3.heap.size = X3 at *
  go_wp2_with fail
  refine (one_any wc).mono ?_
  rintro e w4 ⟨rfl, ho4, hb4⟩
  have hs4 := hb4.size
  have hlb := (Array.getElem?_eq_some_iff.1 ho4.b2).1
  go_upto_region 5 with fail
  have hbd := (Below.refl w4.heap.size w4).alloc (Nat.le_refl _) (.cells #[.string { data := #[115] }, .string { data := #[] }, .slice (some ⟨wc.heap.size + 2, 0, none⟩) 1 1] 24)
  have HGD := Lib.hid (World.alloc_heap_new w4 (.cells #[.string { data := #[115] }, .string { data := #[] }, .slice (some ⟨wc.heap.size + 2, 0, none⟩) 1 1] 24))
  have hod := ho4.below hbd
  have hb4d := bthen hb4 (Nat.le_refl _) hbd
  have hltA := (Array.getElem?_eq_some_iff.1 HGAC.out).1
  have hltB := (Array.getElem?_eq_some_iff.1 HGBC.out).1
  have hltC := (Array.getElem?_eq_some_iff.1 HGC.out).1
  have HGAD := Lib.hid ((hb4d.block _ hltA).trans HGAC.out)
  have HGBD := Lib.hid ((hb4d.block _ hltB).trans HGBC.out)
  have HGCD := Lib.hid ((hb4d.block _ hltC).trans HGC.out)
  have HOD := Lib.hid (HOC.out.below hb4d)
  have HBD := Lib.hid (bthen HBC.out (Nat.le_refl _) hb4d)
  have hlo : g1 < wc.heap.size ∧ g2 < wc.heap.size := ⟨(Array.getElem?_eq_some_iff.1 HOC.out.b1).1, (Array.getElem?_eq_some_iff.1 HOC.out.b2).1⟩
  have hwc := HBC.out.size
  clear hb4d HGAC HGBC HGC HOC HBC ho4 hb4 hbd
  generalize w4.alloc (.cells #[.string { data := #[115] }, .string { data := #[] }, .slice (some ⟨wc.heap.size + 2, 0, none⟩) 1 1] 24) = wd at *
  have hD5 : wc.heap.size + 2 < w4.heap.size := by omega
  generalize w4.heap.size = D5 at *
  generalize wc.heap.size = C4 at *
  obtain ⟨q0, q1, q2, -, -, -⟩ := cells3h HGD.out
  obtain ⟨p0, p1, p2, p3, p4, p5, p6, p7, p8, p9, p10, p11, p12⟩ := cells13q hod.b2
  obtain ⟨f0, f1, f2, f3, f4, f5, f6, f7, f8, f9, f10, f11, f12⟩ := cells13w hod.b2
  go_upto_region 6 with fail
  have HOBAD := Lib.hid (hod.setLim (by omega) (-1))
  have hO := fun k (hk : k ≠ C4 + 2) => Below.heap_setCell wd ⟨C4 + 2, 7, none⟩ (.int .i64 (-1)) k hk
  have HBL := Lib.hid (HBD.out.setCell (p := ⟨C4 + 2, 7, none⟩) (by show w.heap.size ≤ C4 + 2; omega) (.int .i64 (-1)))
  have HONE := Lib.hid (OneAt.mk ((hO _ (by omega)).trans HOD.out.b1) ((hO _ (by omega)).trans HOD.out.b2))
  have hgA := (hO _ (by omega)).trans HGAD.out
  have hgB := (hO _ (by omega)).trans HGBD.out
  have hgC := (hO _ (by omega)).trans HGCD.out
  have hgD := (hO _ (by omega)).trans HGD.out
  clear hO p0 p1 p2 p3 p4 p5 p6 p7 p8 p9 p10 p11 p12 f0 f1 f2 f3 f4 f5 f6 f7 f8 f9 f10 f11 f12 q0 q1 q2 hod HOD HGAD HGBD HGCD HGD HBD
  generalize wd.setCell ⟨C4 + 2, 7, none⟩ (.int .i64 (-1)) = wl at *
  obtain ⟨a0, a1, a2, -, -, -⟩ := cells3h hgA
  obtain ⟨b0, b1, b2, b3, b4⟩ := cells5 hgB
  obtain ⟨c0, c1, c2, c3, c4⟩ := cells5 hgC
  obtain ⟨d0, d1, d2, -, -, -⟩ := cells3h hgD
  have HB0 : Hid (Below wl.heap.size wl wl.drew) := Lib.hid ((Below.refl _ _).drew)
  have HIM : Hid (I64w (-1)) := Lib.hid (by unfold I64w; omega)
  refine E_region (S := (fun W => W.cell? ⟨D1, 0, none⟩ = some (.string { data := #[115] }) ∧ W.cell? ⟨D1, 1, none⟩ = some (.string { data := #[] }) ∧ W.cell? ⟨D1, 2, none⟩ = some (.slice (some ⟨g2, 0, none⟩) 1 1) ∧ W.cell? ⟨D5, 0, none⟩ = some (.string { data := #[115] }) ∧ W.cell? ⟨D5, 1, none⟩ = some (.string { data := #[] }) ∧ W.cell? ⟨D5, 2, none⟩ = some (.slice (some ⟨C4 + 2, 0, none⟩) 1 1) ∧ W.cell? ⟨X3, 1, none⟩ = some (.string { data := #[50] }) ∧ W.cell? ⟨T2, 2, none⟩ = some (.slice ka2 2 kc2))) 48 (by kernel_rfl) ⟨a0, a1, a2, d0, d1, d2, c1, b2⟩ (fun _ _ _ _ _ h => h) (fun Q' hQ hK' hHeld => ?_)
  refine E_takeP hQ hHeld [46, 43, 41, 39, 35, 32, 29, 27, 24, 18, 15, 10, 6, 4, 1] 0 (v := ?zv1) rfl rfl (by kernel_rfl) (by kernel_rfl) (by kernel_rfl) (by kernel_rfl) (by kernel_rfl) (by rfl) ?zy1 ?zr1
  case zy1 => (intro w hSw; (try dsimp only at hSw); go_simp; (try with_reducible rfl))
  (try simp only [Act.put, List.setIfInBounds_toArray, List.set_cons_zero, List.set_cons_succ])
  refine E_take0 hQ (fun _ => hHeld) 2 (v := ?zv2) rfl rfl (by kernel_rfl) (by kernel_rfl) (by kernel_rfl) (by decide) (by rfl) ?zy2 ?zr2
  case zy2 => (intro w; go_simp; (try with_reducible rfl))
  (try simp only [Act.put, List.setIfInBounds_toArray, List.set_cons_zero, List.set_cons_succ])
  refine E_one 1 (by kernel_rfl) rfl (by rfl) (fun K hK => ?_)
  go_simp
  refine (c_check one_check HI.out HONE.out HB0.out).mono ?_
  rintro e V1 ⟨rfl, hb⟩
  have HD1 := Lib.hid hb
  have HB1 : Hid (Below wl.heap.size wl V1) := Lib.hid (bthen HB0.out (by have := HB0.out.size; exact Nat.le_refl _) hb)
  clear hb
  refine hK.out _ _ (fun _ _ => ⟨cellB HD1.out hHeld.1, cellB HD1.out hHeld.2.1, cellB HD1.out hHeld.2.2.1, cellB HD1.out hHeld.2.2.2.1, cellB HD1.out hHeld.2.2.2.2.1, cellB HD1.out hHeld.2.2.2.2.2.1, cellB HD1.out hHeld.2.2.2.2.2.2.1, cellB HD1.out hHeld.2.2.2.2.2.2.2⟩) (fun hHeld' => ?_)
  replace hHeld := hHeld' (by rfl) (by decide)
  clear hK hHeld'
  (try simp only [Act.put, List.setIfInBounds_toArray, List.set_cons_zero, List.set_cons_succ])
  refine E_take0 hQ (fun _ => hHeld) 3 (v := ?zv3) rfl rfl (by kernel_rfl) (by kernel_rfl) (by kernel_rfl) (by decide) (by rfl) ?zy3 ?zr3
  case zy3 => (intro w; go_simp; (try with_reducible rfl))
  (try simp only [Act.put, List.setIfInBounds_toArray, List.set_cons_zero, List.set_cons_succ])
  refine E_take0 hQ (fun _ => hHeld) 4 (v := ?zv4) rfl rfl (by kernel_rfl) (by kernel_rfl) (by kernel_rfl) (by decide) (by rfl) ?zy4 ?zr4
  case zy4 => (intro w; go_simp; (try with_reducible rfl))
  (try simp only [Act.put, List.setIfInBounds_toArray, List.set_cons_zero, List.set_cons_succ])
  refine E_takeP hQ hHeld [46, 43, 41, 39, 35, 32, 29, 27, 24, 18, 15, 10, 6] 5 (v := ?zv5) rfl rfl (by kernel_rfl) (by kernel_rfl) (by kernel_rfl) (by kernel_rfl) (by kernel_rfl) (by rfl) ?zy5 ?zr5
  case zy5 => (intro w hSw; (try dsimp only at hSw); go_simp; (try with_reducible rfl))
  (try simp only [Act.put, List.setIfInBounds_toArray, List.set_cons_zero, List.set_cons_succ])
  refine E_take0 hQ (fun _ => hHeld) 7 (v := ?zv6) rfl rfl (by kernel_rfl) (by kernel_rfl) (by kernel_rfl) (by decide) (by rfl) ?zy6 ?zr6
  case zy6 => (intro w; go_simp; (try with_reducible rfl))
  (try simp only [Act.put, List.setIfInBounds_toArray, List.set_cons_zero, List.set_cons_succ])
  refine E_one 6 (by kernel_rfl) rfl (by rfl) (fun K hK => ?_)
  go_simp
  refine (c_check bad_check HIM.out HOBAD.out HB1.out).mono ?_
  rintro e V6 ⟨rfl, hb⟩
  have HD6 := Lib.hid hb
  have HB6 : Hid (Below wl.heap.size wl V6) := Lib.hid (bthen HB1.out (by have := HB1.out.size; exact Nat.le_refl _) hb)
  clear hb
  refine hK.out _ _ (fun _ _ => ⟨cellB HD6.out hHeld.1, cellB HD6.out hHeld.2.1, cellB HD6.out hHeld.2.2.1, cellB HD6.out hHeld.2.2.2.1, cellB HD6.out hHeld.2.2.2.2.1, cellB HD6.out hHeld.2.2.2.2.2.1, cellB HD6.out hHeld.2.2.2.2.2.2.1, cellB HD6.out hHeld.2.2.2.2.2.2.2⟩) (fun hHeld' => ?_)
  replace hHeld := hHeld' (by rfl) (by decide)
  clear hK hHeld'
  (try simp only [Act.put, List.setIfInBounds_toArray, List.set_cons_zero, List.set_cons_succ])
  refine E_take0 hQ (fun _ => hHeld) 8 (v := ?zv7) rfl rfl (by kernel_rfl) (by kernel_rfl) (by kernel_rfl) (by decide) (by rfl) ?zy7 ?zr7
  case zy7 => (intro w; go_simp; (try with_reducible rfl))
  (try simp only [Act.put, List.setIfInBounds_toArray, List.set_cons_zero, List.set_cons_succ])
  refine E_take0 hQ (fun _ => hHeld) 9 (v := ?zv8) rfl rfl (by kernel_rfl) (by kernel_rfl) (by kernel_rfl) (by decide) (by rfl) ?zy8 ?zr8
  case zy8 => (intro w; go_simp; (try with_reducible rfl))
  (try simp only [Act.put, List.setIfInBounds_toArray, List.set_cons_zero, List.set_cons_succ])
  refine E_take0 hQ (fun _ => hHeld) 10 (v := ?zv9) rfl rfl (by kernel_rfl) (by kernel_rfl) (by kernel_rfl) (by decide) (by rfl) ?zy9 ?zr9
  case zy9 => (intro w; go_simp; (try with_reducible rfl))
  (try simp only [Act.put, List.setIfInBounds_toArray, List.set_cons_zero, List.set_cons_succ])
  refine E_take0 hQ (fun _ => hHeld) 11 (v := ?zv10) rfl rfl (by kernel_rfl) (by kernel_rfl) (by kernel_rfl) (by decide) (by rfl) ?zy10 ?zr10
  case zy10 => (intro w; go_simp; (try with_reducible rfl))
  (try simp only [Act.put, List.setIfInBounds_toArray, List.set_cons_zero, List.set_cons_succ])
  refine E_takeP hQ hHeld [46, 43, 41, 39, 35, 32, 29, 27, 24, 18, 15, 14, 13] 12 (v := ?zv11) rfl rfl (by kernel_rfl) (by kernel_rfl) (by kernel_rfl) (by kernel_rfl) (by kernel_rfl) (by rfl) ?zy11 ?zr11
  case zy11 => (intro w hSw; (try dsimp only at hSw); go_simp; (try with_reducible rfl))
  (try simp only [Act.put, List.setIfInBounds_toArray, List.set_cons_zero, List.set_cons_succ])
  refine E_take0 hQ (fun _ => hHeld) 13 (v := ?zv12) rfl rfl (by kernel_rfl) (by kernel_rfl) (by kernel_rfl) (by decide) (by rfl) ?zy12 ?zr12
  case zy12 => (intro w; go_simp; (try with_reducible rfl))
  (try simp only [Act.put, List.setIfInBounds_toArray, List.set_cons_zero, List.set_cons_succ])
  refine E_take0 hQ (fun _ => hHeld) 14 (v := ?zv13) rfl rfl (by kernel_rfl) (by kernel_rfl) (by kernel_rfl) (by decide) (by rfl) ?zy13 ?zr13
  case zy13 => (intro w; go_simp; (try with_reducible rfl))
  (try simp only [Act.put, List.setIfInBounds_toArray, List.set_cons_zero, List.set_cons_succ])
  refine E_take0 hQ (fun _ => hHeld) 15 (v := ?zv14) rfl rfl (by kernel_rfl) (by kernel_rfl) (by kernel_rfl) (by decide) (by rfl) ?zy14 ?zr14
  case zy14 => (intro w; go_simp; (try with_reducible rfl))
  (try simp only [Act.put, List.setIfInBounds_toArray, List.set_cons_zero, List.set_cons_succ])
  refine E_take0 hQ (fun _ => hHeld) 16 (v := ?zv15) rfl rfl (by kernel_rfl) (by kernel_rfl) (by kernel_rfl) (by decide) (by rfl) ?zy15 ?zr15
  case zy15 => (intro w; go_simp; (try with_reducible rfl))
  (try simp only [Act.put, List.setIfInBounds_toArray, List.set_cons_zero, List.set_cons_succ])
  refine E_take0 hQ (fun _ => hHeld) 17 (v := ?zv16) rfl rfl (by kernel_rfl) (by kernel_rfl) (by kernel_rfl) (by decide) (by rfl) ?zy16 ?zr16
  case zy16 => (intro w; go_simp; (try with_reducible rfl))
  (try simp only [Act.put, List.setIfInBounds_toArray, List.set_cons_zero, List.set_cons_succ])
  refine E_take0 hQ (fun _ => hHeld) 18 (v := ?zv17) rfl rfl (by kernel_rfl) (by kernel_rfl) (by kernel_rfl) (by decide) (by rfl) ?zy17 ?zr17
  case zy17 => (intro w; go_simp; (try with_reducible rfl))
  (try simp only [Act.put, List.setIfInBounds_toArray, List.set_cons_zero, List.set_cons_succ])
  refine E_take0 hQ (fun _ => hHeld) 19 (v := ?zv18) rfl rfl (by kernel_rfl) (by kernel_rfl) (by kernel_rfl) (by decide) (by rfl) ?zy18 ?zr18
  case zy18 => (intro w; go_simp; (try with_reducible rfl))
  (try simp only [Act.put, List.setIfInBounds_toArray, List.set_cons_zero, List.set_cons_succ])
  refine E_takeP hQ hHeld [46, 43, 41, 39, 35, 32, 29, 27, 24, 23, 22, 21] 20 (v := ?zv19) rfl rfl (by kernel_rfl) (by kernel_rfl) (by kernel_rfl) (by kernel_rfl) (by kernel_rfl) (by rfl) ?zy19 ?zr19
  case zy19 => (intro w hSw; (try dsimp only at hSw); go_simp; (try with_reducible rfl))
  (try simp only [Act.put, List.setIfInBounds_toArray, List.set_cons_zero, List.set_cons_succ])
  refine E_take0 hQ (fun _ => hHeld) 21 (v := ?zv20) rfl rfl (by kernel_rfl) (by kernel_rfl) (by kernel_rfl) (by decide) (by rfl) ?zy20 ?zr20
  case zy20 => (intro w; go_simp; (try with_reducible rfl))
  (try simp only [Act.put, List.setIfInBounds_toArray, List.set_cons_zero, List.set_cons_succ])
  refine E_take0 hQ (fun _ => hHeld) 22 (v := ?zv21) rfl rfl (by kernel_rfl) (by kernel_rfl) (by kernel_rfl) (by decide) (by rfl) ?zy21 ?zr21
  case zy21 => (intro w; go_simp; (try with_reducible rfl))
  (try simp only [Act.put, List.setIfInBounds_toArray, List.set_cons_zero, List.set_cons_succ])
  refine E_take0 hQ (fun _ => hHeld) 23 (v := ?zv22) rfl rfl (by kernel_rfl) (by kernel_rfl) (by kernel_rfl) (by decide) (by rfl) ?zy22 ?zr22
  case zy22 => (intro w; go_simp; (try with_reducible rfl))
  (try simp only [Act.put, List.setIfInBounds_toArray, List.set_cons_zero, List.set_cons_succ])
  refine E_take0 hQ (fun _ => hHeld) 24 (v := ?zv23) rfl rfl (by kernel_rfl) (by kernel_rfl) (by kernel_rfl) (by decide) (by rfl) ?zy23 ?zr23
  case zy23 => (intro w; go_simp; (try with_reducible rfl))
  (try simp only [Act.put, List.setIfInBounds_toArray, List.set_cons_zero, List.set_cons_succ])
  refine E_takeP hQ hHeld [46, 43, 41, 39, 35, 32, 29, 27] 25 (v := ?zv24) rfl rfl (by kernel_rfl) (by kernel_rfl) (by kernel_rfl) (by kernel_rfl) (by kernel_rfl) (by rfl) ?zy24 ?zr24
  case zy24 => (intro w hSw; (try dsimp only at hSw); go_simp; (try with_reducible rfl))
  (try simp only [Act.put, List.setIfInBounds_toArray, List.set_cons_zero, List.set_cons_succ])
  refine E_one 26 (by kernel_rfl) rfl (by rfl) (fun K hK => ?_)
  go_simp
  refine (one_any V6).mono ?_
  rintro e V26 ⟨rfl, ho, hb⟩
  have HD26 := Lib.hid hb
  have HB26 : Hid (Below wl.heap.size wl V26) := Lib.hid (bthen HB6.out (by have := HB6.out.size; exact Nat.le_refl _) hb)
  clear hb
  have HO26 := Lib.hid ho
  clear ho
  refine hK.out _ _ (fun _ _ => ⟨cellB HD26.out hHeld.1, cellB HD26.out hHeld.2.1, cellB HD26.out hHeld.2.2.1, cellB HD26.out hHeld.2.2.2.1, cellB HD26.out hHeld.2.2.2.2.1, cellB HD26.out hHeld.2.2.2.2.2.1, cellB HD26.out hHeld.2.2.2.2.2.2.1, cellB HD26.out hHeld.2.2.2.2.2.2.2⟩) (fun hHeld' => ?_)
  replace hHeld := hHeld' (by rfl) (by decide)
  clear hK hHeld'
  (try simp only [Act.put, List.setIfInBounds_toArray, List.set_cons_zero, List.set_cons_succ])
  refine E_one 27 (by kernel_rfl) rfl (by rfl) (fun K hK => ?_)
  go_simp
  refine (c_same one_same HI.out HI.out (HONE.out.below HB26.out) HO26.out).mono ?_
  rintro e V27 ⟨rfl, hb⟩
  have HD27 := Lib.hid hb
  have HB27 : Hid (Below wl.heap.size wl V27) := Lib.hid (bthen HB26.out (by have := HB26.out.size; exact Nat.le_refl _) hb)
  clear hb
  refine hK.out _ _ (fun _ _ => ⟨cellB HD27.out hHeld.1, cellB HD27.out hHeld.2.1, cellB HD27.out hHeld.2.2.1, cellB HD27.out hHeld.2.2.2.1, cellB HD27.out hHeld.2.2.2.2.1, cellB HD27.out hHeld.2.2.2.2.2.1, cellB HD27.out hHeld.2.2.2.2.2.2.1, cellB HD27.out hHeld.2.2.2.2.2.2.2⟩) (fun hHeld' => ?_)
  replace hHeld := hHeld' (by rfl) (by decide)
  clear hK hHeld'
  (try simp only [Act.put, List.setIfInBounds_toArray, List.set_cons_zero, List.set_cons_succ])
  refine E_take0 hQ (fun _ => hHeld) 28 (v := ?zv25) rfl rfl (by kernel_rfl) (by kernel_rfl) (by kernel_rfl) (by decide) (by rfl) ?zy25 ?zr25
  case zy25 => (intro w; go_simp; (try with_reducible rfl))
  (try simp only [Act.put, List.setIfInBounds_toArray, List.set_cons_zero, List.set_cons_succ])
  refine E_take0 hQ (fun _ => hHeld) 29 (v := ?zv26) rfl rfl (by kernel_rfl) (by kernel_rfl) (by kernel_rfl) (by decide) (by rfl) ?zy26 ?zr26
  case zy26 => (intro w; go_simp; (try with_reducible rfl))
  (try simp only [Act.put, List.setIfInBounds_toArray, List.set_cons_zero, List.set_cons_succ])
  refine E_take hQ hHeld 30 (v := ?zv27) rfl rfl (by kernel_rfl) (by kernel_rfl) (by kernel_rfl) (by kernel_rfl) (by kernel_rfl) (by rfl) ?zy27 ?zr27
  case zy27 => (intro w hSw; (try dsimp only at hSw); go_simp; (try with_reducible rfl))
  (try simp only [Act.put, List.setIfInBounds_toArray, List.set_cons_zero, List.set_cons_succ])
  refine E_take hQ hHeld 31 (v := ?zv28) rfl rfl (by kernel_rfl) (by kernel_rfl) (by kernel_rfl) (by kernel_rfl) (by kernel_rfl) (by rfl) ?zy28 ?zr28
  case zy28 => (intro w hSw; (try dsimp only at hSw); go_simp; (try with_reducible rfl))
  (try simp only [Act.put, List.setIfInBounds_toArray, List.set_cons_zero, List.set_cons_succ])
  refine E_one 32 (by kernel_rfl) rfl (by rfl) (fun K hK => ?_)
  go_simp
  refine (c_same bad_same HI.out HIM.out (HONE.out.below HB27.out) (HOBAD.out.below HB27.out)).mono ?_
  rintro e V32 ⟨rfl, hb⟩
  have HD32 := Lib.hid hb
  have HB32 : Hid (Below wl.heap.size wl V32) := Lib.hid (bthen HB27.out (by have := HB27.out.size; exact Nat.le_refl _) hb)
  clear hb
  refine hK.out _ _ (fun _ _ => ⟨cellB HD32.out hHeld.1, cellB HD32.out hHeld.2.1, cellB HD32.out hHeld.2.2.1, cellB HD32.out hHeld.2.2.2.1, cellB HD32.out hHeld.2.2.2.2.1, cellB HD32.out hHeld.2.2.2.2.2.1, cellB HD32.out hHeld.2.2.2.2.2.2.1, cellB HD32.out hHeld.2.2.2.2.2.2.2⟩) (fun hHeld' => ?_)
  replace hHeld := hHeld' (by rfl) (by decide)
  clear hK hHeld'
  (try simp only [Act.put, List.setIfInBounds_toArray, List.set_cons_zero, List.set_cons_succ])
  refine E_take0 hQ (fun _ => hHeld) 33 (v := ?zv29) rfl rfl (by kernel_rfl) (by kernel_rfl) (by kernel_rfl) (by decide) (by rfl) ?zy29 ?zr29
  case zy29 => (intro w; go_simp; (try with_reducible rfl))
  (try simp only [Act.put, List.setIfInBounds_toArray, List.set_cons_zero, List.set_cons_succ])
  refine E_take0 hQ (fun _ => hHeld) 34 (v := ?zv30) rfl rfl (by kernel_rfl) (by kernel_rfl) (by kernel_rfl) (by decide) (by rfl) ?zy30 ?zr30
  case zy30 => (intro w; go_simp; (try with_reducible rfl))
  (try simp only [Act.put, List.setIfInBounds_toArray, List.set_cons_zero, List.set_cons_succ])
  refine E_take0 hQ (fun _ => hHeld) 35 (v := ?zv31) rfl rfl (by kernel_rfl) (by kernel_rfl) (by kernel_rfl) (by decide) (by rfl) ?zy31 ?zr31
  case zy31 => (intro w; go_simp; (try with_reducible rfl))
  (try simp only [Act.put, List.setIfInBounds_toArray, List.set_cons_zero, List.set_cons_succ])
  refine E_take hQ hHeld 36 (v := ?zv32) rfl rfl (by kernel_rfl) (by kernel_rfl) (by kernel_rfl) (by kernel_rfl) (by kernel_rfl) (by rfl) ?zy32 ?zr32
  case zy32 => (intro w hSw; (try dsimp only at hSw); go_simp; (try with_reducible rfl))
  (try simp only [Act.put, List.setIfInBounds_toArray, List.set_cons_zero, List.set_cons_succ])
  refine E_take hQ hHeld 38 (v := ?zv33) rfl rfl (by kernel_rfl) (by kernel_rfl) (by kernel_rfl) (by kernel_rfl) (by kernel_rfl) (by rfl) ?zy33 ?zr33
  case zy33 => (intro w hSw; (try dsimp only at hSw); go_simp; (try with_reducible rfl))
  (try simp only [Act.put, List.setIfInBounds_toArray, List.set_cons_zero, List.set_cons_succ])
  refine E_one 37 (by kernel_rfl) rfl (by rfl) (fun K hK => ?_)
  go_simp
  refine (c_copy (HONE.out.below HB32.out)).mono ?_
  rintro e V37 ⟨va, vc, rfl, hr, hb⟩
  have HD37 := Lib.hid hb
  have HB37 : Hid (Below wl.heap.size wl V37) := Lib.hid (bthen HB32.out (by have := HB32.out.size; exact Nat.le_refl _) hb)
  clear hb
  have HR37 := Lib.hid hr
  clear hr
  refine hK.out _ _ (fun _ _ => ⟨cellB HD37.out hHeld.1, cellB HD37.out hHeld.2.1, cellB HD37.out hHeld.2.2.1, cellB HD37.out hHeld.2.2.2.1, cellB HD37.out hHeld.2.2.2.2.1, cellB HD37.out hHeld.2.2.2.2.2.1, cellB HD37.out hHeld.2.2.2.2.2.2.1, cellB HD37.out hHeld.2.2.2.2.2.2.2⟩) (fun hHeld' => ?_)
  replace hHeld := hHeld' (by rfl) (by decide)
  clear hK hHeld'
  (try simp only [Act.put, List.setIfInBounds_toArray, List.set_cons_zero, List.set_cons_succ])
  refine E_one 39 (by kernel_rfl) rfl (by rfl) (fun K hK => ?_)
  go_simp
  refine (c_same2 HR37.out (HONE.out.below HB37.out)).mono ?_
  rintro e V39 ⟨rfl, hb⟩
  have HD39 := Lib.hid hb
  have HB39 : Hid (Below wl.heap.size wl V39) := Lib.hid (bthen HB37.out (by have := HB37.out.size; exact Nat.le_refl _) hb)
  clear hb
  refine hK.out _ _ (fun _ _ => ⟨cellB HD39.out hHeld.1, cellB HD39.out hHeld.2.1, cellB HD39.out hHeld.2.2.1, cellB HD39.out hHeld.2.2.2.1, cellB HD39.out hHeld.2.2.2.2.1, cellB HD39.out hHeld.2.2.2.2.2.1, cellB HD39.out hHeld.2.2.2.2.2.2.1, cellB HD39.out hHeld.2.2.2.2.2.2.2⟩) (fun hHeld' => ?_)
  replace hHeld := hHeld' (by rfl) (by decide)
  clear hK hHeld'
  (try simp only [Act.put, List.setIfInBounds_toArray, List.set_cons_zero, List.set_cons_succ])
  refine E_take0 hQ (fun _ => hHeld) 40 (v := ?zv34) rfl rfl (by kernel_rfl) (by kernel_rfl) (by kernel_rfl) (by decide) (by rfl) ?zy34 ?zr34
  case zy34 => (intro w; go_simp; (try with_reducible rfl))
  (try simp only [Act.put, List.setIfInBounds_toArray, List.set_cons_zero, List.set_cons_succ])
  refine E_take0 hQ (fun _ => hHeld) 41 (v := ?zv35) rfl rfl (by kernel_rfl) (by kernel_rfl) (by kernel_rfl) (by decide) (by rfl) ?zy35 ?zr35
  case zy35 => (intro w; go_simp; (try with_reducible rfl))
  (try simp only [Act.put, List.setIfInBounds_toArray, List.set_cons_zero, List.set_cons_succ])
  refine E_take hQ hHeld 42 (v := ?zv36) rfl rfl (by kernel_rfl) (by kernel_rfl) (by kernel_rfl) (by kernel_rfl) (by kernel_rfl) (by rfl) ?zy36 ?zr36
  case zy36 => (intro w hSw; (try dsimp only at hSw); go_simp; (try with_reducible rfl))
  (try simp only [Act.put, List.setIfInBounds_toArray, List.set_cons_zero, List.set_cons_succ])
  refine E_one 43 (by kernel_rfl) rfl (by rfl) (fun K hK => ?_)
  go_simp
  refine (c_index one_idx (HONE.out.below HB39.out)).mono ?_
  rintro e V43 ⟨rfl, hb⟩
  have HD43 := Lib.hid hb
  have HB43 : Hid (Below wl.heap.size wl V43) := Lib.hid (bthen HB39.out (by have := HB39.out.size; exact Nat.le_refl _) hb)
  clear hb
  refine hK.out _ _ (fun _ _ => ⟨cellB HD43.out hHeld.1, cellB HD43.out hHeld.2.1, cellB HD43.out hHeld.2.2.1, cellB HD43.out hHeld.2.2.2.1, cellB HD43.out hHeld.2.2.2.2.1, cellB HD43.out hHeld.2.2.2.2.2.1, cellB HD43.out hHeld.2.2.2.2.2.2.1, cellB HD43.out hHeld.2.2.2.2.2.2.2⟩) (fun hHeld' => ?_)
  replace hHeld := hHeld' (by rfl) (by decide)
  clear hK hHeld'
  (try simp only [Act.put, List.setIfInBounds_toArray, List.set_cons_zero, List.set_cons_succ])
  refine E_take0 hQ (fun _ => hHeld) 44 (v := ?zv37) rfl rfl (by kernel_rfl) (by kernel_rfl) (by kernel_rfl) (by decide) (by rfl) ?zy37 ?zr37
  case zy37 => (intro w; go_simp; (try with_reducible rfl))
  (try simp only [Act.put, List.setIfInBounds_toArray, List.set_cons_zero, List.set_cons_succ])
  refine E_take0 hQ (fun _ => hHeld) 45 (v := ?zv38) rfl rfl (by kernel_rfl) (by kernel_rfl) (by kernel_rfl) (by decide) (by rfl) ?zy38 ?zr38
  case zy38 => (intro w; go_simp; (try with_reducible rfl))
  (try simp only [Act.put, List.setIfInBounds_toArray, List.set_cons_zero, List.set_cons_succ])
  refine E_take0 hQ (fun _ => hHeld) 46 (v := ?zv39) rfl rfl (by kernel_rfl) (by kernel_rfl) (by kernel_rfl) (by decide) (by rfl) ?zy39 ?zr39
  case zy39 => (intro w; go_simp; (try with_reducible rfl))
  (try simp only [Act.put, List.setIfInBounds_toArray, List.set_cons_zero, List.set_cons_succ])
  refine E_take hQ hHeld 47 (v := ?zv40) rfl rfl (by kernel_rfl) (by kernel_rfl) (by kernel_rfl) (by kernel_rfl) (by kernel_rfl) (by rfl) ?zy40 ?zr40
  case zy40 => (intro w hSw; (try dsimp only at hSw); go_simp; (try with_reducible rfl))
  (try simp only [Act.put, List.setIfInBounds_toArray, List.set_cons_zero, List.set_cons_succ])
  refine E_one 48 (by kernel_rfl) rfl (by rfl) (fun K hK => ?_)
  go_simp
  refine (c_index one_idz (HONE.out.below HB43.out)).mono ?_
  rintro e V48 ⟨rfl, hb⟩
  have HD48 := Lib.hid hb
  have HB48 : Hid (Below wl.heap.size wl V48) := Lib.hid (bthen HB43.out (by have := HB43.out.size; exact Nat.le_refl _) hb)
  clear hb
  refine hK.out _ _ (fun _ h => absurd rfl h) (fun _ => ?_)
  clear hK hHeld
  (try simp only [Act.put, List.setIfInBounds_toArray, List.set_cons_zero, List.set_cons_succ])
  refine E_take0 hQ (fun h => absurd h (by decide)) 49 (v := ?zv41) rfl rfl (by kernel_rfl) (by kernel_rfl) (by kernel_rfl) (by decide) (by rfl) ?zy41 ?zr41
  case zy41 => (intro w; go_simp; (try with_reducible rfl))
  (try simp only [Act.put, List.setIfInBounds_toArray, List.set_cons_zero, List.set_cons_succ])
  refine E_take0 hQ (fun h => absurd h (by decide)) 50 (v := ?zv42) rfl rfl (by kernel_rfl) (by kernel_rfl) (by kernel_rfl) (by decide) (by rfl) ?zy42 ?zr42
  case zy42 => (intro w; go_simp; (try with_reducible rfl))
  (try simp only [Act.put, List.setIfInBounds_toArray, List.set_cons_zero, List.set_cons_succ])
  refine E_take0 hQ (fun h => absurd h (by decide)) 51 (v := ?zv43) rfl rfl (by kernel_rfl) (by kernel_rfl) (by kernel_rfl) (by decide) (by rfl) ?zy43 ?zr43
  case zy43 => (intro w; go_simp; (try with_reducible rfl))
  (try simp only [Act.put, List.setIfInBounds_toArray, List.set_cons_zero, List.set_cons_succ])
  refine E_take0 hQ (fun h => absurd h (by decide)) 52 (v := ?zv44) rfl rfl (by kernel_rfl) (by kernel_rfl) (by kernel_rfl) (by decide) (by rfl) ?zy44 ?zr44
  case zy44 => (intro w; go_simp; (try with_reducible rfl))
  (try simp only [Act.put, List.setIfInBounds_toArray, List.set_cons_zero, List.set_cons_succ])
  refine E_take0 hQ (fun h => absurd h (by decide)) 53 (v := ?zv45) rfl rfl (by kernel_rfl) (by kernel_rfl) (by kernel_rfl) (by decide) (by rfl) ?zy45 ?zr45
  case zy45 => (intro w; go_simp; (try with_reducible rfl))
  (try simp only [Act.put, List.setIfInBounds_toArray, List.set_cons_zero])
  refine E_done (by kernel_rfl) ?_ _
  refine hK'.out _ _ ?_

  go_wp2
  go_ret
  exact ⟨rfl, bthen HBL.out (Nat.le_refl _) HB48.out⟩
end Go.Proofs.Ytlakmfhpinljjaa
