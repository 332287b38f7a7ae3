/-
  graph.Reduce: contract.
-/
import Derived.Test.YtlpcagkknfajeaaGs
import Derived.Laws.MakeOwn
namespace Go.Proofs.Ytlpcagkknfajeaa
open Go.RowKit
attribute [local go_sem] Oper.semAt_some wide_fn wide_depth wide_fn' wide_depth'

def nilS (n : Nat) : List Value := List.replicate n (.slice none 0 0)
theorem madeNil (n : Nat) : madeCells #[Value.slice none 0 0] n = (nilS n).toArray := by
  apply Array.ext
  · simp [madeCells, nilS]
  · intro i h1 h2
    simp [madeCells, nilS, Nat.mod_one]
theorem make_rows (n : Nat) (w : World) (h : n ≤ 1073741824) : (Instr.makeSlice 41 (.int .i64 n) (.int .i64 n)).run Try.prog w = .ok (.slice (some ⟨w.heap.size, 0, none⟩) n n) (w.alloc (.cells (nilS n).toArray 46)) := by
  obtain ⟨i0, hi, hz0, hz1, hz2⟩ := info_parts Try.info_rowsg
  have := run_make (P := Try.prog) w 41 46 i0 (.slice none 0 0) Try.underlying41 hi hz0 .i64 .i64 n n (by omega) (by omega) (by rw [hz2]; omega) (by omega)
  rw [this, hz1]
  simp only [Int.toNat_natCast, Nat.mul_one]
  rw [show (Value.slice none 0 0).cells = #[.slice none 0 0] from rfl, madeNil]
theorem row_cell {W : World} {g i : Nat} {cs : List Value} {c : Value} {t : TypeId} (h : W.heap[g]? = some (.cells cs.toArray t (0, 0))) (hi : cs[i]? = some c) : W.cell? ⟨g, i, none⟩ = some c ∧ W.frozen? ⟨g, i, none⟩ = false := by
  constructor
  · simp only [World.cell?, h, Option.bind_some]; simpa using hi
  · simp [World.frozen?, h]
theorem row_set {W : World} {g i : Nat} {cs : List Value} {t : TypeId} (c : Value) (h : W.heap[g]? = some (.cells cs.toArray t (0, 0))) : (W.setCell ⟨g, i, none⟩ c).heap[g]? = some (.cells (cs.set i c).toArray t (0, 0)) := by
  have := setCell_heap i c h
  simpa using this
/-- All blocks below B but G lie as they lay. -/
def Stay (G B : Nat) (w w' : World) : Prop := ∀ k, k < B → k ≠ G → w'.heap[k]? = w.heap[k]?
theorem Stay.refl (G B : Nat) (w : World) : Stay G B w w := fun _ _ _ => rfl
theorem Stay.below {G B : Nat} {w a b : World} (h : Stay G B w a) (hb : Below a.heap.size a b) (hB : B ≤ a.heap.size) : Stay G B w b := fun k hk hg => (hb.block k (by omega)).trans (h k hk hg)
theorem Stay.set {G B i : Nat} {w a : World} {x : Value} (h : Stay G B w a) : Stay G B w (a.setCell ⟨G, i, none⟩ x) := fun k hk hg => (Below.heap_setCell _ _ _ k hg).trans (h k hk hg)
theorem Stay.push {G B : Nat} {w a b : World} {tmp : Obj} {row : Option Nat} (h : Stay G B w a) (hg : (a.alloc tmp).grownBy b row) (hr : ∀ k, row = some k → B ≤ k) (hB : B ≤ a.heap.size) : Stay G B w b := fun k hk hne => by
  rw [hg.block k (by simp; omega) (fun e => by have := hr k e.symm; omega)]
  exact (Below.heap_alloc _ _ _ (by omega)).trans (h k hk hne)
theorem Stay.owns {G B : Nat} {w a : World} (h : Stay G B w a) {cs : Array Value} (hG : w.heap[G]? = some (.cells cs 46 (0, 0))) {base : Nat} {c : Value} {r : List Int} (hB : B = w.heap.size) (ho : w.ownsRow base 3 1 c r.length (ints .i64 r)) : a.ownsRow base 3 1 c r.length (ints .i64 r) := by
  refine ⟨ho.1, ?_⟩
  rcases ho.2 with h1 | ⟨g, cap, cur, rfl, hbg, hgg, rest⟩
  · exact .inl h1
  · have hne : g ≠ G := fun e => by
      subst e
      rw [hG] at hgg
      injection hgg with e1
      injection e1 with _ e2
      exact absurd e2 (by decide)
    exact .inr ⟨g, cap, cur, rfl, hbg, (h g (by rw [hB]; exact (Array.getElem?_eq_some_iff.1 hgg).1) hne).trans hgg, rest⟩

def partL (rows : List (List Int)) (own : List Int) (m : Nat) : List Int := (own.take m).filter fun j => !folB rows own j
theorem partL_yes {rows : List (List Int)} {own : List Int} {m : Nat} (h : m < own.length) (hf : folB rows own own[m] = false) : partL rows own (m + 1) = partL rows own m ++ [own[m]] := by
  unfold partL; rw [take_snocG own m h, List.filter_append]; simp [hf]
theorem partL_no {rows : List (List Int)} {own : List Int} {m : Nat} (h : m < own.length) (hf : folB rows own own[m] = true) : partL rows own (m + 1) = partL rows own m := by
  unfold partL; rw [take_snocG own m h, List.filter_append]; simp [hf]
theorem partL_len (rows : List (List Int)) (own : List Int) (m : Nat) : (partL rows own m).length ≤ m := by
  unfold partL; exact Nat.le_trans (List.length_filter_le _ _) (by simp; omega)
theorem partL_all {rows : List (List Int)} {i : Nat} : partL rows (ownL rows i) (ownL rows i).length = redR rows i := by unfold partL redR; rw [List.take_length]
def folP (rows : List (List Int)) (own : List Int) (j : Int) (q : Nat) : Bool := (own.take q).any fun k => decide (k ≠ j) && hasB (befL rows k) j
theorem folP_succ {rows : List (List Int)} {own : List Int} {j : Int} {q : Nat} (h : q < own.length) : folP rows own j (q + 1) = (folP rows own j q || (decide (own[q] ≠ j) && hasB (befL rows own[q]) j)) := by
  unfold folP; rw [take_snocG own q h, List.any_append]; simp
theorem folP_all {rows : List (List Int)} {own : List Int} {j : Int} : folP rows own j own.length = folB rows own j := by unfold folP folB; rw [List.take_length]
theorem folB_of {rows : List (List Int)} {own : List Int} {j : Int} {q : Nat} (h : q < own.length) (hne : own[q] ≠ j) (hh : hasB (befL rows own[q]) j = true) : folB rows own j = true := by
  unfold folB; rw [List.any_eq_true]
  exact ⟨own[q], List.getElem_mem h, by rw [hh]; simpa using hne⟩

set_option maxRecDepth 100000 in
set_option maxHeartbeats 2000000 in
theorem Reduce_any (rows : List (List Int)) (v : Value) (w : World) (hr : Rows2 w v rows) (hlen : rows.length ≤ 1073741824) (hrl : ∀ i (hi : i < rows.length), (rows[i]).length ≤ 1073741824) :
    Calls Try.prog 19 #[v] w fun e w' => ∃ v', e = .returned v' ∧ Rows2 w' v' (redL rows) ∧ Below w.heap.size w w' := by
  obtain ⟨i0, hi, hz0, hz1, hz2⟩ := info_parts Try.info_i64g
  have HR := Lib.hid hr
  have HRL := Lib.hid hrl
  obtain ⟨a, cap, rfl⟩ := hr.form
  clear hr hrl
  have hmk : ∀ w : World, (Instr.makeSlice 41 (.int .i64 rows.length) (.int .i64 rows.length)).run Try.prog w = .ok (.slice (some ⟨w.heap.size, 0, none⟩) rows.length rows.length) (w.alloc (.cells (nilS rows.length).toArray 46)) := fun w => make_rows rows.length w hlen
  refine (callsIn_wide (n := 0)).1 ?_
  refine callsIn_of_wp Try.func19 rfl trivial ?_ rfl
  simp only [Try.ntmps19, List.size_toArray, List.length_cons, List.length_nil, Nat.reduceAdd, Nat.reduceSub, Array.replicate_succ, Array.replicate_zero, List.push_toArray, List.append_toArray, List.nil_append, List.cons_append]
  gi_wp2
  have c0 : Hid ((w.alloc (.cells (nilS rows.length).toArray 46)).heap[w.heap.size]? = some (.cells (nilS rows.length).toArray 46 (0, 0))) := Lib.hid (World.alloc_heap_new w _)
  have hbl0 : Below w.heap.size w (w.alloc (.cells (nilS rows.length).toArray 46)) := (Below.refl _ w).alloc (Nat.le_refl _) _
  generalize w.alloc (.cells (nilS rows.length).toArray 46) = w1 at *
  gi_loopg [17] (rows.length + 1) (fun gk r wr => ∃ (k : Nat) (bs : List Value), k + gk = rows.length + 1 ∧ k ≤ rows.length ∧ r = .int .i64 k ∧ bs.length = rows.length ∧ Hid (wr.heap[w.heap.size]? = some (.cells bs.toArray 46 (0, 0))) ∧ Hid (∀ j : Nat, j < k → ∃ c : Value, bs[j]? = some c ∧ wr.ownsRow (w.heap.size + 1) 3 1 c (befL rows j).length (ints .i64 (befL rows j))) ∧ Below w.heap.size w wr)
  case atStart => exact ⟨0, nilS rows.length, by omega, by omega, rfl, by simp [nilS], c0, Lib.hid (fun j h => by omega), hbl0⟩
  case round =>
    obtain ⟨k, bs, hkg, hk, rfl, hbs, HB, HO, hb⟩ := hrel
    obtain rfl : gk = rows.length + 1 - k := by omega
    clear hkg c0
    by_cases hkn : k < rows.length
    · have hkn' : (k : Int) < rows.length := by omega
      have hkb : k < bs.length := by omega
      have HBF := Lib.hid (Before_any rows k _ wr (HR.out.below hb) (by omega))
      have hn0 : w.heap.size < wr.heap.size := (Array.getElem?_eq_some_iff.1 HB.out).1
      gi_wp2_with (gi_at_call 22; refine (callsIn_wide.2 HBF.out).mono ?_; rintro e w3 ⟨v3, rfl, o3, b3⟩; obtain ⟨va, vc, rfl⟩ := (RdS.of_owns o3).form; have HB3 : Hid (w3.heap[w.heap.size]? = some (.cells bs.toArray 46 (0, 0))) := Lib.hid (by rw [b3.block _ hn0]; exact HB.out); obtain ⟨bc, bf⟩ := row_cell HB3.out (List.getElem?_eq_getElem hkb))
      gi_roundg (rows.length + 1 - (k + 1))
      case measure => omega
      case rel =>
        refine ⟨k + 1, bs.set k (.slice va (befL rows k).length vc), by omega, by omega, by go_num, by simpa using hbs, Lib.hid (row_set _ HB3.out), Lib.hid (fun j hj => ?_), (bthen hb (Nat.le_refl _) b3).setCell (p := ⟨w.heap.size, k, none⟩) (Nat.le_refl _) _⟩
        by_cases hjk : j = k
        · subst hjk
          exact ⟨_, by rw [List.getElem?_set_self hkb], own_set _ (ownsRow_mono o3 (by omega)) (Nat.lt_succ_self _)⟩
        · obtain ⟨c, hc, ho⟩ := HO.out j (by omega)
          exact ⟨c, by rw [List.getElem?_set_ne (fun e => hjk e.symm)]; exact hc, own_set _ (ownsB ho b3) (Nat.lt_succ_self _)⟩
    · have hkl : k = rows.length := by omega
      subst hkl
      rename World => wX
      have HBX := HB
      have HOX := HO
      have hbX := hb
      clear HB HO hb
      gi_wp2
      clear hmk
      have c0 : Hid ((wX.alloc (.cells (nilS rows.length).toArray 46)).heap[wX.heap.size]? = some (.cells (nilS rows.length).toArray 46 (0, 0))) := Lib.hid (World.alloc_heap_new wX _)
      have hbl0 : Below wX.heap.size wX (wX.alloc (.cells (nilS rows.length).toArray 46)) := (Below.refl _ wX).alloc (Nat.le_refl _) _
      generalize wX.alloc (.cells (nilS rows.length).toArray 46) = wY at *
      have HWX : Hid (w.heap.size < wX.heap.size) := Lib.hid (Array.getElem?_eq_some_iff.1 HBX.out).1
      have HRX := Lib.hid (HR.out.below hbX)
      have HBXW := Lib.hid hbX
      have HBC : Hid (∀ (W : World), Below wX.heap.size wX W → ∀ y : Nat, y < rows.length → ∃ ra rc, W.cell? ⟨w.heap.size, y, none⟩ = some (.slice ra (befL rows y).length rc) ∧ RdS W (.slice ra (befL rows y).length rc) 1 (befL rows y).length (ints .i64 (befL rows y))) := Lib.hid (fun W hW y hy => by
        obtain ⟨c, hc, ho⟩ := HOX.out y hy
        obtain ⟨ra, rc, rfl⟩ := (RdS.of_owns ho).form
        exact ⟨ra, rc, cellB hW (row_cell HBX.out hc).1, (RdS.of_owns ho).below hW⟩)
      clear HBX HOX hbX HR hbs
      gi_loopg [32] (rows.length + 1) (fun gk r wr => ∃ (i : Nat) (os : List Value), i + gk = rows.length + 1 ∧ i ≤ rows.length ∧ r = .int .i64 i ∧ os.length = rows.length ∧ Hid (wr.heap[wX.heap.size]? = some (.cells os.toArray 46 (0, 0))) ∧ Hid (∀ j : Nat, j < i → ∃ c : Value, os[j]? = some c ∧ wr.ownsRow (wX.heap.size + 1) 3 1 c (redR rows j).length (ints .i64 (redR rows j))) ∧ Hid (∀ j : Nat, i ≤ j → j < rows.length → os[j]? = some (.slice none 0 0)) ∧ Below wX.heap.size wX wr)
      case atStart => exact ⟨0, nilS rows.length, by omega, by omega, rfl, by simp [nilS], c0, Lib.hid (fun j h => by omega), Lib.hid (fun j _ hj => by simp [nilS, hj]), hbl0⟩
      case round =>
        obtain ⟨i, os, hig, hin, rfl, hos, HB, HO, HN, hb⟩ := hrel
        obtain rfl : gk = rows.length + 1 - i := by omega
        clear hig c0 hbl0
        by_cases hir : i < rows.length
        · have hir' : (i : Int) < rows.length := by omega
          have hio : i < os.length := by omega
          have HON := Lib.hid (once_any rows i _ wr (HRX.out.below hb) hir (HRL.out i hir))
          have hn0 : wX.heap.size < wr.heap.size := (Array.getElem?_eq_some_iff.1 HB.out).1
          have HOWN : Hid (∀ z ∈ ownL rows i, ∃ y : Nat, z = y ∧ y < rows.length) := Lib.hid (fun z hz => by obtain ⟨y, rfl, he⟩ := (mem_ownL hir).1 hz; exact ⟨y, rfl, he.2.1⟩)
          have HRED : Hid (partL rows (ownL rows i) (ownL rows i).length = redR rows i) := Lib.hid partL_all
          have hol : (ownL rows i).length ≤ 1073741824 := by
            have h1 := HRL.out i hir
            have h2 : (ownL rows i).length ≤ (rows[i]?.getD []).length := by unfold ownL depL; exact Nat.le_trans (onceF_len _) (List.length_filter_le _ _)
            rw [List.getElem?_eq_getElem hir, Option.getD_some] at h2
            omega
          generalize ownL rows i = own at *
          gi_wp2
          refine wpIn_scope ?_
          gi_wp2_with (gi_at_call 38; refine (callsIn_wide.2 HON.out).mono ?_; rintro e w4 ⟨v4, rfl, o4, b4⟩; obtain ⟨va, vc, rfl⟩ := (RdS.of_owns o4).form; have HB4 : Hid (w4.heap[wX.heap.size]? = some (.cells os.toArray 46 (0, 0))) := Lib.hid (by rw [b4.block _ hn0]; exact HB.out))
          refine wpIn_label ?_
          have HO4 : Hid (∀ j : Nat, j < i → ∃ c : Value, os[j]? = some c ∧ w4.ownsRow (wX.heap.size + 1) 3 1 c (redR rows j).length (ints .i64 (redR rows j))) := Lib.hid (fun j hj => by obtain ⟨c, hc, ho⟩ := HO.out j hj; exact ⟨c, hc, ownsB ho b4⟩)
          have hb4 := bthen hb (Nat.le_refl _) b4
          have hcc : own.length ≤ vc ∧ vc ≤ 9223372036854775807 := by
            obtain ⟨_, a', c', he, h1, h2, _⟩ := RdS.of_owns o4
            injection he with _ _ e3; subst e3; unfold maxLen at h2; exact ⟨h1, h2⟩
          obtain ⟨hv1, hv2⟩ := hcc
          have O4 := Lib.hid o4
          have hn4 : wX.heap.size < w4.heap.size := (Array.getElem?_eq_some_iff.1 HB4.out).1
          have hset0 : os.set i (.slice none 0 0) = os := by
            have h := HN.out i (Nat.le_refl _) hir
            apply List.ext_getElem?
            intro j
            rw [List.getElem?_set]
            by_cases hij : i = j
            · subst hij; rw [if_pos rfl, if_pos hio, h]
            · rw [if_neg hij]
          have HS0 := Lib.hid hset0
          clear o4 b4 hb HB HO HON hset0
          gi_wp2
          gi_loopg [40] (own.length + 1) (fun gk r wr => ∃ (m : Nat) (cI : Value), m + gk = own.length + 1 ∧ m ≤ own.length ∧ r = .int .i64 m ∧ Hid (wr.heap[wX.heap.size]? = some (.cells (os.set i cI).toArray 46 (0, 0))) ∧ wr.ownsRow w4.heap.size 3 1 cI (partL rows own m).length (ints .i64 (partL rows own m)) ∧ Hid (Stay wX.heap.size w4.heap.size w4 wr) ∧ w4.heap.size ≤ wr.heap.size ∧ Below wX.heap.size wX wr)
          case atStart => exact ⟨0, .slice none 0 0, by omega, by omega, rfl, Lib.hid (by rw [HS0.out]; exact HB4.out), by simpa [partL, ints] using World.ownsRow_nil w4 w4.heap.size 3 1, Lib.hid (Stay.refl _ _ _), Nat.le_refl _, hb4⟩
          case round =>
            obtain ⟨m, cI, hmg, hm, rfl, HB5, hcI, HST, hsz, hb5⟩ := hrel
            obtain rfl : gk = own.length + 1 - m := by omega
            clear hmg
            rename World => wo
            have HO5 := Lib.hid (HST.out.owns HB4.out rfl O4.out)
            by_cases hml : m < own.length
            · have hml' : (m : Int) < own.length := by omega
              obtain ⟨lg, loff, hq, r1, r2, lcell⟩ := ints_at (RdS.of_owns HO5.out) hml
              subst hq
              obtain ⟨x, hx, hxn⟩ := HOWN.out _ (List.getElem_mem hml)
              have HYES : Hid (folB rows own (x : Int) = false → partL rows own (m + 1) = partL rows own m ++ [(x : Int)]) := Lib.hid (fun h => by rw [← hx] at h ⊢; exact partL_yes hml h)
              have HNO : Hid (folB rows own (x : Int) = true → partL rows own (m + 1) = partL rows own m) := Lib.hid (fun h => by rw [← hx] at h; exact partL_no hml h)
              rw [hx] at lcell
              have hpl := partL_len rows own m
              clear hx
              have HCE : Hid (wo.cell? ⟨wX.heap.size, i, none⟩ = some cI ∧ wo.frozen? ⟨wX.heap.size, i, none⟩ = false) := Lib.hid (row_cell HB5.out (by rw [List.getElem?_set_self hio]))
              obtain ⟨ca, cc, rfl⟩ := (RdS.of_owns hcI).form
              have HLO := Lib.hid (RdS.of_owns HO5.out)
              gi_wp2
              gi_loopg [46] (own.length + 1) (fun gk r wr => ∃ q : Nat, q + gk = own.length + 1 ∧ q ≤ own.length ∧ r = .int .i64 q ∧ Hid (folP rows own (x : Int) q = false) ∧ wo = wr)
              case atStart => exact ⟨0, by omega, by omega, rfl, Lib.hid (by simp [folP]), rfl⟩
              case round =>
                obtain ⟨q, hqg, hq, rfl, HFP, rfl⟩ := hrel
                obtain rfl : gk = own.length + 1 - q := by omega
                clear hqg
                by_cases hql : q < own.length
                · have hql' : (q : Int) < own.length := by omega
                  obtain ⟨lg', loff', hq', _, _, qcell⟩ := ints_at HLO.out hql
                  obtain ⟨rfl, rfl⟩ : lg = lg' ∧ loff = loff' := by
                    injection hq' with hq'; injection hq' with h1 h2; exact ⟨h1, h2⟩
                  obtain ⟨y, hy, hyn⟩ := HOWN.out _ (List.getElem_mem hql)
                  have HFS : Hid (folP rows own (x : Int) (q + 1) = (decide ((y : Int) ≠ x) && hasB (befL rows y) x)) := Lib.hid (by rw [folP_succ hql, HFP.out, hy]; simp)
                  have HFB : Hid ((y : Int) ≠ x → hasB (befL rows y) x = true → folB rows own x = true) := Lib.hid (fun h1 h2 => folB_of hql (by rw [hy]; exact h1) (by rw [hy]; exact h2))
                  rw [hy] at qcell
                  clear hy hq'
                  have hyn' : (y : Int) < rows.length := by omega
                  by_cases hyx : y = x
                  · subst hyx
                    have hd : ((y : Int) != (y : Int)) = false := by simp
                    have HE : Hid (folP rows own (y : Int) (q + 1) = false) := Lib.hid (by rw [HFS.out]; simp)
                    gi_wp2
                    gi_roundg (own.length + 1 - (q + 1))
                    case measure => omega
                    case rel => exact ⟨q + 1, by omega, by omega, by go_num, HE, rfl⟩
                  · have hne : (y : Int) ≠ (x : Int) := by omega
                    have hd : ((y : Int) != (x : Int)) = true := by simpa using hne
                    obtain ⟨ra, rc, bcell, brow⟩ := HBC.out wo hb5 y hyn
                    have hbl : (befL rows y).length ≤ 1073741824 := by
                      rw [befL_in hyn]; exact Nat.le_trans (selL_len _ _) hlen
                    have HC := Lib.hid (Contains_any (befL rows y) x _ wo brow)
                    have HDC : Hid (decide ((x : Int) ∈ befL rows y) = hasB (befL rows y) x) := Lib.hid (by unfold hasB; rw [Bool.eq_iff_iff]; simp)
                    rw [HDC.out] at HC
                    have HFB2 := Lib.hid (HFB.out hne)
                    have HFS2 : Hid (folP rows own (x : Int) (q + 1) = hasB (befL rows y) x) := Lib.hid (by rw [HFS.out]; simp [hne])
                    clear HFS HFB brow HDC
                    generalize hasB (befL rows y) x = hh at *
                    cases hh with
                    | true =>
                      have HE := Lib.hid (HNO.out (HFB2.out rfl))
                      gi_wp2_with (gi_at_call 39; refine (callsIn_wide.2 HC.out).mono ?_; rintro e w7 ⟨rfl, rfl⟩)
                      gi_roundg (own.length + 1 - (m + 1))
                      case measure => omega
                      case rel => exact ⟨m + 1, _, by omega, by omega, by go_num, HB5, by rw [HE.out]; exact hcI, HST, hsz, hb5⟩
                    | false =>
                      gi_wp2_with (gi_at_call 39; refine (callsIn_wide.2 HC.out).mono ?_; rintro e w7 ⟨rfl, rfl⟩)
                      gi_roundg (own.length + 1 - (q + 1))
                      case measure => omega
                      case rel => exact ⟨q + 1, by omega, by omega, by go_num, HFS2, rfl⟩
                · have hqe : q = own.length := by omega
                  subst hqe
                  have HE := Lib.hid (HYES.out (by rw [← folP_all]; exact HFP.out))
                  obtain ⟨qc, qf⟩ := HCE.out
                  have hgo : wX.heap.size < wo.heap.size := by omega
                  gi_wp2_with (gi_at_builtin; go_must (refine wpListIn_push rfl _ _ 46 rfl w4.heap.size 3 i0 (.int .i64 0) 1 8 Try.underlying46 hi hz0 hz1 hz2 rfl (by decide) _ _ _ rfl (hcI.alloc _) ⟨wo.heap.size, 0, none⟩ 1 1 [_] rfl rfl (cell_one_new _ _ _) (by simp [Value.oneCell']) (by unfold maxLen; omega) (by omega) (by simp; omega) ?_; intro v' w5 hown' hgrow hfr; obtain ⟨g', cap', rfl⟩ := ownsRow_succ hown'; have HB6 : Hid (w5.heap[wX.heap.size]? = some (.cells (os.set i (.slice ca (partL rows own m).length cc)).toArray 46 (0, 0))) := Lib.hid (kept_push HB5.out hgrow (fun e => by have := (hcI.lt _ e).1; omega)); obtain ⟨pc, pf⟩ := row_cell HB6.out (by rw [List.getElem?_set_self hio])))
                  have hgrow : (wo.alloc _).grownBy w5 (Value.slice ca (partL rows own m).length cc).ownBlock := hgrow
                  have hbp := below_push hb5 (by omega) hcI (by omega) hgrow
                  have hstp := HST.out.push hgrow (fun k e => (hcI.lt k e).1) hsz
                  have hsz5 : wo.heap.size ≤ w5.heap.size := by have := hgrow.size; simp at this; omega
                  gi_roundg (own.length + 1 - (m + 1))
                  case measure => omega
                  case rel => exact ⟨m + 1, _, by omega, by omega, by go_num, Lib.hid (by have := row_set (.slice (some ⟨g', 0, none⟩) ((partL rows own m).length + 1) cap') (i := i) HB6.out; rwa [List.set_set] at this), by rw [HE.out]; simpa [ints] using own_set (i := i) _ hown' hn4, Lib.hid hstp.set, by simp; omega, hbp.setCell (p := ⟨wX.heap.size, i, none⟩) (Nat.le_refl _) _⟩
            · have hme : m = own.length := by omega
              subst hme
              gi_wp2
              rw [Exit.noGoto_normal]
              gi_wp2
              gi_roundg (rows.length + 1 - (i + 1))
              case measure => omega
              case rel =>
                rw [HRED.out] at hcI
                obtain ⟨ca, cc, rfl⟩ := (RdS.of_owns hcI).form
                refine ⟨i + 1, os.set i (.slice ca (redR rows i).length cc), by omega, by omega, by go_num, by simpa using hos, HB5, Lib.hid (fun j hj => ?_), Lib.hid (fun j h1 h2 => by rw [List.getElem?_set_ne (by omega)]; exact HN.out j (by omega) h2), hb5⟩
                by_cases hji : j = i
                · subst hji
                  exact ⟨_, by rw [List.getElem?_set_self hio], ownsRow_mono hcI (by omega)⟩
                · obtain ⟨c, hc, ho⟩ := HO4.out j (by omega)
                  exact ⟨c, by rw [List.getElem?_set_ne (fun e => hji e.symm)]; exact hc, HST.out.owns HB4.out rfl ho⟩
        · have hil : i = rows.length := by omega
          subst hil
          gi_wp2
          refine bodyPost_ret (results_tmp rfl _ _ _) rfl ?_
          refine ⟨.slice (some ⟨wX.heap.size, 0, none⟩) rows.length rows.length, by simp, ?_, HBXW.out.trans (hb.mono (by have := HWX.out; omega))⟩
          refine ⟨os, ⟨by rw [redL_len]; omega, _, _, by rw [redL_len], by rw [redL_len]; exact Nat.le_refl _, by unfold maxLen; omega, .inr ⟨_, 0, rfl, fun j c hj => ?_⟩⟩, by rw [redL_len]; exact hos, fun j r hj => ?_⟩
          · rw [Nat.zero_add]; exact (row_cell HB.out hj).1
          · unfold redL at hj
            rw [List.getElem?_map] at hj
            obtain ⟨j', hj', rfl⟩ := Option.map_eq_some_iff.1 hj
            have hjl : j < rows.length := by
              rcases Nat.lt_or_ge j rows.length with h | h
              · exact h
              · rw [List.getElem?_eq_none (by simpa using h)] at hj'; cases hj'
            rw [List.getElem?_range hjl] at hj'
            injection hj' with hj'
            subst hj'
            obtain ⟨c, hc, ho⟩ := HO.out j hjl
            exact ⟨c, hc, RdS.of_owns ho⟩
end Go.Proofs.Ytlpcagkknfajeaa
