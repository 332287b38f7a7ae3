/-
  scalar.Cut: contract.
-/
import Derived.Sort.LoopGhostIn
import Derived.Test.YtdhgcgejdoedbaaGreatDoorBw4
import Derived.Test.YtdhgcgejdoedbaaGreatDoorBw6
import Derived.Test.YtdhgcgejdoedbaaGreatDoorBw26
import Derived.Test.YtdhgcgejdoedbaaGreatDoorBw27
namespace Go.Proofs.YtdhgcgejdoedbaaGreatDoor
open Go Go.RowKit Go.WideShapes
attribute [local go_sem] Oper.semAt_some wide_fn wide_depth wide_fn' wide_depth'

def quoE : Bool → Nat → List Nat → Int × Int
  | _, _, [] => (0, 3)
  | ta, i, c :: l => if ta then quoE false (i + 1) l else if c = 92 then quoE true (i + 1) l else if c = 34 then ((i : Int) + 1, 0) else quoE false (i + 1) l
def cutE (l : List Nat) : Int × Int := if l.head? = some 34 then quoE false 1 (l.drop 1) else if plainK l true = 0 then (0, 3) else (((plainK l true : Nat) : Int), 0)

theorem hasPre34 (s : ByteArray) : Lib.hasPrefix s.data.toList ({ data := #[34] } : ByteArray).data.toList = decide ((bsN s).head? = some 34) := by
  unfold Lib.hasPrefix bsN
  cases h : s.data.toList with
  | nil => rfl
  | cons c l =>
    show (([34] : List UInt8).isPrefixOf (c :: l)) = _
    simp only [List.isPrefixOf, Bool.and_true, List.map_cons, List.head?_cons, Option.some.injEq]
    rw [Bool.eq_iff_iff]
    simp only [beq_iff_eq, decide_eq_true_eq]
    constructor
    · rintro rfl; rfl
    · intro h; exact (UInt8.toNat_inj.1 (by simpa using h)).symm

set_option maxRecDepth 100000 in
set_option maxHeartbeats 4000000 in
theorem scCut_any (s : ByteArray) (w : World) (hs : s.size ≤ 9223372036854775806) :
    Calls Tryz.prog 95 #[.string s] w fun e w' => e = .returned (.tuple #[.int .i64 (cutE (bsN s)).1, .int .i64 (cutE (bsN s)).2]) ∧ w' = w := by
  have HH := Lib.hid (hasPre34 s)
  have hlen := bsN_len s
  have HAT := Lib.hid (fun k (h : k < s.size) => bsN_at (s := s) h)
  have hle := plainK_le (bsN s) true
  have HE : Hid (cutE (bsN s) = if (bsN s).head? = some 34 then quoE false 1 ((bsN s).drop 1) else if plainK (bsN s) true = 0 then (0, 3) else (((plainK (bsN s) true : Nat) : Int), 0)) := Lib.hid rfl
  generalize hq : decide ((bsN s).head? = some 34) = q at *
  refine (callsIn_wide (n := 0)).1 ?_
  refine callsIn_of_wp Tryz.func95 rfl trivial ?_ rfl
  simp only [Tryz.ntmps95, List.size_toArray, List.length_cons, List.length_nil, Nat.reduceAdd, Nat.reduceSub, Array.replicate_succ, Array.replicate_zero, List.push_toArray, List.append_toArray, List.nil_append, List.cons_append]
  gi_wp2_with fail
  refine wpIn_scope ?_
  gi_wp2_with fail
  refine callsIn_wide.2 ?_
  refine (hasPre_any s _ w).mono ?_
  rintro e w1 ⟨rfl, rfl⟩
  rw [HH.out]
  cases q with
  | false =>
    have h0 : ¬ (bsN s).head? = some 34 := of_decide_eq_false hq
    have HE2 := HE.out
    rw [if_neg h0] at HE2
    replace HE2 := Lib.hid HE2
    clear hq h0 HE
    gi_wp2_with fail
    refine callsIn_wide.2 ?_
    refine (splain_any s _ hs).mono ?_
    rintro e w2 ⟨rfl, rfl⟩
    generalize plainK (bsN s) true = k at *
    by_cases hk : k = 0
    · subst hk
      gi_wp2_with fail
      rw [Exit.noGoto_ret]
      gi_wp2
      refine bodyPost_ret (results_tmp2 rfl _ _ _) rfl ?_
      rw [HE2.out]
      exact ⟨rfl, rfl⟩
    · have d1 : ((k : Int) == 0) = false := by simp; omega
      gi_wp2_with fail
      rw [Exit.noGoto_ret]
      gi_wp2
      refine bodyPost_ret (results_tmp2 rfl _ _ _) rfl ?_
      rw [HE2.out, if_neg hk]
      exact ⟨rfl, rfl⟩
  | true =>
    have h0 : (bsN s).head? = some 34 := of_decide_eq_true hq
    have HE2 := HE.out
    rw [if_pos h0] at HE2
    replace HE2 := Lib.hid HE2
    have hn : 0 < s.size := by
      rw [← hlen]
      rcases hl : bsN s with _ | ⟨c, l⟩
      · rw [hl] at h0; cases h0
      · simp
    clear hq h0 HE
    gi_wp2_with fail
    refine wpIn_label ?_
    gi_wp2_with fail
    gi_loopg [17, 5] (s.size + 1) (fun gk i t5 wr => ∃ (k : Nat) (ta : Bool), k + gk = s.size + 1 ∧ k ≤ s.size ∧ i = .int .i64 k ∧ t5 = .bool ta ∧ Hid (if k = 0 then ta = false else quoE ta k ((bsN s).drop k) = quoE false 1 ((bsN s).drop 1)) ∧ wr = w1)
    case atStart => exact ⟨0, false, by omega, by omega, rfl, rfl, Lib.hid (by simp), rfl⟩
    case round =>
      obtain ⟨k, ta, hgk, hk, rfl, rfl, HI, rfl⟩ := hrel
      have hg : gk = s.size + 1 - k := by omega
      subst hg
      by_cases hks : k < s.size
      · have hk1 : (k : Int) < (s.size : Int) := by omega
        have d1 : decide ((k : Int) < (s.size : Int)) = true := decide_eq_true (by omega)
        by_cases hk0 : k = 0
        · subst hk0
          have hta := HI.out
          rw [if_pos rfl] at hta
          subst hta
          gi_wp2_with fail
          gi_roundg (s.size + 1 - 1)
          case measure => omega
          case rel => exact ⟨1, false, by omega, by omega, by go_num, rfl, Lib.hid (by rw [if_neg (by decide)]), rfl⟩
        · have d0 : ((k : Int) == 0) = false := by simp; omega
          have hd : (bsN s).drop k = s[k].toNat :: (bsN s).drop (k + 1) := by
            rw [List.drop_eq_getElem_cons (by omega), HAT.out k hks]
          have hI := HI.out
          rw [if_neg hk0, hd] at hI
          have HI2 := Lib.hid hI
          clear hI hd HI
          generalize hc : s[k].toNat = c at *
          cases ta with
          | true =>
            gi_wp2_with fail
            gi_roundg (s.size + 1 - (k + 1))
            case measure => omega
            case rel => exact ⟨k + 1, false, by omega, by omega, by go_num, rfl, Lib.hid (by rw [if_neg (by omega), ← HI2.out]; rfl), rfl⟩
          | false =>
            by_cases h92 : c = 92
            · subst h92
              gi_wp2_with fail
              gi_roundg (s.size + 1 - (k + 1))
              case measure => omega
              case rel => exact ⟨k + 1, true, by omega, by omega, by go_num, rfl, Lib.hid (by rw [if_neg (by omega), ← HI2.out]; rfl), rfl⟩
            · have e92 : ((c : Int) == 92) = false := by simp; omega
              by_cases h34 : c = 34
              · subst h34
                gi_wp2_with fail
                rw [Exit.noGoto_ret]
                gi_wp2
                refine bodyPost_ret (results_tmp2 rfl _ _ _) rfl ?_
                rw [HE2.out, ← HI2.out]
                exact ⟨rfl, rfl⟩
              · have e34 : ((c : Int) == 34) = false := by simp; omega
                gi_wp2_with fail
                gi_roundg (s.size + 1 - (k + 1))
                case measure => omega
                case rel => exact ⟨k + 1, false, by omega, by omega, by go_num, rfl, Lib.hid (by rw [if_neg (by omega), ← HI2.out, quoE, if_neg (by decide), if_neg h92, if_neg h34]), rfl⟩
      · have hk1 : ¬ (k : Int) < (s.size : Int) := by omega
        have d1 : decide ((k : Int) < (s.size : Int)) = false := decide_eq_false (by omega)
        have hI := HI.out
        rw [if_neg (by omega), List.drop_eq_nil_of_le (by omega)] at hI
        gi_wp2_with fail
        refine bodyPost_ret (results_tmp2 rfl _ _ _) rfl ?_
        rw [HE2.out, ← hI]
        exact ⟨rfl, rfl⟩
end Go.Proofs.YtdhgcgejdoedbaaGreatDoor

/-
  scalar.behind, within, Read of texts as they were put: contracts.
-/
namespace Go.Proofs.YtdhgcgejdoedbaaGreatDoor
open Go Go.RowKit Go.WideShapes

theorem word_head : ∀ c c0 : Fin 128, wordL c.val ≠ [] → wordL c0.val ≠ [] → (wordL c.val).head? = (wordL c0.val).head? → (wordL c.val).length = (wordL c0.val).length := by decide +kernel
theorem word_inj : ∀ c c0 : Fin 128, wordL c.val ≠ [] → wordL c.val = wordL c0.val → c.val = c0.val := by decide +kernel
theorem word_pre {c c0 : Nat} (hc : c < 128) (hc0 : c0 < 128) (h0 : wordL c0 ≠ []) (rest : List Nat) (h : wordL c ≠ []) (hp : wordL c <+: wordL c0 ++ rest) : c = c0 := by
  have hh : (wordL c).head? = (wordL c0).head? := by
    obtain ⟨r, hr⟩ := hp
    have := congrArg List.head? hr
    rw [List.head?_append, List.head?_append] at this
    cases h1 : wordL c with
    | nil => exact absurd h1 h
    | cons a l =>
      cases h2 : wordL c0 with
      | nil => exact absurd h2 h0
      | cons b m => rw [h1, h2] at this; simpa using this
  have hl := word_head ⟨c, hc⟩ ⟨c0, hc0⟩ h h0 hh
  have he : wordL c = wordL c0 := by
    have h1 := List.prefix_iff_eq_take.1 hp
    rw [hl, List.take_left] at h1
    exact h1
  exact word_inj ⟨c, hc⟩ ⟨c0, hc0⟩ h he
theorem word_low {c : Nat} (h : wordL c ≠ []) : c < 128 := by
  rcases Nat.lt_or_ge c 128 with h1 | h1
  · exact h1
  · exfalso; apply h; unfold wordL; rw [if_neg (by omega), if_neg (by omega), if_neg (by omega), if_neg (by omega)]
theorem hasPre_bytes (s p : ByteArray) : Lib.hasPrefix s.data.toList p.data.toList = (bsN p).isPrefixOf (bsN s) := by
  unfold Lib.hasPrefix bsN
  exact nat_prefix
theorem wordL_allLt {c : Nat} (hc : c < 256) : AllLt 256 (wordL c) := wordL_lt hc
theorem u8wrap (c : Nat) (h : c < 256) : IntKind.u8.wrap (c : Int) = c := by rw [IntKind.wrap_u8]; omega

set_option maxRecDepth 100000 in
set_option maxHeartbeats 4000000 in
theorem scBehind_any (s : ByteArray) (c0 : Nat) (rest : List Nat) (w : World) (hw : wordL c0 ≠ []) (hs : bsN s = wordL c0 ++ rest) :
    Calls Tryz.prog 119 #[.string s] w fun e w' => e = .returned (.tuple #[.int .u8 (c0 : Int), .int .i64 ((wordL c0).length : Nat)]) ∧ Below w.heap.size w w' := by
  have h128 := word_low hw
  have HPR := Lib.hid (fun (c : Nat) (hc : c < 128) (h : wordL c ≠ []) (hp : wordL c <+: bsN s) => word_pre hc h128 hw rest h (by rw [← hs]; exact hp))
  have HP0 : Hid ((wordL c0).isPrefixOf (bsN s) = true) := Lib.hid (by rw [List.isPrefixOf_iff_prefix, hs]; exact List.prefix_append _ _)
  have HW := Lib.hid hw
  clear hs hw
  go_enter Tryz.func119, Tryz.ntmps119
  go_wp2_with fail
  go_loopg [8] 129 (fun gk i wr => ∃ (k : Nat), k + gk = 129 ∧ k ≤ c0 ∧ i = .int .i64 k ∧ Hid (Below w.heap.size w wr))
  case atStart => exact ⟨0, by omega, by omega, rfl, Lib.hid (Below.refl _ _)⟩
  case round =>
    obtain ⟨k, hgk, hk, rfl, HB⟩ := hrel
    have hg : gk = 129 - k := by omega
    subst hg
    have d1 : decide ((k : Int) < 128) = true := decide_eq_true (by omega)
    have hk1 : (k : Int) < 128 := by omega
    have hwr := u8wrap k (by omega)
    have HS := Lib.hid (word_any k (by omega))
    have hmz := mkS_size (wordL k)
    have hme := mkS_empty (wordL k)
    have HBS := Lib.hid (bsN_mkS (wordL_allLt (c := k) (by omega)))
    have HKP := Lib.hid (HPR.out k (by omega))
    have HKE : Hid (k = c0 → (wordL k).isPrefixOf (bsN s) = true ∧ wordL k ≠ []) := Lib.hid (fun h => by subst h; exact ⟨HP0.out, HW.out⟩)
    have HQ : Hid (k = c0 → (mkS (wordL k)).size = (wordL c0).length) := Lib.hid (fun h => by subst h; exact hmz)
    generalize wordL k = wl at *
    generalize mkS wl = ms at *
    have HPB := Lib.hid (hasPre_bytes s ms)
    go_wp2_with fail
    refine (HS.out _).mono ?_
    rintro e w2 ⟨rfl, hb2⟩
    have HB2 := Lib.hid (bthen HB.out (Nat.le_refl _) hb2)
    clear hb2
    cases hwe : wl.isEmpty with
    | true =>
      have hw0 : wl = [] := List.isEmpty_iff.1 hwe
      have hne : k ≠ c0 := fun h => (HKE.out h).2 hw0
      rw [hwe] at hme
      clear hwe hw0
      go_wp2_with fail
      go_roundg (129 - (k + 1))
      case measure => omega
      case rel => exact ⟨k + 1, by omega, by omega, by go_num, HB2⟩
    | false =>
      have hw0 : ¬ wl = [] := fun h => by rw [h] at hwe; cases hwe
      rw [hwe] at hme
      clear hwe
      cases hpp : wl.isPrefixOf (bsN s) with
      | true =>
        have hkc : k = c0 := HKP.out hw0 (List.isPrefixOf_iff_prefix.1 hpp)
        have HZ := HQ.out hkc
        have HR : Hid (Lib.hasPrefix s.data.toList ms.data.toList = true) := Lib.hid (by rw [HPB.out, HBS.out, hpp])
        clear hpp hmz
        go_wp2_with fail
        refine (hasPre_any s ms w2).mono ?_
        rintro e w3 ⟨rfl, rfl⟩
        rw [HR.out]
        go_wp2_with fail
        refine bodyPost_ret (results_tmp2 rfl _ _ _) rfl ⟨rfl, HB2.out⟩
      | false =>
        have hne : k ≠ c0 := fun h => by rw [(HKE.out h).1] at hpp; cases hpp
        have HR : Hid (Lib.hasPrefix s.data.toList ms.data.toList = false) := Lib.hid (by rw [HPB.out, HBS.out, hpp])
        clear hpp
        go_wp2_with fail
        refine (hasPre_any s ms w2).mono ?_
        rintro e w3 ⟨rfl, rfl⟩
        rw [HR.out]
        go_wp2_with fail
        go_roundg (129 - (k + 1))
        case measure => omega
        case rel => exact ⟨k + 1, by omega, by omega, by go_num, HB2⟩

def posW (t : List Nat) (k : Nat) : Nat := ((t.take k).flatMap escN).length
theorem posW_succ {t : List Nat} {k : Nat} (h : k < t.length) : posW t (k + 1) = posW t k + (escN t[k]).length := by
  unfold posW
  rw [List.take_succ_eq_append_getElem h, List.flatMap_append, List.length_append]
  simp
theorem posW_end (t : List Nat) : posW t t.length = (t.flatMap escN).length := by unfold posW; rw [List.take_length]
theorem posW_drop {t : List Nat} {k : Nat} (h : k < t.length) : (t.flatMap escN).drop (posW t k) = escN t[k] ++ (t.drop (k + 1)).flatMap escN := by
  have h1 : t.flatMap escN = (t.take k).flatMap escN ++ (t.drop k).flatMap escN := by rw [← List.flatMap_append, List.take_append_drop]
  rw [h1]
  unfold posW
  rw [List.drop_left, List.drop_eq_getElem_cons h, List.flatMap_cons]
theorem escN_pos (c : Nat) : 0 < (escN c).length := by unfold escN; split <;> simp
theorem posW_lt {t : List Nat} {k : Nat} (h : k < t.length) : posW t k < (t.flatMap escN).length := by
  have h1 := congrArg List.length (posW_drop h)
  rw [List.length_drop, List.length_append] at h1
  have := escN_pos t[k]
  omega
theorem word_nil {c : Nat} (h : wordL c = []) : 32 ≤ c ∧ c ≠ 127 ∧ c ≠ 92 ∧ c ≠ 34 := by
  unfold wordL at h
  split at h
  · cases h
  · split at h
    · cases h
    · split at h
      · cases h
      · split at h
        · cases h
        · omega
theorem bsN_extract (s : ByteArray) (a b : Nat) : bsN (s.extract a b) = ((bsN s).drop a).take (b - a) := by
  unfold bsN
  rw [← List.map_drop, ← List.map_take]
  congr 1
  simp

set_option maxRecDepth 100000 in
set_option maxHeartbeats 4000000 in
theorem scWithin_any (s : ByteArray) (t : List Nat) (w : World) (ht : AllLt 256 t) (hl : t.length ≤ 1000000) (hs : bsN s = t.flatMap escN) :
    Calls Tryz.prog 109 #[.string s] w fun e w' => ∃ v, e = .returned (.tuple #[v, .bool true]) ∧ w'.ownsRow w.heap.size 5 1 v t.length (u8s t) ∧ Below w.heap.size w w' := by
  obtain ⟨i0, hi, hz0, hz1, hz2⟩ := info_parts Tryz.info_byte
  have hlen := bsN_len s
  have HAT := Lib.hid (fun k (h : k < s.size) => bsN_at (s := s) h)
  have HD := Lib.hid (fun k (h : k < t.length) => posW_drop h)
  have hend := posW_end t
  have HLT := Lib.hid (fun k (h : k < t.length) => posW_lt h)
  have HT := Lib.hid ht
  have HSS := Lib.hid hs
  have h4 : (t.flatMap escN).length ≤ 4 * t.length := by
    clear HSS hs hend HLT HD ht HT hl
    induction t with
    | nil => simp
    | cons c l ih => rw [List.flatMap_cons, List.length_append, List.length_cons]; have := escN_len c; omega
  have HSZ : Hid (s.size = posW t t.length) := Lib.hid (by rw [← hlen, hs, hend])
  rw [← hend] at h4
  clear ht hs hend
  go_enter Tryz.func109, Tryz.ntmps109
  go_wp2_with fail
  go_loopg [5, 4] (t.length + 1) (fun gk i s4 wr => ∃ (k : Nat) (va : Option Addr) (vc n : Nat), k + gk = t.length + 1 ∧ k ≤ t.length ∧ i = .int .i64 (posW t k : Nat) ∧ s4 = .slice va n vc ∧ Hid (n = k) ∧ Hid (wr.ownsRow w.heap.size 5 1 (.slice va n vc) n (u8s (t.take k))) ∧ Hid (Below w.heap.size w wr))
  case atStart => exact ⟨0, _, _, _, by omega, by omega, rfl, rfl, Lib.hid rfl, Lib.hid (World.ownsRow_nil _ _ _ _), Lib.hid (Below.refl _ _)⟩
  case round =>
    obtain ⟨k, va, vc, n, hgk, hk, rfl, rfl, HNL, HO, HB⟩ := hrel
    have hg : gk = t.length + 1 - k := by omega
    subst hg
    have hnl := HNL.out
    by_cases hkt : k < t.length
    · have hps : posW t k < s.size := by have := HLT.out k hkt; rw [HSZ.out, posW_end]; exact this
      have d1 : decide (((posW t k : Nat) : Int) < (s.size : Int)) = true := decide_eq_true (by omega)
      have hp1 : ((posW t k : Nat) : Int) < (s.size : Int) := by omega
      have hat := HAT.out _ hps
      have hdr := HD.out k hkt
      have hsu := posW_succ hkt
      have htk := HT.out _ (List.getElem_mem hkt)
      have HTK : Hid (t.take (k + 1) = t.take k ++ [t[k]]) := Lib.hid (List.take_succ_eq_append_getElem hkt)
      have hhd : s[posW t k].toNat = (escN t[k])[0]?.getD 0 := by
        have h1 : ((bsN s).drop (posW t k))[0]? = some s[posW t k].toNat := by
          rw [List.getElem?_drop, Nat.add_zero, List.getElem?_eq_getElem (by omega), hat]
        rw [HSS.out, hdr, List.getElem?_append_left (escN_pos _)] at h1
        rw [h1]; rfl
      have hple : posW t k + 4 ≤ 4000100 := by
        have := HSZ.out
        omega
      generalize hcc : t[k] = c at *
      have HDR := Lib.hid hdr
      have HHD := Lib.hid hhd
      clear hdr hat hhd
      generalize hpk : posW t k = p at *
      by_cases hw : wordL c = []
      · obtain ⟨w1, w2, w3, w4⟩ := word_nil hw
        have he : escN c = [c] := by unfold escN; rw [if_pos hw]
        have hh := HHD.out
        rw [he] at hh
        have hh2 : s[p].toNat = c := hh
        rw [he] at hsu
        have d2 : decide ((c : Int) < 32) = false := decide_eq_false (by omega)
        have e3 : ((c : Int) == 127) = false := by simp; omega
        have e4 : ((c : Int) == 92) = false := by simp; omega
        clear hh he hw
        subst hnl
        go_wp2_with (at_builtin; go_must (refine wpList_push rfl _ _ 42 rfl w.heap.size 5 i0 (.int .u8 0) 1 1 Tryz.underlying42 hi hz0 hz1 hz2 rfl (by decide) _ _ _ rfl (World.ownsRow.alloc HO.out _) ⟨wr.heap.size, 0, none⟩ 1 1 [_] rfl rfl (cell_one_new _ _ _) (by simp [Value.oneCell']) (by unfold maxLen; omega) (by omega) (by have := HB.out.size; simp; omega) ?_; intro v' w3 hown' hgrow hfr; have HOP := Lib.hid (show w3.ownsRow w.heap.size 5 1 v' _ (u8s _ ++ [.int .u8 (c : Int)]) from hown'); have HBP := Lib.hid (below_push HB.out (by have := HB.out.size; omega) HO.out (Nat.le_refl _) hgrow); clear hown' hgrow hfr))
        obtain ⟨va', vc', rfl⟩ := (RdS.of_owns HOP.out).form
        go_roundg (t.length + 1 - (n + 1))
        case measure => omega
        case rel => exact ⟨n + 1, va', vc', _, by omega, by omega, by rw [hsu]; go_num, rfl, Lib.hid (by omega), Lib.hid (by rw [HTK.out, u8s_snocD]; exact HOP.out), HBP⟩
      · have he : escN c = 92 :: wordL c := by unfold escN; rw [if_neg hw]
        have hh := HHD.out
        rw [he] at hh
        have hh2 : s[p].toNat = 92 := hh
        have hsl : bsN (s.extract (p + 1) s.size) = wordL c ++ (t.drop (k + 1)).flatMap escN := by
          have h1 : (bsN s).drop (p + 1) = wordL c ++ (t.drop (k + 1)).flatMap escN := by
            rw [HSS.out, ← List.drop_drop, HDR.out, he]; rfl
          rw [bsN_extract, List.take_of_length_le (by rw [List.length_drop, hlen]; exact Nat.le_refl _), h1]
        have HBH := Lib.hid (scBehind_any (s.extract (p + 1) s.size) c _ wr hw hsl)
        have hwl := wordL_len c
        have hwp : 0 < (wordL c).length := List.length_pos_iff.2 hw
        have hlw : (escN c).length = (wordL c).length + 1 := by rw [he]; rfl
        rw [hlw] at hsu
        clear hh he hw hsl hlw
        generalize (wordL c).length = wn at *
        have e5 : ((wn : Int) == 0) = false := by simp; omega
        have t1 : ((p : Int) + 1).toNat = p + 1 := by omega
        subst hnl
        go_wp2_with fail
        refine HBH.out.mono ?_
        rintro e w2 ⟨rfl, hb2⟩
        have HO2 := Lib.hid (ownsB HO.out hb2)
        have HB2 := Lib.hid (bthen HB.out (Nat.le_refl _) hb2)
        clear hb2
        go_wp2_with (at_builtin; go_must (refine wpList_push rfl _ _ 42 rfl w.heap.size 5 i0 (.int .u8 0) 1 1 Tryz.underlying42 hi hz0 hz1 hz2 rfl (by decide) _ _ _ rfl (World.ownsRow.alloc HO2.out _) ⟨w2.heap.size, 0, none⟩ 1 1 [_] rfl rfl (cell_one_new _ _ _) (by simp [Value.oneCell']) (by unfold maxLen; omega) (by omega) (by have := HB2.out.size; simp; omega) ?_; intro v' w3 hown' hgrow hfr; have HOP := Lib.hid (show w3.ownsRow w.heap.size 5 1 v' _ (u8s _ ++ [.int .u8 (c : Int)]) from hown'); have HBP := Lib.hid (below_push HB2.out (by have := HB2.out.size; omega) HO2.out (Nat.le_refl _) hgrow); clear hown' hgrow hfr))
        obtain ⟨va', vc', rfl⟩ := (RdS.of_owns HOP.out).form
        go_roundg (t.length + 1 - (n + 1))
        case measure => omega
        case rel => exact ⟨n + 1, va', vc', _, by omega, by omega, by rw [hsu]; go_num, rfl, Lib.hid (by omega), Lib.hid (by rw [HTK.out, u8s_snocD]; exact HOP.out), HBP⟩
    · have hke : k = t.length := by omega
      subst hke
      have hszz := HSZ.out
      have d1 : decide (((posW t t.length : Nat) : Int) < (s.size : Int)) = false := decide_eq_false (by omega)
      have hp1 : ¬ ((posW t t.length : Nat) : Int) < (s.size : Int) := by omega
      clear hszz
      subst hnl
      go_wp2_with fail
      refine bodyPost_ret (results_tmp2 rfl _ _ _) rfl ?_
      have := HO.out
      rw [List.take_length] at this
      exact ⟨_, rfl, this, HB.out⟩
end Go.Proofs.YtdhgcgejdoedbaaGreatDoor

/-
  scalar.Read of a text as it was put: contract; Cut's answer there.
-/
namespace Go.Proofs.YtdhgcgejdoedbaaGreatDoor
open Go Go.RowKit Go.WideShapes

theorem bsN_eq {s t : ByteArray} (h : bsN s = bsN t) : s = t := bsN_ext h
theorem mkS_bsN (s : ByteArray) : mkS (bsN s) = s := bsN_eq (bsN_mkS (bsN_lt s))
theorem quoE_esc (c i : Nat) (rest : List Nat) : quoE false i (escN c ++ rest) = quoE false (i + (escN c).length) rest := by
  unfold escN
  by_cases h : wordL c = []
  · rw [if_pos h]
    obtain ⟨_, _, h3, h4⟩ := word_nil h
    show quoE false i (c :: rest) = _
    rw [quoE, if_neg (by decide), if_neg h3, if_neg h4]; rfl
  · rw [if_neg h]
    have hw : (∃ d, wordL c = [d]) ∨ (∃ d e, wordL c = [120, d, e] ∧ d ≠ 34 ∧ d ≠ 92 ∧ e ≠ 34 ∧ e ≠ 92) := by
      have h1 : ∀ c : Fin 128, wordL c.val ≠ [] → (match wordL c.val with | [_] => true | [a, d, e] => a == 120 && d != 34 && d != 92 && e != 34 && e != 92 | _ => false) = true := by decide +kernel
      have h2 := h1 ⟨c, word_low h⟩ h
      simp only at h2
      split at h2
      · rename_i d hd; exact .inl ⟨d, hd⟩
      · rename_i a d e hd
        simp at h2
        obtain ⟨⟨⟨⟨h3, h4⟩, h5⟩, h6⟩, h7⟩ := h2
        exact .inr ⟨d, e, by rw [hd, h3], h4, h5, h6, h7⟩
      · cases h2
    rcases hw with ⟨d, hd⟩ | ⟨d, e, hd, h1, h2, h3, h4⟩
    · rw [hd]
      show quoE false i (92 :: d :: rest) = _
      simp [quoE]
    · rw [hd]
      show quoE false i (92 :: 120 :: d :: e :: rest) = _
      simp [quoE, h1, h2, h3, h4]
theorem quoE_escs : ∀ (t rest : List Nat) (i : Nat), quoE false i (t.flatMap escN ++ rest) = quoE false (i + (t.flatMap escN).length) rest
  | [], rest, i => by simp
  | c :: t, rest, i => by
    rw [List.flatMap_cons, List.append_assoc, quoE_esc, quoE_escs t rest, List.length_append]
    congr 1; omega
theorem plainK_app : ∀ (t rest : List Nat) (f : Bool), plainAll t f = true → t ≠ [] → (∀ c, rest.head? = some c → standsB c false = false) → plainK (t ++ rest) f = t.length
  | [], _, _, _, h, _ => absurd rfl h
  | c :: t, rest, f, h, _, hr => by
    unfold plainAll at h
    rw [Bool.and_eq_true] at h
    rw [List.cons_append, plainK, if_pos h.1]
    cases t with
    | nil =>
      cases rest with
      | nil => rfl
      | cons d r => rw [List.nil_append, plainK, if_neg (by rw [hr d rfl]; decide)]; rfl
    | cons d t => rw [plainK_app (d :: t) rest false h.2 (by simp) hr]; rfl
theorem cutE_wr (t rest : List Nat) (hr : ∀ c, rest.head? = some c → c = 58) : cutE (wrL t ++ rest) = ((((wrL t).length : Nat) : Int), 0) := by
  rcases wrL_cases t with ⟨h1, h2, h3⟩ | ⟨h3, _⟩
  · rw [h3]
    have hs := plainAll_stands t true h2
    unfold cutE
    have hh : ¬ (t ++ rest).head? = some 34 := by
      cases t with
      | nil => exact absurd rfl h1
      | cons a m =>
        obtain ⟨g, hg⟩ := hs a (by simp)
        intro h
        have : a = 34 := by simpa using h
        exact (stands_not hg).1 this
    have hp := plainK_app t rest true h2 h1 (fun c hc => by rw [hr c hc]; decide)
    rw [if_neg hh, hp, if_neg (by have := List.length_pos_iff.2 h1; omega)]
  · rw [h3]
    unfold cutE
    have hh : (quoteN t ++ rest).head? = some 34 := rfl
    rw [if_pos hh]
    have hd : (quoteN t ++ rest).drop 1 = t.flatMap escN ++ (34 :: rest) := by unfold quoteN; simp
    rw [hd, quoE_escs]
    simp [quoE, quoteN]; omega
theorem wrL_quoted {t : List Nat} (h : wrL t = quoteN t) : (wrL t).drop 1 = t.flatMap escN ++ [34] := by rw [h]; rfl

set_option maxRecDepth 100000 in
set_option maxHeartbeats 4000000 in
theorem scRead_any (x s : ByteArray) (w : World) (hx : bsN x = wrL (bsN s)) (hs : s.size ≤ 4096) (hu : Utf (bsN s)) :
    Calls Tryz.prog 96 #[.string x] w fun e w' => e = .returned (.tuple #[.string s, .int .i64 0]) ∧ Below w.heap.size w w' := by
  have hxl := bsN_len x
  have hsl := bsN_len s
  have hwl := wrL_len (bsN s)
  rw [← hx, hxl, hsl] at hwl
  have hcut : cutE (bsN x) = (((x.size : Nat) : Int), 0) := by
    have := cutE_wr (bsN s) [] (fun c h => by cases h)
    rw [List.append_nil, ← hx, hxl] at this
    exact this
  have HC : Hid (∀ w, Calls Tryz.prog 95 #[.string x] w fun e w' => e = .returned (.tuple #[.int .i64 (x.size : Nat), .int .i64 0]) ∧ w' = w) := Lib.hid (fun w => by
    have := scCut_any x w (by omega)
    rw [hcut] at this
    exact this)
  have HK : Hid (∀ w, Calls Tryz.prog 33 #[.string s, .int .i64 4096] w fun e w' => e = .returned (.int .i64 0) ∧ Below w.heap.size w w') := Lib.hid (fun w => by
    have := Check_any s 4096 w (by omega)
    have hz : checkN (bsN s) 4096 = 0 := by
      unfold checkN
      rw [if_neg (by rw [hsl]; omega), utf_first hu, if_pos (by decide)]
    rw [hz] at this
    exact this)
  have hx0 : 0 < x.size := by
    have := List.length_pos_iff.2 (wrL_ne (bsN s))
    rw [← hx, hxl] at this; exact this
  have hat0 := bsN_at hx0
  clear hcut
  rcases wrL_cases (bsN s) with ⟨h1, h2, h3⟩ | ⟨h3, _⟩
  · have hxs : x = s := bsN_eq (by rw [hx, h3])
    subst hxs
    have hne : x[0].toNat ≠ 34 := by
      have hs2 := plainAll_stands _ true h2
      rw [← hat0]
      obtain ⟨g, hg⟩ := hs2 _ (List.getElem_mem (by rw [hxl]; exact hx0))
      exact (stands_not hg).1
    have e34 : ((x[0].toNat : Int) == 34) = false := by simp; omega
    generalize hc : x[0].toNat = c at *
    clear hx hat0 h2 h3 hwl
    go_enter Tryz.func96, Tryz.ntmps96
    go_wp2_with fail
    refine (HC.out _).mono ?_
    rintro e w1 ⟨rfl, rfl⟩
    go_wp2_with fail
    refine (HK.out _).mono ?_
    rintro e w2 ⟨rfl, hb⟩
    go_wp2_with fail
    refine bodyPost_ret (results_tmp2 rfl _ _ _) rfl ⟨rfl, hb⟩
  · have hz : x.size = (((bsN s).flatMap escN).length + 1) + 1 := by
      rw [← hxl, hx, h3]; simp [quoteN]
    have hc0 : x[0].toNat = 34 := by
      have h4 : (bsN x)[0]? = some 34 := by rw [hx, h3]; rfl
      rw [List.getElem?_eq_getElem (by rw [hxl]; exact hx0), hat0] at h4
      exact Option.some.inj h4
    have hin : bsN (x.extract 1 (x.size - 1)) = (bsN s).flatMap escN := by
      rw [bsN_extract, hx, wrL_quoted h3]
      rw [List.take_left' (by omega)]
    have HW := Lib.hid (fun w => scWithin_any (x.extract 1 (x.size - 1)) (bsN s) w (bsN_lt s) (by omega) hin)
    have HV : Hid (∀ (w : World) (v : Value), RdS w v 1 s.size (u8s (bsN s)) → (convert 42 9 v).run Tryz.prog w = .ok (.string s) w) := Lib.hid (fun w v h => by
      have := run_conv (bsN_lt s) (v := v) (w := w) (by rw [hsl]; exact h)
      rw [mkS_bsN] at this
      exact this)
    have hw1 : wrap64 ((x.size : Int) - 1) = ((x.size - 1 : Nat) : Int) := by unfold wrap64; omega
    have l1 : (1 : Int) ≤ ((x.size - 1 : Nat) : Int) := by omega
    have l2 : ((x.size - 1 : Nat) : Int) ≤ (x.size : Int) := by omega
    clear hx hat0 h3 hwl hin hz
    generalize x.size - 1 = m at *
    go_enter Tryz.func96, Tryz.ntmps96
    go_wp2_with fail
    refine (HC.out _).mono ?_
    rintro e w1 ⟨rfl, rfl⟩
    go_wp2_with fail
    refine (HW.out _).mono ?_
    rintro e w2 ⟨v, rfl, ho, hb⟩
    rw [hsl] at ho
    obtain ⟨va, vc, rfl⟩ := (RdS.of_owns ho).form
    have HCV := Lib.hid (HV.out _ _ (RdS.of_owns ho))
    have HB := Lib.hid hb
    clear ho hb
    go_wp2_with fail
    rw [HCV.out]
    simp only [Result.andThen]
    rw [Oper.upon_value]
    go_wp2_with fail
    refine (HK.out _).mono ?_
    rintro e w3 ⟨rfl, hb⟩
    have HB2 := Lib.hid (bthen HB.out (Nat.le_refl _) hb)
    clear hb
    go_wp2_with fail
    refine bodyPost_ret (results_tmp2 rfl _ _ _) rfl ⟨rfl, HB2.out⟩
end Go.Proofs.YtdhgcgejdoedbaaGreatDoor
