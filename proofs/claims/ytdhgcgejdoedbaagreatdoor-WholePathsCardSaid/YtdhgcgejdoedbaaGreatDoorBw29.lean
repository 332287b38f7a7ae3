/-
  line.Strip: contract.
-/
import Derived.Sort.LoopGhostIn
import Derived.Test.YtdhgcgejdoedbaaGreatDoorBw8
import Derived.Test.YtdhgcgejdoedbaaGreatDoorBw28
namespace Go.Proofs.YtdhgcgejdoedbaaGreatDoor
open Go Go.RowKit Go.WideShapes
attribute [local go_sem] Oper.semAt_some wide_fn wide_depth wide_fn' wide_depth'

def pbN (l : List Nat) (k : Nat) : Bool := if k = 0 then true else decide (l[k - 1]?.getD 0 = 32)
theorem pbN_succ {l : List Nat} {k : Nat} (h : k < l.length) : pbN l (k + 1) = decide (l[k] = 32) := by
  unfold pbN
  rw [if_neg (by omega), Nat.add_sub_cancel, List.getElem?_eq_getElem h]; rfl
theorem dropWhile_nat (l : List UInt8) : (l.dropWhile (· == 32)).map UInt8.toNat = (l.map UInt8.toNat).dropWhile (· == 32) := by
  induction l with
  | nil => rfl
  | cons c l ih =>
    rw [List.dropWhile_cons, List.map_cons, List.dropWhile_cons, ← ih]
    have : (c == 32) = (c.toNat == 32) := by
      rw [Bool.eq_iff_iff, beq_iff_eq, beq_iff_eq]
      constructor
      · rintro rfl; rfl
      · intro h; exact UInt8.toNat_inj.1 h
    rw [this]
    split <;> rfl
theorem trimR_bytes (l : List UInt8) : bsN ⟨(Lib.trimRightB l 32).toArray⟩ = trimRN (l.map UInt8.toNat) := by
  unfold bsN Lib.trimRightB trimRN
  rw [List.map_reverse, dropWhile_nat, List.map_reverse]
theorem trimL_bytes (l : List UInt8) : bsN ⟨(Lib.trimLeftB l 32).toArray⟩ = trimLN (l.map UInt8.toNat) := by
  unfold bsN Lib.trimLeftB trimLN
  exact dropWhile_nat l
theorem strip_bytes (s : ByteArray) (k : Nat) (hk : k = cutN false false true (bsN s)) : (⟨(Lib.trimRightB (s.extract 0 k).data.toList 32).toArray⟩ : ByteArray) = mkS (stripN (bsN s)) := by
  refine bsN_ext ?_
  rw [trimR_bytes, bsN_mkS (fun b hb => bsN_lt s b (stripN_sub _ b hb))]
  unfold stripN
  rw [← hk]
  congr 1
  exact bsN_extract s 0 k

set_option maxRecDepth 100000 in
set_option maxHeartbeats 4000000 in
theorem lnStrip_any (s : ByteArray) (w : World) (hs : s.size ≤ 1073741824) :
    Calls Tryz.prog 40 #[.string s] w fun e w' => e = .returned (.string (mkS (stripN (bsN s)))) ∧ Below w.heap.size w w' := by
  have hlen := bsN_len s
  have HAT := Lib.hid (fun k (h : k < s.size) => bsN_at (s := s) h)
  have HPB := Lib.hid (fun k (h : k < (bsN s).length) => pbN_succ h)
  have HFIN := Lib.hid (strip_bytes s)
  refine (callsIn_wide (n := 0)).1 ?_
  refine callsIn_of_wp Tryz.func40 rfl trivial ?_ rfl
  simp only [Tryz.ntmps40, List.size_toArray, List.length_cons, List.length_nil, Nat.reduceAdd, Nat.reduceSub, Array.replicate_succ, Array.replicate_zero, List.push_toArray, List.append_toArray, List.nil_append, List.cons_append]
  gi_wp2_with fail
  refine wpIn_scope ?_
  gi_wp2_with fail
  refine wpIn_label ?_
  gi_wp2_with fail
  gi_loopg [11, 3, 4, 5] (s.size + 1) (fun gk i t3 t4 t5 wr => ∃ (k : Nat) (wi ta : Bool), k + gk = s.size + 1 ∧ k ≤ s.size ∧ i = .int .i64 k ∧ t3 = .int .i64 (s.size : Nat) ∧ t4 = .bool wi ∧ t5 = .bool ta ∧ Hid (cutN false false true (bsN s) = k + cutN wi ta (pbN (bsN s) k) ((bsN s).drop k)) ∧ Hid (Below w.heap.size w wr))
  case atStart => exact ⟨0, false, false, by omega, by omega, rfl, rfl, rfl, rfl, Lib.hid (by simp [pbN]), Lib.hid (Below.refl _ _)⟩
  case round =>
    obtain ⟨k, wi, ta, hgk, hk, rfl, rfl, rfl, rfl, HI, HB⟩ := hrel
    have hg : gk = s.size + 1 - k := by omega
    subst hg
    by_cases hks : k < s.size
    · have hk1 : (k : Int) < (s.size : Int) := by omega
      have d1 : decide ((k : Int) < (s.size : Int)) = true := decide_eq_true (by omega)
      have hd : (bsN s).drop k = s[k].toNat :: (bsN s).drop (k + 1) := by
        rw [List.drop_eq_getElem_cons (by omega), HAT.out k hks]
      have hp2 := HPB.out k (by omega)
      rw [HAT.out k hks] at hp2
      have hI := HI.out
      rw [hd] at hI
      have HI2 := Lib.hid hI
      have HP2 := Lib.hid hp2
      clear hI hd HI hp2
      generalize hc : s[k].toNat = c at *
      have HN : Hid (∀ wi' ta', cutN wi ta (pbN (bsN s) k) (c :: (bsN s).drop (k + 1)) = cutN wi' ta' (pbN (bsN s) (k + 1)) ((bsN s).drop (k + 1)) + 1 → cutN false false true (bsN s) = (k + 1) + cutN wi' ta' (pbN (bsN s) (k + 1)) ((bsN s).drop (k + 1))) := Lib.hid (fun wi' ta' h => by rw [HI2.out, h]; omega)
      cases ta with
      | true =>
        gi_wp2_with fail
        gi_roundg (s.size + 1 - (k + 1))
        case measure => omega
        case rel => exact ⟨k + 1, wi, false, by omega, by omega, by go_num, rfl, rfl, rfl, Lib.hid (HN.out _ _ (by rw [cutN, if_pos rfl, HP2.out])), HB⟩
      | false =>
        cases wi with
        | true =>
          by_cases h92 : c = 92
          · subst h92
            gi_wp2_with fail
            gi_roundg (s.size + 1 - (k + 1))
            case measure => omega
            case rel => exact ⟨k + 1, true, true, by omega, by omega, by go_num, rfl, rfl, rfl, Lib.hid (HN.out _ _ (by rw [cutN, if_neg (by decide), if_pos (by decide), HP2.out])), HB⟩
          · have e92 : ((c : Int) == 92) = false := by simp; omega
            by_cases h34 : c = 34
            · subst h34
              gi_wp2_with fail
              gi_roundg (s.size + 1 - (k + 1))
              case measure => omega
              case rel => exact ⟨k + 1, false, false, by omega, by omega, by go_num, rfl, rfl, rfl, Lib.hid (HN.out _ _ (by rw [cutN, if_neg (by decide), if_neg (by simp [h92]), if_pos rfl, Bool.not_true, HP2.out])), HB⟩
            · have e34 : ((c : Int) == 34) = false := by simp; omega
              gi_wp2_with fail
              gi_roundg (s.size + 1 - (k + 1))
              case measure => omega
              case rel => exact ⟨k + 1, true, false, by omega, by omega, by go_num, rfl, rfl, rfl, Lib.hid (HN.out _ _ (by rw [cutN, if_neg (by decide), if_neg (by simp [h92]), if_neg h34, if_pos (by rfl), HP2.out])), HB⟩
        | false =>
          by_cases h34 : c = 34
          · subst h34
            gi_wp2_with fail
            gi_roundg (s.size + 1 - (k + 1))
            case measure => omega
            case rel => exact ⟨k + 1, true, false, by omega, by omega, by go_num, rfl, rfl, rfl, Lib.hid (HN.out _ _ (by rw [cutN, if_neg (by decide), if_neg (by decide), if_pos rfl, Bool.not_false, HP2.out])), HB⟩
          · have e34 : ((c : Int) == 34) = false := by simp; omega
            by_cases h35 : c = 35
            · subst h35
              by_cases hk0 : k = 0
              · subst hk0
                have hE := HFIN.out 0 (by rw [HI2.out]; rfl)
                rw [show s.extract 0 0 = ByteArray.empty from bsN_ext (by rw [bsN_extract]; simp [bsN])] at hE
                have HE := Lib.hid hE
                clear hE
                gi_upto_region 13 with fail
                refine E_regionW (S := (fun _ => True)) 10 (by kernel_rfl) (by kernel_rfl) trivial (fun Q' hQ hK' hHeld => ?_)
                refine E_take0 hQ (fun _ => hHeld) 0 (v := ?bqv1) rfl rfl (by kernel_rfl) (by kernel_rfl) (by kernel_rfl) (by decide) (by rfl) ?bqy1 ?bqr1
                case bqy1 => (intro w; go_simp; (try with_reducible rfl))
                (try simp only [layE])
                refine E_take0 hQ (fun _ => hHeld) 1 (v := ?bqv2) rfl rfl (by kernel_rfl) (by kernel_rfl) (by kernel_rfl) (by decide) (by rfl) ?bqy2 ?bqr2
                case bqy2 => (intro w; go_simp; (try with_reducible rfl))
                (try simp only [layE])
                refine E_take0 hQ (fun _ => hHeld) 2 (v := ?bqv3) rfl rfl (by kernel_rfl) (by kernel_rfl) (by kernel_rfl) (by decide) (by rfl) ?bqy3 ?bqr3
                case bqy3 => (intro w; go_simp; (try with_reducible rfl))
                (try simp only [layE])
                refine E_off hQ (fun _ => hHeld) 3 rfl rfl (by kernel_rfl) (by kernel_rfl) (by kernel_rfl) (by decide) (by rfl) ?_
                (try simp only [layE])
                refine E_off hQ (fun _ => hHeld) 4 rfl rfl (by kernel_rfl) (by kernel_rfl) (by kernel_rfl) (by decide) (by rfl) ?_
                (try simp only [layE])
                refine E_off hQ (fun _ => hHeld) 5 rfl rfl (by kernel_rfl) (by kernel_rfl) (by kernel_rfl) (by decide) (by rfl) ?_
                (try simp only [layE])
                refine E_off hQ (fun _ => hHeld) 6 rfl rfl (by kernel_rfl) (by kernel_rfl) (by kernel_rfl) (by decide) (by rfl) ?_
                (try simp only [layE])
                refine E_off hQ (fun _ => hHeld) 7 rfl rfl (by kernel_rfl) (by kernel_rfl) (by kernel_rfl) (by decide) (by rfl) ?_
                (try simp only [layE])
                refine E_off hQ (fun _ => hHeld) 8 rfl rfl (by kernel_rfl) (by kernel_rfl) (by kernel_rfl) (by decide) (by rfl) ?_
                (try simp only [layE])
                refine E_take0 hQ (fun _ => hHeld) 9 (v := ?bqv10) rfl rfl (by kernel_rfl) (by kernel_rfl) (by kernel_rfl) (by decide) (by rfl) ?bqy10 ?bqr10
                case bqy10 => (intro w; go_simp; (try with_reducible rfl))
                (try simp only [layE])
                refine E_one 10 (by kernel_rfl) rfl (by rfl) (fun K hK => ?_)
                go_simp
                (try simp only [layE])
                refine hK.out _ _ (fun _ h => absurd rfl h) (fun _ => ?_)
                clear hK hHeld
                (try simp only [layE])
                refine E_done (by kernel_rfl) ?_ _
                refine hK'.out _ _ ?_
                gi_wp2_with fail
                refine callsIn_wide.2 ?_
                refine (trimR_any _ 32 (by decide) _ (by first | omega | (simp; done) | (simp; omega))).mono ?_
                rintro e w1 ⟨rfl, rfl⟩
                rw [HE.out]
                gi_wp2
                rw [Exit.noGoto_ret]
                gi_wp2
                go_ret
                exact ⟨rfl, HB.out.drew⟩
              · have ek0 : ((k : Int) == 0) = false := by simp; omega
                have hkl : k - 1 < s.size := by omega
                have hat1 := HAT.out (k - 1) hkl
                have hpb : pbN (bsN s) k = decide (s[k - 1].toNat = 32) := by
                  have := HPB.out (k - 1) (by omega)
                  rw [HAT.out (k - 1) hkl] at this
                  rw [← this]; congr 1; omega
                have hw1 : wrap64 ((k : Int) - 1) = ((k - 1 : Nat) : Int) := by unfold wrap64; omega
                have hw2 : IntKind.i64.wrap ((k : Int) - 1) = ((k - 1 : Nat) : Int) := by rw [IntWalk.i64_in _ (by omega)]; omega
                have hl1 : ((k - 1 : Nat) : Int) < (s.size : Int) := by omega
                have HPB2 := Lib.hid hpb
                clear hpb hat1
                generalize hkm : k - 1 = km at *
                generalize hb : s[km].toNat = b at *
                by_cases hb32 : b = 32
                · subst hb32
                  have HE := Lib.hid (HFIN.out k (by rw [HI2.out, HPB2.out]; simp [cutN]))
                  gi_upto_region 13 with fail
                  refine E_regionW (S := (fun _ => True)) 10 (by kernel_rfl) (by kernel_rfl) trivial (fun Q' hQ hK' hHeld => ?_)
                  refine E_take0 hQ (fun _ => hHeld) 0 (v := ?cqv1) rfl rfl (by kernel_rfl) (by kernel_rfl) (by kernel_rfl) (by decide) (by rfl) ?cqy1 ?cqr1
                  case cqy1 => (intro w; go_simp; (try with_reducible rfl))
                  (try simp only [layE])
                  refine E_take0 hQ (fun _ => hHeld) 1 (v := .bool false) rfl rfl (by kernel_rfl) (by kernel_rfl) (by kernel_rfl) (by decide) (by rfl) ?cqy2 ?cqr2
                  case cqy2 => (intro w; go_simp; (try (first | (with_reducible rfl) | rw [ek0] | simp [ek0])))
                  (try simp only [layE])
                  refine E_take0 hQ (fun _ => hHeld) 2 (v := ?cqv3) rfl rfl (by kernel_rfl) (by kernel_rfl) (by kernel_rfl) (by decide) (by rfl) ?cqy3 ?cqr3
                  case cqy3 => (intro w; go_simp; (try with_reducible rfl))
                  (try simp only [layE])
                  refine E_take0 hQ (fun _ => hHeld) 3 (v := ?cqv4) rfl rfl (by kernel_rfl) (by kernel_rfl) (by kernel_rfl) (by decide) (by rfl) ?cqy4 ?cqr4
                  case cqy4 => (intro w; go_simp; (try with_reducible rfl))
                  (try simp only [layE])
                  refine E_take0 hQ (fun _ => hHeld) 4 (v := ?cqv5) rfl rfl (by kernel_rfl) (by kernel_rfl) (by kernel_rfl) (by decide) (by rfl) ?cqy5 ?cqr5
                  case cqy5 => (intro w; go_simp; (try with_reducible rfl))
                  (try simp only [layE])
                  refine E_take0 hQ (fun _ => hHeld) 5 (v := ?cqv6) rfl rfl (by kernel_rfl) (by kernel_rfl) (by kernel_rfl) (by decide) (by rfl) ?cqy6 ?cqr6
                  case cqy6 => (intro w; go_simp; (try with_reducible rfl))
                  (try simp only [layE])
                  refine E_take0 hQ (fun _ => hHeld) 6 (v := ?cqv7) rfl rfl (by kernel_rfl) (by kernel_rfl) (by kernel_rfl) (by decide) (by rfl) ?cqy7 ?cqr7
                  case cqy7 => (intro w; go_simp; (try with_reducible rfl))
                  (try simp only [layE])
                  refine E_take0 hQ (fun _ => hHeld) 7 (v := .int .u8 32) rfl rfl (by kernel_rfl) (by kernel_rfl) (by kernel_rfl) (by decide) (by rfl) ?cqy8 ?cqr8
                  case cqy8 => (intro w; go_simp; (try rfl))
                  (try simp only [layE])
                  refine E_take0 hQ (fun _ => hHeld) 8 (v := ?cqv9) rfl rfl (by kernel_rfl) (by kernel_rfl) (by kernel_rfl) (by decide) (by rfl) ?cqy9 ?cqr9
                  case cqy9 => (intro w; go_simp; (try with_reducible rfl))
                  (try simp only [layE])
                  refine E_take0 hQ (fun _ => hHeld) 9 (v := ?cqv10) rfl rfl (by kernel_rfl) (by kernel_rfl) (by kernel_rfl) (by decide) (by rfl) ?cqy10 ?cqr10
                  case cqy10 => (intro w; go_simp; (try with_reducible rfl))
                  (try simp only [layE])
                  refine E_one 10 (by kernel_rfl) rfl (by rfl) (fun K hK => ?_)
                  go_simp
                  (try simp only [layE])
                  refine hK.out _ _ (fun _ h => absurd rfl h) (fun _ => ?_)
                  clear hK hHeld
                  (try simp only [layE])
                  refine E_done (by kernel_rfl) ?_ _
                  refine hK'.out _ _ ?_
                  gi_wp2_with fail
                  refine callsIn_wide.2 ?_
                  refine (trimR_any _ 32 (by decide) _ (by first | omega | (simp; done) | (simp; omega))).mono ?_
                  rintro e w1 ⟨rfl, rfl⟩
                  rw [HE.out]
                  gi_wp2
                  rw [Exit.noGoto_ret]
                  gi_wp2
                  go_ret
                  exact ⟨rfl, HB.out.drew⟩
                · have e32 : ((b : Int) == 32) = false := by simp; omega
                  gi_upto_region 13 with fail
                  refine E_regionW (S := (fun _ => True)) 10 (by kernel_rfl) (by kernel_rfl) trivial (fun Q' hQ hK' hHeld => ?_)
                  refine E_take0 hQ (fun _ => hHeld) 0 (v := ?dqv1) rfl rfl (by kernel_rfl) (by kernel_rfl) (by kernel_rfl) (by decide) (by rfl) ?dqy1 ?dqr1
                  case dqy1 => (intro w; go_simp; (try with_reducible rfl))
                  (try simp only [layE])
                  refine E_take0 hQ (fun _ => hHeld) 1 (v := .bool false) rfl rfl (by kernel_rfl) (by kernel_rfl) (by kernel_rfl) (by decide) (by rfl) ?dqy2 ?dqr2
                  case dqy2 => (intro w; go_simp; (try (first | (with_reducible rfl) | rw [ek0] | simp [ek0])))
                  (try simp only [layE])
                  refine E_take0 hQ (fun _ => hHeld) 2 (v := ?dqv3) rfl rfl (by kernel_rfl) (by kernel_rfl) (by kernel_rfl) (by decide) (by rfl) ?dqy3 ?dqr3
                  case dqy3 => (intro w; go_simp; (try with_reducible rfl))
                  (try simp only [layE])
                  refine E_take0 hQ (fun _ => hHeld) 3 (v := ?dqv4) rfl rfl (by kernel_rfl) (by kernel_rfl) (by kernel_rfl) (by decide) (by rfl) ?dqy4 ?dqr4
                  case dqy4 => (intro w; go_simp; (try with_reducible rfl))
                  (try simp only [layE])
                  refine E_take0 hQ (fun _ => hHeld) 4 (v := ?dqv5) rfl rfl (by kernel_rfl) (by kernel_rfl) (by kernel_rfl) (by decide) (by rfl) ?dqy5 ?dqr5
                  case dqy5 => (intro w; go_simp; (try with_reducible rfl))
                  (try simp only [layE])
                  refine E_take0 hQ (fun _ => hHeld) 5 (v := ?dqv6) rfl rfl (by kernel_rfl) (by kernel_rfl) (by kernel_rfl) (by decide) (by rfl) ?dqy6 ?dqr6
                  case dqy6 => (intro w; go_simp; (try with_reducible rfl))
                  (try simp only [layE])
                  refine E_take0 hQ (fun _ => hHeld) 6 (v := ?dqv7) rfl rfl (by kernel_rfl) (by kernel_rfl) (by kernel_rfl) (by decide) (by rfl) ?dqy7 ?dqr7
                  case dqy7 => (intro w; go_simp; (try with_reducible rfl))
                  (try simp only [layE])
                  refine E_take0 hQ (fun _ => hHeld) 7 (v := .int .u8 32) rfl rfl (by kernel_rfl) (by kernel_rfl) (by kernel_rfl) (by decide) (by rfl) ?dqy8 ?dqr8
                  case dqy8 => (intro w; go_simp; (try rfl))
                  (try simp only [layE])
                  refine E_take0 hQ (fun _ => hHeld) 8 (v := ?dqv9) rfl rfl (by kernel_rfl) (by kernel_rfl) (by kernel_rfl) (by decide) (by rfl) ?dqy9 ?dqr9
                  case dqy9 => (intro w; go_simp; (try with_reducible rfl))
                  (try simp only [layE])
                  refine E_take0 hQ (fun _ => hHeld) 9 (v := ?dqv10) rfl rfl (by kernel_rfl) (by kernel_rfl) (by kernel_rfl) (by decide) (by rfl) ?dqy10 ?dqr10
                  case dqy10 => (intro w; go_simp; (try with_reducible rfl))
                  (try simp only [layE])
                  refine E_one 10 (by kernel_rfl) rfl (by rfl) (fun K hK => ?_)
                  go_simp
                  (try simp only [layE])
                  refine hK.out _ _ (fun _ h => absurd rfl h) (fun _ => ?_)
                  clear hK hHeld
                  (try simp only [layE])
                  refine E_done (by kernel_rfl) ?_ _
                  refine hK'.out _ _ ?_
                  gi_wp2_with fail
                  gi_roundg (s.size + 1 - (k + 1))
                  case measure => omega
                  case rel => exact ⟨k + 1, false, false, by omega, by omega, by go_num, rfl, rfl, rfl, Lib.hid (HN.out _ _ (by rw [cutN, if_neg (by decide), if_neg (by decide), if_neg (by decide), if_neg (by decide), HPB2.out, if_neg (by simp [hb32]), HP2.out])), Lib.hid HB.out.drew⟩
            · have e35 : ((c : Int) == 35) = false := by simp; omega
              gi_wp2_with fail
              gi_roundg (s.size + 1 - (k + 1))
              case measure => omega
              case rel => exact ⟨k + 1, false, false, by omega, by omega, by go_num, rfl, rfl, rfl, Lib.hid (HN.out _ _ (by rw [cutN, if_neg (by decide), if_neg (by simp), if_neg h34, if_pos (by simp [h35]), HP2.out])), HB⟩
    · have hk1 : ¬ (k : Int) < (s.size : Int) := by omega
      have d1 : decide ((k : Int) < (s.size : Int)) = false := decide_eq_false (by omega)
      have hke : k = s.size := by omega
      have hI := HI.out
      rw [List.drop_eq_nil_of_le (by omega)] at hI
      have hE := HFIN.out s.size (by rw [hI, cutN]; omega)
      rw [ByteArray.extract_zero_size] at hE
      have HE := Lib.hid hE
      clear hI HI hE
      gi_wp2_with fail
      refine callsIn_wide.2 ?_
      refine (trimR_any _ 32 (by decide) _ (by first | omega | (simp; done) | (simp; omega))).mono ?_
      rintro e w1 ⟨rfl, rfl⟩
      rw [HE.out]
      gi_wp2
      rw [Exit.noGoto_ret]
      gi_wp2
      go_ret
      exact ⟨rfl, HB.out⟩
end Go.Proofs.YtdhgcgejdoedbaaGreatDoor

/-
  strings.Lines: contract of its iterator.
-/
namespace Go.Proofs.YtdhgcgejdoedbaaGreatDoor
open Go.RowKit Go.WideShapes
attribute [local go_sem] Oper.semAt_some wide_fn wide_depth wide_fn' wide_depth'

def chunksN : List Nat → List (List Nat)
  | [] => []
  | c :: l => if c = 10 then [10] :: chunksN l else match chunksN l with | [] => [[c]] | x :: xs => (c :: x) :: xs
theorem chunks_none : ∀ (l : List Nat), l ≠ [] → 10 ∉ l → chunksN l = [l]
  | [], h, _ => absurd rfl h
  | c :: l, _, h => by
    have hc : c ≠ 10 := fun e => h (by simp [e])
    rw [chunksN, if_neg hc]
    cases l with
    | nil => rfl
    | cons d t => rw [chunks_none (d :: t) (by simp) (fun h2 => h (by simp [h2]))]
theorem chunks_idx : ∀ (l : List UInt8), (Lib.indexByte l 10 < 0 → 10 ∉ l.map UInt8.toNat) ∧ ∀ i : Nat, Lib.indexByte l 10 = i → i < l.length ∧ chunksN (l.map UInt8.toNat) = (l.map UInt8.toNat).take (i + 1) :: chunksN ((l.map UInt8.toNat).drop (i + 1))
  | [] => ⟨fun _ => by simp, fun i h => absurd h (by simp [Lib.indexByte])⟩
  | c :: l => by
    obtain ⟨h1, h2⟩ := chunks_idx l
    have hge := Lib.indexByte_ge l 10
    by_cases hc : c = 10
    · subst hc
      refine ⟨fun h => absurd h (by simp [Lib.indexByte]), fun i h => ?_⟩
      have h0 : i = 0 := by simp [Lib.indexByte] at h; omega
      subst h0
      refine ⟨by simp, ?_⟩
      simp [chunksN]
    · have hn : c.toNat ≠ 10 := fun e => hc (UInt8.toNat_inj.1 (by simpa using e))
      have hb : (c == 10) = false := by simpa using hc
      refine ⟨fun h => ?_, fun i h => ?_⟩
      · unfold Lib.indexByte at h
        rw [hb, if_neg (by decide)] at h
        split at h
        · rename_i h3
          have h3' : Lib.indexByte l 10 = -1 := by simpa using h3
          have := h1 (by omega)
          intro h4
          rw [List.map_cons] at h4
          rcases List.mem_cons.1 h4 with h5 | h5
          · exact hn h5.symm
          · exact this h5
        · rename_i h3
          have h3' : Lib.indexByte l 10 ≠ -1 := by simpa using h3
          omega
      · unfold Lib.indexByte at h
        rw [hb, if_neg (by decide)] at h
        split at h
        · omega
        · rename_i h3
          have h3' : Lib.indexByte l 10 ≠ -1 := by simpa using h3
          obtain ⟨j, hj⟩ : ∃ j : Nat, Lib.indexByte l 10 = j := ⟨(Lib.indexByte l 10).toNat, by omega⟩
          obtain rfl : i = j + 1 := by omega
          obtain ⟨h4, h5⟩ := h2 j hj
          refine ⟨by simp; omega, ?_⟩
          rw [List.map_cons, chunksN, if_neg hn, h5]
          simp
def barN (t : List Nat) : List Nat := t.filter fun c => decide (c ≠ 10)
theorem lines_chunks : ∀ l : List Nat, linesN l = (chunksN l).map barN
  | [] => rfl
  | c :: l => by
    have ih := lines_chunks l
    rw [linesN, chunksN]
    by_cases hc : c = 10
    · rw [if_pos hc, if_pos hc, ih]; simp [barN]
    · rw [if_neg hc, if_neg hc, ih]
      cases chunksN l with
      | nil => simp [barN, hc]
      | cons x xs => simp [barN, hc]
theorem chunk_form : ∀ (l t : List Nat), t ∈ chunksN l → (∃ a, t = a ++ [10] ∧ 10 ∉ a) ∨ 10 ∉ t
  | [], t, h => by simp [chunksN] at h
  | c :: l, t, h => by
    have ih := chunk_form l
    rw [chunksN] at h
    by_cases hc : c = 10
    · rw [if_pos hc] at h
      rcases List.mem_cons.1 h with rfl | h
      · exact .inl ⟨[], rfl, by simp⟩
      · exact ih t h
    · rw [if_neg hc] at h
      split at h
      · right
        obtain rfl : t = [c] := by simpa using h
        simpa using fun e => hc e.symm
      · rename_i x xs hx
        rcases List.mem_cons.1 h with rfl | h
        · rcases ih x (by rw [hx]; simp) with ⟨a, rfl, ha⟩ | ha
          · exact .inl ⟨c :: a, rfl, by simp only [List.mem_cons, not_or]; exact ⟨fun e => hc e.symm, ha⟩⟩
          · exact .inr (by simp only [List.mem_cons, not_or]; exact ⟨fun e => hc e.symm, ha⟩)
        · exact ih t (by rw [hx]; simp [h])
theorem chunks_sub : ∀ (l t : List Nat), t ∈ chunksN l → ∀ c ∈ t, c ∈ l
  | [], t, h, c, _ => by simp [chunksN] at h
  | b :: l, t, h, c, hc => by
    have ih := chunks_sub l
    rw [chunksN] at h
    by_cases hb : b = 10
    · rw [if_pos hb] at h
      rcases List.mem_cons.1 h with rfl | h
      · rw [hb]; simp at hc; simp [hc]
      · exact List.mem_cons_of_mem _ (ih t h c hc)
    · rw [if_neg hb] at h
      split at h
      · obtain rfl : t = [b] := by simpa using h
        simp at hc; simp [hc]
      · rename_i x xs hx
        rcases List.mem_cons.1 h with rfl | h
        · rcases List.mem_cons.1 hc with rfl | hc
          · simp
          · exact List.mem_cons_of_mem _ (ih x (by rw [hx]; simp) c hc)
        · exact List.mem_cons_of_mem _ (ih t (by rw [hx]; simp [h]) c hc)
theorem chunk_len : ∀ (l t : List Nat), t ∈ chunksN l → t.length ≤ l.length
  | [], t, h => by simp [chunksN] at h
  | b :: l, t, h => by
    have ih := chunk_len l
    rw [chunksN] at h
    by_cases hb : b = 10
    · rw [if_pos hb] at h
      rcases List.mem_cons.1 h with rfl | h
      · simp
      · have := ih t h; simp; omega
    · rw [if_neg hb] at h
      split at h
      · obtain rfl : t = [b] := by simpa using h
        simp
      · rename_i x xs hx
        rcases List.mem_cons.1 h with rfl | h
        · have := ih x (by rw [hx]; simp); simp; omega
        · have := ih t (by rw [hx]; simp [h]); simp; omega
theorem chunks_len : ∀ l : List Nat, (chunksN l).length ≤ l.length := fun l => by
  have := linesN_len l
  rw [lines_chunks, List.length_map] at this; exact this
theorem chunk_step (cur : ByteArray) (q : Int) (hq : Lib.indexByte cur.data.toList 10 = q) (hne : bsN cur ≠ []) :
    (q < 0 ∧ chunksN (bsN cur) = [bsN cur]) ∨ ∃ i : Nat, q = i ∧ i < cur.size ∧ chunksN (bsN cur) = bsN (cur.extract 0 (i + 1)) :: chunksN (bsN (cur.extract (i + 1) cur.size)) := by
  obtain ⟨h1, h2⟩ := chunks_idx cur.data.toList
  by_cases h : q < 0
  · exact .inl ⟨h, chunks_none _ hne (h1 (by omega))⟩
  · obtain ⟨i, rfl⟩ : ∃ i : Nat, q = i := ⟨q.toNat, by omega⟩
    obtain ⟨h3, h4⟩ := h2 i hq
    have h3' : i < cur.size := by simpa using h3
    refine .inr ⟨i, rfl, h3', ?_⟩
    rw [bsN_extract, bsN_extract, List.take_of_length_le (l := (bsN cur).drop (i + 1)) (by simp [bsN_len])]
    exact h4

theorem wrap_succ (i : Nat) (h : i ≤ 4611686018427387904) : wrap64 ((i : Int) + 1) = ((i + 1 : Nat) : Int) ∧ IntKind.i64.wrap ((i : Int) + 1) = ((i + 1 : Nat) : Int) :=
  ⟨by unfold wrap64; omega, (IntWalk.i64_in ((i : Int) + 1) (by omega)).trans (by omega)⟩
theorem sLines_any (s : ByteArray) (w : World) :
    Calls Tryz.prog 58 #[.string s] w fun e w' => e = .returned (.func (.func 82) #[] #[.pointer (some ⟨w.heap.size, 0, none⟩)]) ∧ w.alloc (.cells #[.string s] 9) = w' := by
  go_enter Tryz.func58, Tryz.ntmps58
  go_wp2
  go_ret
  exact ⟨rfl, rfl⟩
def encCh (t : List Nat) : Array Value := #[.string (mkS t)]

set_option maxRecDepth 100000 in
set_option maxHeartbeats 4000000 in
theorem sLines_iter (s : ByteArray) (n0 B : Nat) (w : World) (hs : s.size ≤ 1073741824) (hB : n0 ≤ B) (hbn : Boxed w B 9 (.string s)) :
    IterAt Tryz.prog n0 82 #[.pointer (some ⟨B, 0, none⟩)] encCh (chunksN (bsN s)) True (fun j => j = B) w := by
  intro l J Jx W _ hS hn0 hbl hJ hJx hY h0
  have hbn' : Boxed W B 9 (.string s) := (hbl.block B hbn.lt).trans hbn
  have HY := Lib.hid hY
  have HS := Lib.hid hS
  have HJ := Lib.hid hJ
  have HIX := Lib.hid (fun (a : ByteArray) w => strIdx_any a 10 w)
  clear hY hS hJ hJx
  refine callsIn_of_wp Tryz.func82 rfl trivial ?_ rfl
  simp only [Tryz.ntmps82, List.size_toArray, List.length_cons, List.length_nil, Nat.reduceAdd, Nat.reduceSub, Array.replicate_succ, Array.replicate_zero, List.push_toArray, List.append_toArray, List.nil_append, List.cons_append]
  gi_wp2_with fail
  gi_loopg [] ((chunksN (bsN s)).length + 1) (fun g wr => ∃ (S : Nat → Prop) (pre : List (List Nat)) (cur : ByteArray), pre.length + g = (chunksN (bsN s)).length + 1 ∧ Hid (chunksN (bsN s) = pre ++ chunksN (bsN cur)) ∧ cur.size ≤ 1073741824 ∧ Hid (∀ j, S j → n0 ≤ j ∧ j < wr.heap.size) ∧ S B ∧ Boxed wr B 9 (.string cur) ∧ J S pre wr)
  case atStart =>
    exact ⟨_, [], s, by simp, Lib.hid rfl, hs, HS, rfl, hbn', h0⟩
  case round =>
    obtain ⟨S, pre, cur, hgk, HC, hcs, hSb, hSB, hb1, hJs⟩ := hrel
    have q1 := hb1.cell
    have q2 := hb1.frozen
    have hlen := bsN_len cur
    by_cases hz : cur.size = 0
    · have hnil : bsN cur = [] := List.length_eq_zero_iff.1 (by omega)
      have d1 : decide (0 < (cur.size : Int)) = false := decide_eq_false (by omega)
      have d2 : ¬ 0 < (cur.size : Int) := by omega
      have hE := HC.out
      rw [hnil] at hE
      have HE : Hid (chunksN (bsN s) = pre) := Lib.hid (by rw [hE]; simp [chunksN])
      clear hE hz
      gi_wp2_with fail
      go_end0
      exact ⟨⟨_, rfl⟩, S, hSb.out, .inl (by rw [HE.out]; exact hJs)⟩
    · have d1 : decide (0 < (cur.size : Int)) = true := decide_eq_true (by omega)
      have d2 : 0 < (cur.size : Int) := by omega
      have hne : bsN cur ≠ [] := fun h => hz (by rw [← hlen, h]; rfl)
      obtain ⟨q, hq⟩ : ∃ q, Lib.indexByte cur.data.toList 10 = q := ⟨_, rfl⟩
      have hst := chunk_step cur q hq hne
      have hix : ∀ w, Calls Tryz.prog 83 #[.string cur, .int .u8 10] w fun e w' => e = .returned (.int .i64 q) ∧ w' = w := fun w => by
        have := HIX.out cur w
        rw [show (10 : Int).toNat.toUInt8 = 10 from rfl, hq] at this; exact this
      have HX := Lib.hid hix
      clear hix hz hq
      rcases hst with ⟨hq0, hch⟩ | ⟨i, rfl, hi, hch⟩
      · have d3 : decide (0 ≤ q) = false := decide_eq_false (by omega)
        have HX1 : Hid (chunksN (bsN s) = pre ++ [bsN cur]) := Lib.hid (by rw [HC.out, hch])
        clear hch
        gi_wp2_with fail
        refine callsIn_wide.2 ?_
        refine (HX.out _).mono ?_
        rintro e w1 ⟨rfl, rfl⟩
        gi_wp2_with fail
        have hst1 : Step n0 S S w1 (w1.setCell ⟨B, 0, none⟩ (.string { data := #[] })) := Step.setCell _ hSB hB
        have hJ1 := HJ.out _ _ _ _ _ hSb.out hJs hst1
        have hb2 : Boxed (w1.setCell ⟨B, 0, none⟩ (.string { data := #[] })) B 9 (.string { data := #[] }) := hb1.set _
        have hSb2 : Hid (∀ j, S j → n0 ≤ j ∧ j < (w1.setCell ⟨B, 0, none⟩ (.string { data := #[] })).heap.size) := Lib.hid (fun j hj => by have := hSb.out j hj; have := hst1.below.size; omega)
        generalize w1.setCell ⟨B, 0, none⟩ (.string { data := #[] }) = w2 at *
        obtain ⟨fn, tmps, assign, body, hy, hR⟩ := HY.out S pre (bsN cur) w2 hSb2.out hJ1 (by rw [← HX1.out]; exact List.prefix_refl _)
        dsimp only [encCh] at hy
        rw [mkS_bsN] at hy
        gi_wp2_with fail
        rw [hy]
        gi_wp2_with fail
        refine hR.mono ?_
        rintro e W' (⟨rfl, hJ', hk'⟩ | ⟨rfl, hJ', hk'⟩)
        · have hb3 : Boxed W' B 9 (.string { data := #[] }) := (hk'.same B hSB).trans hb2
          clear hy hR q1 q2 hb1 hb2
          gi_wp2_with fail
          gi_roundg ((chunksN (bsN s)).length + 1 - (pre ++ [bsN cur]).length)
          case measure => have := congrArg List.length HX1.out; simp at this ⊢; omega
          case rel => exact ⟨S, pre ++ [bsN cur], { data := #[] }, by have := congrArg List.length HX1.out; simp at this ⊢; omega, Lib.hid (by rw [HX1.out]; simp [bsN, chunksN]), Nat.zero_le _, Lib.hid (fun j hj => by have := hSb2.out j hj; have := hk'.below.size; omega), hSB, hb3, hJ'⟩
        · clear hy hR q1 q2 hb1 hb2
          gi_wp2_with fail
          refine bodyPost_ret (results_none rfl _ _ _) rfl ?_
          exact ⟨⟨_, rfl⟩, S, (fun j hj => by have := hSb2.out j hj; have := hk'.below.size; omega), .inr ⟨_, by rw [HX1.out]; exact List.prefix_refl _, hJ'⟩⟩
      · have d3 : decide (0 ≤ (i : Int)) = true := decide_eq_true (by omega)
        have HX1 : Hid (chunksN (bsN s) = (pre ++ [bsN (cur.extract 0 (i + 1))]) ++ chunksN (bsN (cur.extract (i + 1) cur.size))) := Lib.hid (by rw [HC.out, hch]; simp)
        have hl1 : ((i + 1 : Nat) : Int) ≤ (cur.size : Int) := by omega
        have hl0 : (0 : Int) ≤ ((i + 1 : Nat) : Int) := by omega
        have hcz : (cur.extract (i + 1) cur.size).size ≤ 1073741824 := by rw [← bsN_len, bsN_extract]; simp [bsN_len]; omega
        clear hch
        obtain ⟨hw1, hw2⟩ := wrap_succ i (by omega)
        gi_wp2_with fail
        refine callsIn_wide.2 ?_
        refine (HX.out _).mono ?_
        rintro e w1 ⟨rfl, rfl⟩
        generalize i + 1 = m at *
        gi_upto_region 4 with fail
        refine E_regionW (S := (fun W => W.cell? ⟨B, 0, none⟩ = some (.string cur) ∧ W.frozen? ⟨B, 0, none⟩ = false)) 9 (by kernel_rfl) (by kernel_rfl) ⟨q1, q2⟩ (fun Q' hQ hK' hHeld => ?_)
        refine E_take hQ hHeld 0 (v := ?lv1) rfl rfl (by kernel_rfl) (by kernel_rfl) (by kernel_rfl) (by kernel_rfl) (by kernel_rfl) (by rfl) ?ly1 ?lr1
        case ly1 => (intro w hSw; (try dsimp only at hSw); go_simp; (try with_reducible rfl))
        (try simp only [layE])
        refine E_take0 hQ (fun _ => hHeld) 1 (v := ?lv2) rfl rfl (by kernel_rfl) (by kernel_rfl) (by kernel_rfl) (by decide) (by rfl) ?ly2 ?lr2
        case ly2 => (intro w; go_simp; (try with_reducible rfl))
        (try simp only [layE])
        refine E_take0 hQ (fun _ => hHeld) 2 (v := ?lv3) rfl rfl (by kernel_rfl) (by kernel_rfl) (by kernel_rfl) (by decide) (by rfl) ?ly3 ?lr3
        case ly3 => (intro w; go_simp; (try with_reducible rfl))
        (try simp only [layE])
        refine E_take0 hQ (fun _ => hHeld) 3 (v := ?lv4) rfl rfl (by kernel_rfl) (by kernel_rfl) (by kernel_rfl) (by decide) (by rfl) ?ly4 ?lr4
        case ly4 => (intro w; go_simp; (try with_reducible rfl))
        (try simp only [layE])
        refine E_take hQ hHeld 4 (v := ?lv5) rfl rfl (by kernel_rfl) (by kernel_rfl) (by kernel_rfl) (by kernel_rfl) (by kernel_rfl) (by rfl) ?ly5 ?lr5
        case ly5 => (intro w hSw; (try dsimp only at hSw); go_simp; (try with_reducible rfl))
        (try simp only [layE])
        refine E_take0 hQ (fun _ => hHeld) 5 (v := ?lv6) rfl rfl (by kernel_rfl) (by kernel_rfl) (by kernel_rfl) (by decide) (by rfl) ?ly6 ?lr6
        case ly6 => (intro w; go_simp; (try with_reducible rfl))
        (try simp only [layE])
        refine E_take0 hQ (fun _ => hHeld) 6 (v := ?lv7) rfl rfl (by kernel_rfl) (by kernel_rfl) (by kernel_rfl) (by decide) (by rfl) ?ly7 ?lr7
        case ly7 => (intro w; go_simp; (try with_reducible rfl))
        (try simp only [layE])
        refine E_take0 hQ (fun _ => hHeld) 7 (v := ?lv8) rfl rfl (by kernel_rfl) (by kernel_rfl) (by kernel_rfl) (by decide) (by rfl) ?ly8 ?lr8
        case ly8 => (intro w; go_simp; (try with_reducible rfl))
        (try simp only [layE])
        refine E_take0 hQ (fun _ => hHeld) 8 (v := ?lv9) rfl rfl (by kernel_rfl) (by kernel_rfl) (by kernel_rfl) (by decide) (by rfl) ?ly9 ?lr9
        case ly9 => (intro w; go_simp; (try with_reducible rfl))
        (try simp only [layE])
        refine E_one 9 (by kernel_rfl) rfl (by rfl) (fun K hK => ?_)
        have e1 := hHeld.1
        have e2 := hHeld.2
        go_simp
        (try simp only [layE])
        refine hK.out _ _ (fun _ h => absurd rfl h) (fun _ => ?_)
        clear hK hHeld
        (try simp only [layE])
        refine E_done (by kernel_rfl) ?_ _
        refine hK'.out _ _ ?_
        gi_wp2_with fail
        have hst1 : Step n0 S S w1 ((w1.setCell ⟨B, 0, none⟩ (.string (cur.extract m cur.size))).drew) := (Step.setCell _ hSB hB).trans Step.drew
        have hJ1 := HJ.out _ _ _ _ _ hSb.out hJs hst1
        have hb2 : Boxed ((w1.setCell ⟨B, 0, none⟩ (.string (cur.extract m cur.size))).drew) B 9 (.string (cur.extract m cur.size)) := Boxed.set (W := w1) _ hb1
        have hSb2 : Hid (∀ j, S j → n0 ≤ j ∧ j < ((w1.setCell ⟨B, 0, none⟩ (.string (cur.extract m cur.size))).drew).heap.size) := Lib.hid (fun j hj => by have := hSb.out j hj; have := hst1.below.size; omega)
        generalize (w1.setCell ⟨B, 0, none⟩ (.string (cur.extract m cur.size))).drew = w2 at *
        obtain ⟨fn, tmps, assign, body, hy, hR⟩ := HY.out S pre (bsN (cur.extract 0 m)) w2 hSb2.out hJ1 (by rw [HX1.out]; exact List.prefix_append _ _)
        dsimp only [encCh] at hy
        rw [mkS_bsN] at hy
        gi_wp2_with fail
        rw [hy]
        gi_wp2_with fail
        refine hR.mono ?_
        rintro e W' (⟨rfl, hJ', hk'⟩ | ⟨rfl, hJ', hk'⟩)
        · have hb3 : Boxed W' B 9 (.string (cur.extract m cur.size)) := (hk'.same B hSB).trans hb2
          clear hy hR q1 q2 hb1 hb2
          gi_wp2_with fail
          gi_roundg ((chunksN (bsN s)).length + 1 - (pre ++ [bsN (cur.extract 0 m)]).length)
          case measure => have := congrArg List.length HX1.out; simp at this ⊢; omega
          case rel => exact ⟨S, pre ++ [bsN (cur.extract 0 m)], cur.extract m cur.size, by have := congrArg List.length HX1.out; simp at this ⊢; omega, HX1, hcz, Lib.hid (fun j hj => by have := hSb2.out j hj; have := hk'.below.size; omega), hSB, hb3, hJ'⟩
        · clear hy hR q1 q2 hb1 hb2
          gi_wp2_with fail
          refine bodyPost_ret (results_none rfl _ _ _) rfl ?_
          exact ⟨⟨_, rfl⟩, S, (fun j hj => by have := hSb2.out j hj; have := hk'.below.size; omega), .inr ⟨_, by rw [HX1.out]; exact List.prefix_append _ _, hJ'⟩⟩
end Go.Proofs.YtdhgcgejdoedbaaGreatDoor

/-
  line.lines: contract of its iterator.
-/
namespace Go.Proofs.YtdhgcgejdoedbaaGreatDoor
open Go.RowKit Go.WideShapes
attribute [local go_sem] Oper.semAt_some wide_fn wide_depth wide_fn' wide_depth'

def numL : Nat → List (List Nat) → List (Nat × List Nat)
  | _, [] => []
  | n, t :: ts => (n, t) :: numL (n + 1) ts
theorem numL_append : ∀ (a b : List (List Nat)) (n : Nat), numL n (a ++ b) = numL n a ++ numL (n + a.length) b
  | [], b, n => rfl
  | t :: a, b, n => by rw [List.cons_append, numL, numL, numL_append a b, List.length_cons, List.cons_append, show n + 1 + a.length = n + (a.length + 1) by omega]
theorem numL_snoc (a : List (List Nat)) (t : List Nat) (n : Nat) : numL n (a ++ [t]) = numL n a ++ [(n + a.length, t)] := by rw [numL_append]; rfl
theorem numL_prefix {a b : List (List Nat)} (h : a <+: b) (n : Nat) : numL n a <+: numL n b := by
  obtain ⟨c, rfl⟩ := h
  rw [numL_append]; exact List.prefix_append _ _
theorem numL_len : ∀ (a : List (List Nat)) (n : Nat), (numL n a).length = a.length
  | [], _ => rfl
  | t :: a, n => by rw [numL, List.length_cons, List.length_cons, numL_len a]
def encLn (x : Nat × List Nat) : Array Value := #[.int .i64 (x.1 : Nat), .string (mkS x.2)]
theorem barN_none {t : List Nat} (h : 10 ∉ t) : barN t = t := by
  unfold barN
  rw [List.filter_eq_self]
  intro a ha
  exact decide_eq_true (fun e => h (e ▸ ha))
theorem bytes_mkS {t : List Nat} : (mkS t).data.toList = t.map UInt8.ofNat := by simp [mkS]
theorem trim_chunk {l t : List Nat} (hl : AllLt 256 l) (h : t ∈ chunksN l) : (⟨(Lib.trimSuffix (mkS t).data.toList ({ data := #[10] } : ByteArray).data.toList).toArray⟩ : ByteArray) = mkS (barN t) := by
  rw [bytes_mkS]
  show (⟨(Lib.trimSuffix (t.map UInt8.ofNat) [10]).toArray⟩ : ByteArray) = _
  rcases chunk_form l t h with ⟨a, rfl, ha⟩ | ha
  · have hs : Lib.trimSuffix ((a ++ [10]).map UInt8.ofNat) [10] = a.map UInt8.ofNat := by
      unfold Lib.trimSuffix Lib.hasSuffix
      rw [List.map_append]
      have : ([10] : List UInt8).isSuffixOf (a.map UInt8.ofNat ++ [10].map UInt8.ofNat) = true := by
        rw [List.isSuffixOf_iff_suffix]
        exact List.suffix_append _ _
      rw [this, if_pos rfl, List.take_left']
      simp
    rw [hs]
    have : barN (a ++ [10]) = a := by
      unfold barN
      rw [List.filter_append]
      have h1 := barN_none ha
      unfold barN at h1
      rw [h1]; simp
    rw [this]; rfl
  · have hs : Lib.trimSuffix (t.map UInt8.ofNat) [10] = t.map UInt8.ofNat := by
      unfold Lib.trimSuffix Lib.hasSuffix
      have : ([10] : List UInt8).isSuffixOf (t.map UInt8.ofNat) = false := by
        rw [Bool.eq_false_iff]
        intro hc
        rw [List.isSuffixOf_iff_suffix] at hc
        have hm : (10 : UInt8) ∈ t.map UInt8.ofNat := hc.subset (by simp)
        obtain ⟨b, hb, he⟩ := List.mem_map.1 hm
        have hlt := hl b (chunks_sub l t h b hb)
        have : b = 10 := by
          have := congrArg UInt8.toNat he
          simp at this
          omega
        exact ha (this ▸ hb)
      rw [this, if_neg (by decide)]
    rw [hs, barN_none ha]; rfl

theorem lnLines_any (s : ByteArray) (w : World) :
    Calls Tryz.prog 39 #[.string s] w fun e w' => e = .returned (.func (.func 57) #[] #[.pointer (some ⟨w.heap.size, 0, none⟩)]) ∧ w.alloc (.cells #[.string s] 9) = w' := by
  go_enter Tryz.func39, Tryz.ntmps39
  go_wp2
  go_ret
  exact ⟨rfl, rfl⟩

abbrev LnJ (n0 l Y C : Nat) (J : (Nat → Prop) → List (Nat × List Nat) → World → Prop) (S : Nat → Prop) (pre : List (List Nat)) (W : World) : Prop :=
  n0 ≤ W.heap.size ∧ ∃ So : Nat → Prop, (∀ k, S k → So k) ∧ (∀ k, So k → n0 ≤ k ∧ k < W.heap.size) ∧ J So (numL 1 (pre.map barN)) W ∧ (So C ∧ ¬ S C ∧ So Y ∧ ¬ S Y) ∧ Boxed W C 3 (.int .i64 (pre.length : Nat)) ∧ Boxed W Y 109 (.func (.yield l) #[] #[])
abbrev LnX (n0 : Nat) (Jx : (Nat → Prop) → List (Nat × List Nat) → World → Prop) (c : Code) (S : Nat → Prop) (pre : List (List Nat)) (W : World) : Prop :=
  c = .ret ∧ n0 ≤ W.heap.size ∧ ∃ So : Nat → Prop, (∀ k, S k → So k) ∧ (∀ k, So k → n0 ≤ k ∧ k < W.heap.size) ∧ Jx So (numL 1 (pre.map barN)) W
theorem Step.grow {n0 : Nat} {S S' So : Nat → Prop} {W W' : World} (hs : Step n0 S S' W W') (hsub : ∀ k, S k → So k) : Step n0 So (fun k => So k ∨ S' k) W W' :=
  ⟨hs.below, fun k h => .inl h, fun k h => by
    rcases h with h | h
    · exact .inl h
    · rcases hs.new k h with h1 | h1
      · exact .inl (hsub k h1)
      · exact .inr h1, fun k hk hn => hs.same k hk (fun h => hn (hsub k h))⟩
theorem Step.growB {n0 : Nat} {S S' So : Nat → Prop} {W W' : World} (hs : Step n0 S S' W W') (hn : n0 ≤ W.heap.size) (hS : ∀ k, S k → n0 ≤ k ∧ k < W.heap.size) (h2 : ∀ k, So k → n0 ≤ k ∧ k < W.heap.size) : ∀ k, (So k ∨ S' k) → n0 ≤ k ∧ k < W'.heap.size := fun k h => by
  rcases h with h | h
  · have := h2 k h; have := hs.below.size; omega
  · exact hs.bound hn hS k h
theorem LnJ.stable {n0 l Y C : Nat} {J : (Nat → Prop) → List (Nat × List Nat) → World → Prop} (hJ : Stable n0 J) : Stable n0 (LnJ n0 l Y C J) := by
  rintro S S' s W W' hS ⟨h0, So, h1, h2, h3, ⟨h4, h5, h6, h7⟩, h8, h9⟩ hs
  exact ⟨Nat.le_trans h0 hs.below.size, fun k => So k ∨ S' k, fun k h => .inr h, hs.growB h0 hS h2, hJ _ _ _ _ _ h2 h3 (hs.grow h1), ⟨.inl h4, (hs.boxed h8 h5).2, .inl h6, (hs.boxed h9 h7).2⟩, (hs.boxed h8 h5).1, (hs.boxed h9 h7).1⟩
theorem LnX.stable {n0 : Nat} {Jx : (Nat → Prop) → List (Nat × List Nat) → World → Prop} (hJx : Stable n0 Jx) (c : Code) : Stable n0 (LnX n0 Jx c) := by
  rintro S S' s W W' hS ⟨h0, hn, So, h1, h2, h3⟩ hs
  exact ⟨h0, Nat.le_trans hn hs.below.size, fun k => So k ∨ S' k, fun k h => .inr h, hs.growB hn hS h2, hJx _ _ _ _ _ h2 h3 (hs.grow h1)⟩
theorem step3 {n0 : Nat} {W : World} (hn : n0 ≤ W.heap.size) (a b c : Obj) : Step n0 (fun _ => False) (fun k => k = W.heap.size ∨ k = W.heap.size + 1 ∨ k = W.heap.size + 1 + 1) W (((W.alloc a).alloc b).alloc c) := by
  have hb : Below W.heap.size W (((W.alloc a).alloc b).alloc c) := (((Below.refl _ W).alloc (Nat.le_refl _) _).alloc (by simp) _).alloc (by simp; omega) _
  exact ⟨hb.mono hn, fun _ h => h.elim, fun k hk => .inr (by simp; omega), fun k hk _ => hb.block k hk⟩

set_option maxRecDepth 100000 in
set_option maxHeartbeats 4000000 in
theorem lnLines_iter (s : ByteArray) (n0 X : Nat) (w : World) (hs : s.size ≤ 1073741824) (hbn : Boxed w X 9 (.string s)) :
    IterAt Tryz.prog n0 57 #[.pointer (some ⟨X, 0, none⟩)] encLn (numL 1 (linesN (bsN s))) True (fun _ => False) w := by
  intro l J Jx W _ hS hn0 hbl hJ hJx hY h0
  have hbn' : Boxed W X 9 (.string s) := (hbl.block X hbn.lt).trans hbn
  have q0 := hbn'.cell
  have hXl := hbn'.lt
  have hlt := bsN_lt s
  have hcl := chunks_len (bsN s)
  have hzl := bsN_len s
  have HCH := Lib.hid (lines_chunks (bsN s))
  have HTR := Lib.hid (fun t (h : t ∈ chunksN (bsN s)) => trim_chunk hlt h)
  have HCN := Lib.hid (fun t (h : t ∈ chunksN (bsN s)) => chunk_len (bsN s) t h)
  have HY := Lib.hid hY
  have HJ := Lib.hid hJ
  have HJX := Lib.hid hJx
  clear hY hS hlt hJ hJx
  refine callsIn_of_wp_marks Tryz.func57 rfl trivial ?_ rfl
  simp only [Tryz.ntmps57, List.size_toArray, List.length_cons, List.length_nil, Nat.reduceAdd, Nat.reduceSub, Array.replicate_succ, Array.replicate_zero, List.push_toArray, List.append_toArray, List.nil_append, List.cons_append]
  gi_wp2_with fail
  refine callsIn_wide.2 ?_
  refine (sLines_any s _).mono ?_
  rintro e w1 ⟨rfl, rfl⟩
  gi_wp2_with fail
  have hst := step3 hn0 (.cells #[.func (.yield l) #[] #[]] 109) (.cells #[.int .i64 0] 3) (.cells #[.string s] 9)
  have hY4 : Boxed (((W.alloc (.cells #[.func (.yield l) #[] #[]] 109)).alloc (.cells #[.int .i64 0] 3)).alloc (.cells #[.string s] 9)) W.heap.size 109 (.func (.yield l) #[] #[]) := ((Boxed.new W _ _).alloc _).alloc _
  have hC4 : Boxed (((W.alloc (.cells #[.func (.yield l) #[] #[]] 109)).alloc (.cells #[.int .i64 0] 3)).alloc (.cells #[.string s] 9)) (W.heap.size + 1) 3 (.int .i64 0) := by
    have := Boxed.new (W.alloc (.cells #[.func (.yield l) #[] #[]] 109)) 3 (.int .i64 0)
    rw [World.size_alloc] at this
    exact this.alloc _
  have hB4 : Boxed (((W.alloc (.cells #[.func (.yield l) #[] #[]] 109)).alloc (.cells #[.int .i64 0] 3)).alloc (.cells #[.string s] 9)) (W.heap.size + 1 + 1) 9 (.string s) := by
    have := Boxed.new ((W.alloc (.cells #[.func (.yield l) #[] #[]] 109)).alloc (.cells #[.int .i64 0] 3)) 9 (.string s)
    rw [World.size_alloc, World.size_alloc] at this
    exact this
  have hsz : (((W.alloc (.cells #[.func (.yield l) #[] #[]] 109)).alloc (.cells #[.int .i64 0] 3)).alloc (.cells #[.string s] 9)).heap.size = W.heap.size + 3 := by simp
  have hJ4 := HJ.out _ _ _ _ _ (fun k h => h.elim) h0 hst
  generalize (((W.alloc (.cells #[.func (.yield l) #[] #[]] 109)).alloc (.cells #[.int .i64 0] 3)).alloc (.cells #[.string s] 9)) = w4 at *
  have HST := Lib.hid hst
  clear hst h0 q0
  refine' wpIn_rf1 rfl (enters_of Tryz.func82 (by kernel_rfl) rfl) (sLines_iter s n0 (W.heap.size + 1 + 1) w4 hs (by omega) hB4) (by omega) (by rintro j rfl; omega) (fun _ => rfl)
    (LnJ n0 l W.heap.size (W.heap.size + 1) J) (LnX n0 Jx) ?hfin ?hJ ?hJx ?h0 _ ?assign ?body ?done ?stop
  case assign =>
    intro l x W K hK
    dsimp only [encCh]
    gi_wp2
    exact hK
  case hfin => exact fun h => absurd trivial h
  case hJ => exact LnJ.stable HJ.out
  case hJx => exact fun c => LnX.stable HJX.out c
  case h0 => exact ⟨by omega, _, fun k h => .inr (.inr h), fun k h => by omega, hJ4, ⟨.inr (.inl rfl), by omega, .inl rfl, by omega⟩, hC4, hY4⟩
  case body =>
    rintro lp S pre x W1 hS hw hl hlr ⟨hnn, So, hsub, hbd, hJs, ⟨hC, hCn, hYs, hYn⟩, hbc, hby⟩ hpre
    have q1 := hbc.cell
    have q2 := hbc.frozen
    have hxm : x ∈ chunksN (bsN s) := hpre.subset (by simp)
    have htr := HTR.out x hxm
    have hcn := HCN.out x hxm
    have hpl : pre.length + 1 ≤ s.size := by
      have := hpre.length_le
      simp at this; omega
    have hnp : numL 1 (pre.map barN) ++ [(pre.length + 1, barN x)] <+: numL 1 (linesN (bsN s)) := by
      have h1 : (pre ++ [x]).map barN <+: linesN (bsN s) := by
        rw [HCH.out]; exact hpre.map _
      have h2 := numL_prefix h1 1
      rw [List.map_append, List.map_cons, List.map_nil, numL_snoc, List.length_map, Nat.add_comm 1] at h2
      exact h2
    have hne : numL 1 ((pre ++ [x]).map barN) = numL 1 (pre.map barN) ++ [(pre.length + 1, barN x)] := by
      rw [List.map_append, List.map_cons, List.map_nil, numL_snoc, List.length_map, Nat.add_comm 1]
    have hwr : wrap64 ((pre.length : Int) + 1) = ((pre.length + 1 : Nat) : Int) ∧ IntKind.i64.wrap ((pre.length : Int) + 1) = ((pre.length + 1 : Nat) : Int) := wrap_succ _ (by omega)
    obtain ⟨hw1, hw2⟩ := hwr
    have HN := Lib.hid hne
    have HNP := Lib.hid hnp
    have HSB := Lib.hid hsub
    have HBD := Lib.hid hbd
    have HS1 := Lib.hid hS
    clear hnp hne hpre hS hsub hbd
    gi_upto_region 5 with fail
    have hst2 : Step n0 So So W1 (W1.setCell ⟨W.heap.size + 1, 0, none⟩ (.int .i64 ((pre.length : Int) + 1))) := Step.setCell _ hC (Nat.le_trans hn0 (Nat.le_succ _))
    have hst3 : Step n0 So So W1 (W1.setCell ⟨W.heap.size + 1, 0, none⟩ (.int .i64 ((pre.length : Int) + 1))).drew := hst2.trans Step.drew
    have hbc2 : Boxed (W1.setCell ⟨W.heap.size + 1, 0, none⟩ (.int .i64 ((pre.length : Int) + 1))).drew (W.heap.size + 1) 3 (.int .i64 ((pre.length : Int) + 1)) := hbc.set _
    have hby2 : Boxed (W1.setCell ⟨W.heap.size + 1, 0, none⟩ (.int .i64 ((pre.length : Int) + 1))).drew W.heap.size 109 (.func (.yield l) #[] #[]) := Boxed.other hby (by omega) _
    have hJ2 := HJ.out _ _ _ _ _ HBD.out hJs hst3
    have hk2 : ∀ k, S k → (W1.setCell ⟨W.heap.size + 1, 0, none⟩ (.int .i64 ((pre.length : Int) + 1))).drew.heap[k]? = W1.heap[k]? := fun k hk => Below.heap_setCell _ _ _ _ (fun e => hCn (by rw [show W.heap.size + 1 = k from e.symm]; exact hk))
    obtain ⟨W3, hW3⟩ : ∃ V, V = (W1.setCell ⟨W.heap.size + 1, 0, none⟩ (.int .i64 ((pre.length : Int) + 1))).drew := ⟨_, rfl⟩
    refine X_region (S := (fun V => V = W3)) 4 (by kernel_rfl) (by kernel_rfl) (fun hQ => ?_)
    rw [← hW3] at hst3 hbc2 hby2 hJ2 hk2 ⊢
    clear hW3
    have q3 := hbc2.cell
    have q4 := hby2.cell
    have HT3 : Hid (∀ W, Calls Tryz.prog 59 #[.string (mkS x), .string { data := #[10] }] W fun e w' => e = .returned (.string (mkS (barN x))) ∧ w' = W) := Lib.hid (fun W => by
      have := trimSuf_any (mkS x) { data := #[10] } W (by rw [mkS_size]; omega)
      rw [htr] at this; exact this)
    obtain ⟨fn, tmps, assign, body, hy, hR⟩ := HY.out So (numL 1 (pre.map barN)) (pre.length + 1, barN x) W3 (fun k hk => by have := HBD.out k hk; have := hst3.below.size; omega) hJ2 HNP.out
    dsimp only [encLn] at hy
    rw [show ((pre.length + 1 : Nat) : Int) = (pre.length : Int) + 1 by omega] at hy
    have HR := Lib.hid hR
    have HST3 := Lib.hid hst3
    have HK2 := Lib.hid hk2
    clear hR hst3 hst2 hk2 htr q1 q2
    refine X_take hQ rfl 0 (v := ?xv0) rfl rfl (by kernel_rfl) (by kernel_rfl) (by kernel_rfl) (by kernel_rfl) (by kernel_rfl) (by rfl) ?xy0 ?xr0
    case xy0 => (rintro w rfl; go_simp; (try with_reducible rfl))
    (try simp only [layE])
    refine X_take hQ rfl 1 (v := ?xv1) rfl rfl (by kernel_rfl) (by kernel_rfl) (by kernel_rfl) (by kernel_rfl) (by kernel_rfl) (by rfl) ?xy1 ?xr1
    case xy1 => (rintro w rfl; go_simp; (try with_reducible rfl))
    (try simp only [layE])
    refine X_take hQ rfl 2 (v := ?xv2) rfl rfl (by kernel_rfl) (by kernel_rfl) (by kernel_rfl) (by kernel_rfl) (by kernel_rfl) (by rfl) ?xy2 ?xr2
    case xy2 => (rintro w rfl; go_simp; (try with_reducible rfl))
    (try simp only [layE])
    refine X_one 3 (by kernel_rfl) rfl (by decide) (by rfl) (fun K hK => ?_)
    go_simp
    refine (HT3.out _).mono ?_
    rintro e w5 ⟨rfl, h5⟩
    obtain rfl := h5.symm
    refine hK.out _ _ rfl (fun _ => ?_)
    clear hK
    (try simp only [layE])
    refine X_last (by kernel_rfl) rfl (by rfl) (fun K hK => ?_)
    refine ⟨fun _ _ => trivial, ?_⟩
    go_simp
    refine HR.out.mono ?_
    rintro e W' (⟨rfl, hJ', hk'⟩ | ⟨rfl, hJ', hk'⟩)
    · refine hK.out _ _ ?_
      clear hK
      (try simp only [layE])
      refine X_after 5 (v := .bool false) (by kernel_rfl) rfl rfl (by kernel_rfl) (by rfl) (fun _ => by kernel_rfl) ?_
      (try simp only [layE])
      refine X_done (by kernel_rfl) ?_ _
      have hsz' := hk'.below.size
      have hkk : Keep n0 S W1 W' := ⟨HST3.out.below.trans hk'.below, fun k hk => (hk'.same k (HSB.out k hk)).trans (HK2.out k hk)⟩
      have hbd' : ∀ k, So k → n0 ≤ k ∧ k < W'.heap.size := fun k hk => by have := HBD.out k hk; have := hkk.below.size; omega
      have hnn' : n0 ≤ W'.heap.size := Nat.le_trans hnn hkk.below.size
      have hbc3 := (hk'.same _ hC).trans hbc2
      have hby3 := (hk'.same _ hYs).trans hby2
      gi_wp2_with fail
      exact ⟨⟨hnn', So, HSB.out, hbd', by rw [HN.out]; exact hJ', ⟨hC, hCn, hYs, hYn⟩, by rw [List.length_append]; exact hbc3, hby3⟩, hkk⟩
    · refine hK.out _ _ ?_
      clear hK
      (try simp only [layE])
      refine X_after 5 (v := .bool true) (by kernel_rfl) rfl rfl (by kernel_rfl) (by rfl) (fun _ => by kernel_rfl) ?_
      (try simp only [layE])
      refine X_done (by kernel_rfl) ?_ _
      have hsz' := hk'.below.size
      have hkk : Keep n0 S W1 W' := ⟨HST3.out.below.trans hk'.below, fun k hk => (hk'.same k (HSB.out k hk)).trans (HK2.out k hk)⟩
      have hbd' : ∀ k, So k → n0 ≤ k ∧ k < W'.heap.size := fun k hk => by have := HBD.out k hk; have := hkk.below.size; omega
      have hnn' : n0 ≤ W'.heap.size := Nat.le_trans hnn hkk.below.size
      gi_wp2_with fail
      exact ⟨⟨rfl, hnn', So, HSB.out, hbd', by rw [HN.out]; exact hJ'⟩, hkk⟩
  case done =>
    rintro D S W1 hD hS hSD ⟨hnn, So, hsub, hbd, hJs, ⟨hC, hCn, hYs, hYn⟩, hbc, hby⟩ hKD
    have hsD := hsub D hSD
    have hbD := hbd D hsD
    have hst := Step.putObj (W := W1) (.deferred none) hsD hbD.1
    have hJe := HJ.out _ _ _ _ _ hbd hJs hst
    rw [← HCH.out] at hJe
    have HE := Lib.hid hJe
    have HBD := Lib.hid hbd
    clear hJe hst hJs hbd hsub hS
    gi_wp2_with fail
    refine ⟨by simp, .inl ⟨_, _, rfl, run_takeDeferred hKD, ?_⟩⟩
    exact ⟨_, results_none rfl _ _ _, ⟨_, rfl⟩, So, (fun k hk => by have := HBD.out k hk; simpa using this), .inl HE.out⟩
  case stop =>
    rintro D c S pre W1 hD hS hSD hpre ⟨rfl, hnn, So, hsub, hbd, hJs⟩ hKD
    have hsD := hsub D hSD
    have hbD := hbd D hsD
    have hst := Step.putObj (W := W1) (.deferred none) hsD hbD.1
    have hJe := HJX.out _ _ _ _ _ hbd hJs hst
    have hpx : numL 1 (pre.map barN) <+: numL 1 (linesN (bsN s)) := by
      rw [HCH.out]; exact numL_prefix (hpre.map _) 1
    have HE := Lib.hid hJe
    have HPX := Lib.hid hpx
    have HBD := Lib.hid hbd
    clear hJe hst hJs hbd hsub hS hpre hpx
    gi_wp2_with fail
    refine ⟨by simp, .inl ⟨_, _, rfl, run_takeDeferred hKD, ?_⟩⟩
    exact ⟨_, results_none rfl _ _ _, ⟨_, rfl⟩, So, (fun k hk => by have := HBD.out k hk; simpa using this), .inr ⟨_, HPX.out, HE.out⟩⟩
end Go.Proofs.YtdhgcgejdoedbaaGreatDoor

/-
  line.odd, check: contracts at texts in which nothing is wrong.
-/
namespace Go.Proofs.YtdhgcgejdoedbaaGreatDoor
open Go.RowKit Go.WideShapes
attribute [local go_sem] Oper.semAt_some wide_fn wide_depth wide_fn' wide_depth'

theorem keepOf {n0 : Nat} {S : Nat → Prop} {W W' : World} (hn : n0 ≤ W.heap.size) (hS : ∀ k, S k → n0 ≤ k ∧ k < W.heap.size) (h : Below W.heap.size W W') : Keep n0 S W W' := ⟨h.mono hn, fun k hk => h.block k (hS k hk).2⟩
def oddR (r : Nat) : Bool := decide (r < 32) || decide (r = 127)
theorem decodeN_first (n b0 b1 b2 b3 : Nat) : (Lib.decodeN n b0 b1 b2 b3).1 = b0 ∨ 128 ≤ (Lib.decodeN n b0 b1 b2 b3).1 := by
  unfold Lib.decodeN
  repeat' split
  all_goals first | (exact .inl rfl) | (right; dsimp only; omega)
theorem rune_even (s : ByteArray) (h : ∀ c ∈ bsN s, evenB c = true) {pos : Nat} (hp : pos < s.size) : oddR (Utf8.decode s pos).1 = false := by
  rw [decode_list]
  have hl : ((bsN s).drop pos)[0]?.getD 0 ∈ bsN s := by
    have h1 : pos < (bsN s).length := by rw [bsN_len]; exact hp
    rw [List.getElem?_drop, Nat.add_zero, List.getElem?_eq_getElem h1]
    exact List.getElem_mem h1
  have he := h _ hl
  unfold evenB at he
  simp only [Bool.and_eq_true, decide_eq_true_eq] at he
  unfold decH
  have hd := decodeN_first ((bsN s).drop pos).length (((bsN s).drop pos)[0]?.getD 0) (((bsN s).drop pos)[1]?.getD 0) (((bsN s).drop pos)[2]?.getD 0) (((bsN s).drop pos)[3]?.getD 0)
  generalize (Lib.decodeN _ _ _ _ _).1 = r at *
  unfold oddR
  simp only [Bool.or_eq_false_iff, decide_eq_false_iff_not]
  omega
theorem idx_even (s : ByteArray) (h : ∀ c ∈ bsN s, evenB c = true) : ∀ (f pos : Nat), Lib.idxFuncFrom oddR true s f pos = -1
  | 0, _ => rfl
  | f + 1, pos => by
    unfold Lib.idxFuncFrom
    split
    · rename_i hp
      rw [rune_even s h hp, if_neg (by decide)]
      exact idx_even s h f _
    · rfl
theorem lnOdd1_any (r : Int) (w : World) :
    Calls Tryz.prog 81 #[.int .i32 r] w fun e w' => e = .returned (.bool (decide (r < 32) || decide (r = 127))) ∧ w' = w := by
  by_cases h : r < 32
  · have d1 : decide (r < 32) = true := decide_eq_true h
    go_enter Tryz.func81, Tryz.ntmps81
    go_wp2_with fail
    go_ret
    rw [d1]; exact ⟨rfl, rfl⟩
  · have d1 : decide (r < 32) = false := decide_eq_false h
    go_enter Tryz.func81, Tryz.ntmps81
    go_wp2_with fail
    go_ret
    exact ⟨rfl, rfl⟩
set_option maxRecDepth 100000 in
theorem lnOdd_any (s : ByteArray) (w : World) (h : ∀ c ∈ bsN s, evenB c = true) :
    Calls Tryz.prog 56 #[.string s] w fun e w' => e = .returned (.bool false) ∧ Below w.heap.size w w' := by
  have hc : ∀ w, Calls Tryz.prog 80 #[.string s, .func (.func 81) #[] #[]] w fun e w' => e = .returned (.bool false) ∧ Below w.heap.size w w' := fun w => by
    have := contF_any 81 #[] (enters_of Tryz.func81 (by kernel_rfl) rfl) oddR s w (fun W x _ => by
      refine (lnOdd1_any (x : Int) W).mono ?_
      rintro e w' ⟨rfl, rfl⟩
      refine ⟨?_, 0, rfl⟩
      unfold oddR
      congr 2
      rw [Bool.eq_iff_iff]
      simp only [Bool.or_eq_true, decide_eq_true_eq]
      omega)
    rw [show Lib.idxFunc oddR true s = -1 from idx_even s h _ _] at this
    exact this
  go_enter Tryz.func56, Tryz.ntmps56
  go_wp2_with fail
  refine (hc _).mono ?_
  rintro e w1 ⟨rfl, hb⟩
  go_wp2_with fail
  go_ret
  exact ⟨rfl, hb⟩

structure FineT (s : ByteArray) : Prop where
  size : s.size ≤ 1048576
  utf : Utf (bsN s)
  even : ∀ t ∈ linesN (bsN s), ∀ c ∈ t, evenB c = true

theorem numL_mem : ∀ (a : List (List Nat)) (n : Nat) (x : Nat × List Nat), x ∈ numL n a → x.2 ∈ a
  | [], _, x, h => by cases h
  | t :: a, n, x, h => by
    rw [numL] at h
    rcases List.mem_cons.1 h with rfl | h
    · simp
    · exact List.mem_cons_of_mem _ (numL_mem a _ x h)
theorem lines_lt (s : ByteArray) {t : List Nat} (h : t ∈ linesN (bsN s)) : AllLt 256 t := fun b hb => bsN_lt s b ((linesN_no (bsN s) t h).2 b hb)
theorem line_len : ∀ (l t : List Nat), t ∈ linesN l → t.length ≤ l.length
  | [], t, h => by simp [linesN] at h
  | b :: l, t, h => by
    have ih := line_len l
    rw [linesN] at h
    by_cases hb : b = 10
    · rw [if_pos hb] at h
      rcases List.mem_cons.1 h with rfl | h
      · simp
      · have := ih t h; simp; omega
    · rw [if_neg hb] at h
      split at h
      · obtain rfl : t = [b] := by simpa using h
        simp
      · rename_i x xs hx
        rcases List.mem_cons.1 h with rfl | h
        · have := ih x (by rw [hx]; simp); simp; omega
        · have := ih t (by rw [hx]; simp [h]); simp; omega
set_option maxRecDepth 100000 in
set_option maxHeartbeats 4000000 in
theorem lnCheck_any (s : ByteArray) (w : World) (h : FineT s) :
    Calls Tryz.prog 38 #[.string s] w fun e w' => e = .returned (.agg #[.int .i64 0, .int .i64 0]) ∧ Below w.heap.size w w' := by
  obtain ⟨hs, hu, hev⟩ := h
  have hf := utf_first hu
  have HF : Hid (∀ w, Calls Tryz.prog 50 #[.string s] w fun e w' => e = .returned (.int .i64 (-1)) ∧ Below w.heap.size w w') := Lib.hid (fun w => by
    have := First_any s w (by omega)
    rw [hf] at this; exact this)
  have HO := Lib.hid (fun (x : Nat × List Nat) (hx : x ∈ numL 1 (linesN (bsN s))) w => lnOdd_any (mkS x.2) w (by
    have := numL_mem _ _ _ hx
    rw [bsN_mkS (lines_lt s this)]
    exact hev _ this))
  have d1 : decide (1048576 < (s.size : Int)) = false := decide_eq_false (by omega)
  clear hf hu hev
  refine (callsIn_wide (n := 0)).1 ?_
  refine callsIn_of_wp_marks Tryz.func38 rfl trivial ?_ rfl
  simp only [Tryz.ntmps38, List.size_toArray, List.length_cons, List.length_nil, Nat.reduceAdd, Nat.reduceSub, Array.replicate_succ, Array.replicate_zero, List.push_toArray, List.append_toArray, List.nil_append, List.cons_append]
  gi_wp2_with fail
  refine callsIn_wide.2 ?_
  refine (HF.out _).mono ?_
  rintro e w1 ⟨rfl, hb1⟩
  have hR1 : w1.heap[w.heap.size]? = some (.cells #[.int .i64 0, .int .i64 0] 33 (0, 0)) := (hb1.block _ (by simp)).trans (World.alloc_heap_new w _)
  have hbw : Below w.heap.size w w1 := ((Below.refl _ w).alloc (Nat.le_refl _) _).trans (hb1.mono (by simp))
  have hsz1 : w.heap.size + 1 ≤ w1.heap.size := by have := hb1.size; simpa using this
  clear hb1
  gi_wp2_with fail
  refine callsIn_wide.2 ?_
  refine (lnLines_any s _).mono ?_
  rintro e w2 ⟨rfl, rfl⟩
  gi_wp2_with fail
  have hX : Boxed (w1.alloc (.cells #[.string s] 9)) w1.heap.size 9 (.string s) := Boxed.new w1 _ _
  have hR2 : (w1.alloc (.cells #[.string s] 9)).heap[w.heap.size]? = some (.cells #[.int .i64 0, .int .i64 0] 33 (0, 0)) := (Below.heap_alloc _ _ _ (by omega)).trans hR1
  have hb2 : Below w.heap.size w (w1.alloc (.cells #[.string s] 9)) := hbw.alloc (by omega) _
  have hsz2 : (w1.alloc (.cells #[.string s] 9)).heap.size = w1.heap.size + 1 := by simp
  generalize w1.alloc (.cells #[.string s] 9) = w4 at *
  have HB2 := Lib.hid hb2
  have HR2 := Lib.hid hR2
  clear hbw hR1 hb2 hR2
  refine' wpIn_rf1 rfl (enters_of Tryz.func57 (by kernel_rfl) rfl) (lnLines_iter s w.heap.size w1.heap.size w4 (by omega) hX) (by omega) (fun k h => h.elim) (fun _ => rfl)
    (fun S _ W => ¬ S w.heap.size ∧ W.heap[w.heap.size]? = some (.cells #[.int .i64 0, .int .i64 0] 33 (0, 0)) ∧ Below w.heap.size w W)
    (fun _ _ _ _ => False) ?hfin ?hJ ?hJx ?h0 _ ?assign ?body ?done ?stop
  case assign =>
    intro l x W K hK
    dsimp only [encLn]
    gi_wp2
    exact hK
  case hfin => exact fun h => absurd trivial h
  case hJ =>
    rintro S S' s W W' hS ⟨h0, h1, h2⟩ hs
    have hlt := (Array.getElem?_eq_some_iff.1 h1).1
    exact ⟨fun h => by rcases hs.new _ h with h | ⟨h, _⟩; exact h0 h; omega, (hs.same _ hlt h0).trans h1, h2.trans hs.below⟩
  case hJx => exact fun _ _ _ _ _ _ _ h _ => h
  case h0 => exact ⟨fun h => h, HR2.out, HB2.out⟩
  case body =>
    rintro l S pre x W hS hw hl hlr ⟨h0, h1, h2⟩ hpre
    have hO := HO.out x (hpre.subset (by simp)) W
    have hlt := (Array.getElem?_eq_some_iff.1 h1).1
    have HW := Lib.hid h1
    have HS := Lib.hid hS
    clear h1 hS hpre
    gi_wp2_with fail
    refine ((callsIn_wide.2 hO).inRound l).mono ?_
    rintro e W' ⟨rfl, hb⟩
    gi_wp2_with fail
    exact ⟨⟨h0, (hb.block _ hlt).trans HW.out, bthen h2 (by omega) hb⟩, keepOf (by omega) HS.out hb⟩
  case done =>
    rintro D S W hD hS hSD ⟨h0, h1, h2⟩ hKD
    obtain ⟨p0, p1, p2, p3⟩ := cells2 h1
    have HS := Lib.hid hS
    have HW := Lib.hid h1
    clear hS h1
    gi_wp2_with fail
    have hS' := HS.out D hSD
    have hne : w.heap.size ≠ D := fun e => h0 (e ▸ hSD)
    have hk2 : ((W.setCell ⟨w.heap.size, 0, none⟩ (.int .i64 0)).setCell ⟨w.heap.size, 1, none⟩ (.int .i64 0)).heap[D]? = some (.deferred (some [])) := by
      rw [Below.heap_setCell _ _ _ _ (fun e => hne e.symm), Below.heap_setCell _ _ _ _ (fun e => hne e.symm)]; exact hKD
    have h5 : ((W.setCell ⟨w.heap.size, 0, none⟩ (.int .i64 0)).setCell ⟨w.heap.size, 1, none⟩ (.int .i64 0)).heap[w.heap.size]? = some (.cells #[.int .i64 0, .int .i64 0] 33 (0, 0)) := by
      have h6 := HW.out
      simp [World.setCell, h6, Array.getElem?_modify]
    have hb5 : Below w.heap.size w ((W.setCell ⟨w.heap.size, 0, none⟩ (.int .i64 0)).setCell ⟨w.heap.size, 1, none⟩ (.int .i64 0)) := (h2.setCell (p := ⟨w.heap.size, 0, none⟩) (Nat.le_refl _) _).setCell (p := ⟨w.heap.size, 1, none⟩) (Nat.le_refl _) _
    generalize ((W.setCell ⟨w.heap.size, 0, none⟩ (.int .i64 0)).setCell ⟨w.heap.size, 1, none⟩ (.int .i64 0)) = W5 at *
    have h7 : (W5.putObj D (.deferred none)).heap[w.heap.size]? = some (.cells #[.int .i64 0, .int .i64 0] 33 (0, 0)) := (World.putObj_heap_other hne).trans h5
    obtain ⟨r0, r1, -, -⟩ := cells2 h7
    refine ⟨by simp, .inl ⟨_, _, rfl, run_takeDeferred hk2, ?_⟩⟩
    exact ⟨.agg #[.int .i64 0, .int .i64 0], by simp [results, Tryz.results38, go_sem, r0, r1], rfl, hb5.trans (below_putObj _ _ (by omega))⟩
  case stop => exact fun _ _ _ _ _ _ _ _ _ h => h.elim
end Go.Proofs.YtdhgcgejdoedbaaGreatDoor

/-
  line.All: contract at a text in which nothing is wrong.
-/
namespace Go.Proofs.YtdhgcgejdoedbaaGreatDoor
open Go.RowKit Go.WideShapes
attribute [local go_sem] Oper.semAt_some wide_fn wide_depth wide_fn' wide_depth'

abbrev LineD := Nat × Nat × List Nat
def lineC (x : LineD) : List Value := [.int .i64 (x.1 : Nat), .int .i64 (x.2.1 : Nat), .string (mkS x.2.2)]
def lineI (x : Nat × List Nat) : List LineD := if trimLN (stripN x.2) = [] then [] else [(x.1, (stripN x.2).length - (trimLN (stripN x.2)).length, trimLN (stripN x.2))]
def allQ (xs : List (Nat × List Nat)) : List LineD := xs.flatMap lineI
theorem allQ_snoc (xs : List (Nat × List Nat)) (x : Nat × List Nat) : allQ (xs ++ [x]) = allQ xs ++ lineI x := by simp [allQ]
theorem allN_q : ∀ (ts : List (List Nat)) (n : Nat), allN n ts = allQ (numL n ts)
  | [], _ => rfl
  | t :: ts, n => by
    rw [allN, numL, allN_q ts]
    unfold allQ
    rw [List.flatMap_cons]
    unfold lineI
    split <;> rfl
theorem allQ_len (xs : List (Nat × List Nat)) : (allQ xs).length ≤ xs.length := by
  induction xs with
  | nil => simp [allQ]
  | cons x xs ih =>
    unfold allQ at *
    rw [List.flatMap_cons, List.length_append, List.length_cons]
    have : (lineI x).length ≤ 1 := by unfold lineI; split <;> simp
    omega
theorem Tryz.info_line : (Tryz.prog.info? 67).map (fun i => (i.zero, i.size, i.bytes)) = some (some (.agg #[.int .i64 0, .int .i64 0, .string { data := #[] }]), 3, 32) := by kernel_rfl
theorem new3 (W : World) (a b c : Value) (t : TypeId) : ∀ j u, [a, b, c][j]? = some u → (W.alloc (.cells #[a, b, c] t)).cell? (Addr.add ⟨W.heap.size, 0, none⟩ j) = some u := by
  intro j u h
  rcases j with _ | _ | _ | j
  · simpa [Addr.add, World.cell?_alloc_new] using h
  · simpa [Addr.add, World.cell?_alloc_new] using h
  · simpa [Addr.add, World.cell?_alloc_new] using h
  · simp at h

theorem own_off {W : World} {base : Nat} {e : TypeId} {size n : Nat} {v : Value} {xs : List Value} {B i : Nat} (x : Value) (h : W.ownsRow base e size v n xs) (hB : B < base) : (W.setCell ⟨B, i, none⟩ x).ownsRow base e size v n xs :=
  ownsRow_keepB h (fun g hg => Below.heap_setCell W ⟨B, i, none⟩ x g (show g ≠ B by have := (h.lt g hg).1; omega))
theorem trimL_mkS {t : List Nat} (h : AllLt 256 t) : (⟨(Lib.trimLeftB (mkS t).data.toList 32).toArray⟩ : ByteArray) = mkS (trimLN t) := by
  refine bsN_ext ?_
  rw [trimL_bytes, bsN_mkS (fun b hb => h b (trimLN_sub t b hb))]
  exact congrArg trimLN (bsN_mkS h)

set_option maxRecDepth 100000 in
set_option maxHeartbeats 4000000 in
theorem lnAll_any (s : ByteArray) (w : World) (h : FineT s) :
    Calls Tryz.prog 21 #[.string s] w fun e w' => ∃ v, e = .returned (.tuple #[v, .agg #[.int .i64 0, .int .i64 0]]) ∧ w'.ownsRow w.heap.size 67 3 v (allN 1 (linesN (bsN s))).length ((allN 1 (linesN (bsN s))).flatMap lineC) ∧ Below w.heap.size w w' := by
  obtain ⟨i0, hi, hz0, hz1, hz2⟩ := info_parts Tryz.info_line
  have hs := h.size
  have HC := Lib.hid (fun w => lnCheck_any s w h)
  have hll := linesN_len (bsN s)
  have hzl := bsN_len s
  have hnl := numL_len (linesN (bsN s)) 1
  have HALT := Lib.hid (fun (x : Nat × List Nat) (hx : x ∈ numL 1 (linesN (bsN s))) => lines_lt s (numL_mem _ _ _ hx))
  have HLEN := Lib.hid (fun (x : Nat × List Nat) (hx : x ∈ numL 1 (linesN (bsN s))) => line_len (bsN s) x.2 (numL_mem _ _ _ hx))
  rw [allN_q]
  refine (callsIn_wide (n := 0)).1 ?_
  refine callsIn_of_wp_marks Tryz.func21 rfl trivial ?_ rfl
  simp only [Tryz.ntmps21, List.size_toArray, List.length_cons, List.length_nil, Nat.reduceAdd, Nat.reduceSub, Array.replicate_succ, Array.replicate_zero, List.push_toArray, List.append_toArray, List.nil_append, List.cons_append]
  gi_wp2_with fail
  refine callsIn_wide.2 ?_
  refine (HC.out _).mono ?_
  rintro e w1 ⟨rfl, hb1⟩
  have hR1 : w1.heap[w.heap.size]? = some (.cells #[.int .i64 0, .int .i64 0] 33 (0, 0)) := (hb1.block _ (by simp)).trans (World.alloc_heap_new w _)
  have hbw : Below w.heap.size w w1 := ((Below.refl _ w).alloc (Nat.le_refl _) _).trans (hb1.mono (by simp))
  have hsz1 : w.heap.size + 1 ≤ w1.heap.size := by have := hb1.size; simpa using this
  clear hb1
  gi_wp2_with fail
  refine callsIn_wide.2 ?_
  refine (lnLines_any s _).mono ?_
  rintro e w2 ⟨rfl, rfl⟩
  gi_wp2_with fail
  have hO4 : Boxed (((w1.alloc (.cells #[.int .i64 0, .int .i64 0] 33)).alloc (.cells #[.slice none 0 0] 59)).alloc (.cells #[.string s] 9)) (w1.heap.size + 1) 59 (.slice none 0 0) := by
    have := Boxed.new (w1.alloc (.cells #[.int .i64 0, .int .i64 0] 33)) 59 (.slice none 0 0)
    rw [World.size_alloc] at this
    exact this.alloc _
  have hX4 : Boxed (((w1.alloc (.cells #[.int .i64 0, .int .i64 0] 33)).alloc (.cells #[.slice none 0 0] 59)).alloc (.cells #[.string s] 9)) (w1.heap.size + 1 + 1) 9 (.string s) := by
    have := Boxed.new ((w1.alloc (.cells #[.int .i64 0, .int .i64 0] 33)).alloc (.cells #[.slice none 0 0] 59)) 9 (.string s)
    rw [World.size_alloc, World.size_alloc] at this
    exact this
  have hR4 : (((w1.alloc (.cells #[.int .i64 0, .int .i64 0] 33)).alloc (.cells #[.slice none 0 0] 59)).alloc (.cells #[.string s] 9)).heap[w.heap.size]? = some (.cells #[.int .i64 0, .int .i64 0] 33 (0, 0)) := (Below.heap_alloc _ _ _ (by simp; omega)).trans ((Below.heap_alloc _ _ _ (by simp; omega)).trans ((Below.heap_alloc _ _ _ (by omega)).trans hR1))
  have hb4 : Below w.heap.size w (((w1.alloc (.cells #[.int .i64 0, .int .i64 0] 33)).alloc (.cells #[.slice none 0 0] 59)).alloc (.cells #[.string s] 9)) := ((hbw.alloc (by omega) _).alloc (by simp; omega) _).alloc (by simp; omega) _
  have hsz4 : (((w1.alloc (.cells #[.int .i64 0, .int .i64 0] 33)).alloc (.cells #[.slice none 0 0] 59)).alloc (.cells #[.string s] 9)).heap.size = w1.heap.size + 3 := by simp
  generalize (((w1.alloc (.cells #[.int .i64 0, .int .i64 0] 33)).alloc (.cells #[.slice none 0 0] 59)).alloc (.cells #[.string s] 9)) = w4 at *
  have HB4 := Lib.hid hb4
  have HR4 := Lib.hid hR4
  clear hbw hR1 hb4 hR4
  generalize hO : w1.heap.size + 1 = O at *
  refine' wpIn_rf1 rfl (enters_of Tryz.func57 (by kernel_rfl) rfl) (lnLines_iter s O (O + 1) w4 (by omega) hX4) (by omega) (fun k h => h.elim) (fun _ => rfl)
    (fun S pre W => ∃ va vc, Boxed W O 59 (.slice va (allQ pre).length vc) ∧ ¬ S O ∧ W.ownsRow O 67 3 (.slice va (allQ pre).length vc) (allQ pre).length ((allQ pre).flatMap lineC) ∧ (∀ g, (Value.slice va (allQ pre).length vc).ownBlock = some g → ¬ S g) ∧ Below O w4 W)
    (fun _ _ _ _ => False) ?hfin ?hJ ?hJx ?h0 _ ?assign ?body ?done ?stop
  case assign =>
    intro l x W K hK
    dsimp only [encLn]
    gi_wp2
    exact hK
  case hfin => exact fun h => absurd trivial h
  case hJ =>
    rintro S S' s W W' hS ⟨va, vc, h0, h1, h2, h3, h4⟩ hs
    exact ⟨va, vc, (hs.boxed h0 h1).1, (hs.boxed h0 h1).2, (hs.owns h2 h3).1, (hs.owns h2 h3).2, h4.trans hs.below⟩
  case hJx => exact fun _ _ _ _ _ _ _ h _ => h
  case h0 => exact ⟨none, 0, hO4, fun h => h, World.ownsRow_nil _ _ _ _, by simp [Value.ownBlock], Below.refl _ _⟩
  case body =>
    rintro l S pre x W hS hw hl hlr ⟨va, vc, h0, h1, h2, h3, h4⟩ hpre
    have hmem := hpre.subset (show x ∈ pre ++ [x] by simp)
    have hlt := HALT.out x hmem
    have hlen := HLEN.out x hmem
    have hpl := hpre.length_le
    rw [List.length_append, hnl, List.length_singleton] at hpl
    have hql := allQ_len pre
    have hzx : (mkS x.2).size ≤ 1073741824 := by rw [mkS_size]; omega
    have HST := Lib.hid (fun w => lnStrip_any (mkS x.2) w hzx)
    rw [bsN_mkS hlt] at HST
    have hst : AllLt 256 (stripN x.2) := fun b hb => hlt b (stripN_sub _ b hb)
    have HTL : Hid (∀ w, Calls Tryz.prog 41 #[.string (mkS (stripN x.2)), .string { data := #[32] }] w fun e w' => e = .returned (.string (mkS (trimLN (stripN x.2)))) ∧ w' = w) := Lib.hid (fun w => by
      have := trimL_any (mkS (stripN x.2)) 32 (by decide) w
      rw [trimL_mkS hst] at this; exact this)
    have hsl := stripN_len x.2
    have htl := trimLN_len (stripN x.2)
    have hzs1 := mkS_size (stripN x.2)
    have hzs2 := mkS_size (trimLN (stripN x.2))
    have hze := mkS_empty (trimLN (stripN x.2))
    have HI : Hid (lineI x = if trimLN (stripN x.2) = [] then [] else [(x.1, (stripN x.2).length - (trimLN (stripN x.2)).length, trimLN (stripN x.2))]) := Lib.hid rfl
    have HQ := Lib.hid (allQ_snoc pre x)
    have HS := Lib.hid hS
    have hW0 : O ≤ W.heap.size := by omega
    clear hS hpre hmem hlt hst
    generalize stripN x.2 = st at *
    generalize trimLN st = ow at *
    gi_wp2_with fail
    refine ((callsIn_wide.2 (HST.out _)).inRound l).mono ?_
    rintro e W2 ⟨rfl, hb2⟩
    gi_wp2_with fail
    refine ((callsIn_wide.2 (HTL.out _)).inRound l).mono ?_
    rintro e W3 ⟨rfl, h3e⟩
    obtain rfl := h3e.symm
    have h0' : Boxed W2 O 59 (.slice va (allQ pre).length vc) := (hb2.block O h0.lt).trans h0
    have h2' := ownsB h2 hb2
    have hW0' : O ≤ W2.heap.size := Nat.le_trans hW0 hb2.size
    have HS2 : Hid (∀ k, S k → O ≤ k ∧ k < W2.heap.size) := Lib.hid (fun k hk => by have := HS.out k hk; have := hb2.size; omega)
    have HK2 := Lib.hid (keepOf hW0 HS.out hb2)
    have h4' := bthen h4 (by omega) hb2
    clear hb2 h0 h2 h4
    have q1 := h0'.cell
    cases hwe : ow.isEmpty with
    | true =>
      have hw0 : ow = [] := List.isEmpty_iff.1 hwe
      have HE : Hid (allQ (pre ++ [x]) = allQ pre) := Lib.hid (by rw [HQ.out, HI.out, if_pos hw0, List.append_nil])
      rw [hwe] at hze
      clear hwe hw0
      gi_wp2_with fail
      refine ⟨?_, HK2.out⟩
      dsimp only
      rw [HE.out]
      exact ⟨va, vc, h0', h1, h2', h3, h4'⟩
    | false =>
      have hw0 : ¬ ow = [] := fun h => by rw [h] at hwe; cases hwe
      have HE : Hid (allQ (pre ++ [x]) = allQ pre ++ [(x.1, st.length - ow.length, ow)]) := Lib.hid (by rw [HQ.out, HI.out, if_neg hw0])
      rw [hwe] at hze
      clear hwe hw0
      have hwr : wrap64 ((st.length : Int) - (ow.length : Int)) = ((st.length - ow.length : Nat) : Int) := by unfold wrap64; omega
      generalize hcol : st.length - ow.length = col at *
      generalize hpq : allQ pre = aq at *
      gi_wp2_with (gi_at_builtin; go_must (refine wpListIn_push rfl _ _ 59 rfl O 67 i0 (.agg #[.int .i64 0, .int .i64 0, .string { data := #[] }]) 3 32 Tryz.underlying59 hi hz0 hz1 hz2 rfl (by decide) _ _ _ rfl (h2'.alloc _) ⟨W2.heap.size, 0, none⟩ 1 1 [_, _, _] rfl rfl (new3 _ _ _ _ _) (by simp [Value.oneCell']) (by unfold maxLen; omega) (by omega) (by simp; omega) ?_; intro v' w5 hown' hgrow hfr; obtain ⟨g', cap', rfl⟩ := ownsRow_succ hown'; obtain ⟨hv1, hv2, hr2, hk2, hn2⟩ := boxed_pushed (n0 := O) (S := S) h0' (by decide) h2' hW0' (Nat.le_refl _) (Nat.le_refl _) HS2.out h1 h3 hown' hgrow hfr; have hc1 := hv1.cell; have hf1 := hv1.frozen))
      have hk3 := HK2.out.trans hk2
      refine ⟨?_, hk3⟩
      dsimp only
      rw [HE.out, List.length_append, List.flatMap_append]
      rw [show ((st.length : Int) - (ow.length : Int)) = (col : Int) by omega] at hr2
      exact ⟨_, _, hv2, h1, hr2, hn2, h4'.trans hk2.below⟩
  case done =>
    rintro D S W hD hS hSD ⟨va, vc, h0, h1, h2, h3, h4⟩ hKD
    have q1 := h0.cell
    have hR : W.heap[w.heap.size]? = some (.cells #[.int .i64 0, .int .i64 0] 33 (0, 0)) := (h4.block _ (by omega)).trans HR4.out
    obtain ⟨p0, p1, p2, p3⟩ := cells2 hR
    have HS := Lib.hid hS
    have HW := Lib.hid hR
    have HO2 := Lib.hid h2
    have HB5 := Lib.hid (HB4.out.trans (h4.mono (by omega)))
    clear hS hR h2 h4
    have hne : w.heap.size ≠ D := by omega
    gi_wp2_with fail
    have hS' := HS.out D hSD
    have hk2 : ((W.setCell ⟨w.heap.size, 0, none⟩ (.int .i64 0)).setCell ⟨w.heap.size, 1, none⟩ (.int .i64 0)).heap[D]? = some (.deferred (some [])) := by
      rw [Below.heap_setCell _ _ _ _ (fun e => hne e.symm), Below.heap_setCell _ _ _ _ (fun e => hne e.symm)]; exact hKD
    have h5 : ((W.setCell ⟨w.heap.size, 0, none⟩ (.int .i64 0)).setCell ⟨w.heap.size, 1, none⟩ (.int .i64 0)).heap[w.heap.size]? = some (.cells #[.int .i64 0, .int .i64 0] 33 (0, 0)) := by
      have h6 := HW.out
      simp [World.setCell, h6, Array.getElem?_modify]
    have hb5 : Below w.heap.size w ((W.setCell ⟨w.heap.size, 0, none⟩ (.int .i64 0)).setCell ⟨w.heap.size, 1, none⟩ (.int .i64 0)) := (HB5.out.setCell (p := ⟨w.heap.size, 0, none⟩) (Nat.le_refl _) _).setCell (p := ⟨w.heap.size, 1, none⟩) (Nat.le_refl _) _
    have ho5 : ((W.setCell ⟨w.heap.size, 0, none⟩ (.int .i64 0)).setCell ⟨w.heap.size, 1, none⟩ (.int .i64 0)).ownsRow O 67 3 (.slice va (allQ (numL 1 (linesN (bsN s)))).length vc) (allQ (numL 1 (linesN (bsN s)))).length ((allQ (numL 1 (linesN (bsN s)))).flatMap lineC) := by
      exact own_off _ (own_off _ HO2.out (by omega)) (by omega)
    generalize ((W.setCell ⟨w.heap.size, 0, none⟩ (.int .i64 0)).setCell ⟨w.heap.size, 1, none⟩ (.int .i64 0)) = W5 at *
    have h7 : (W5.putObj D (.deferred none)).heap[w.heap.size]? = some (.cells #[.int .i64 0, .int .i64 0] 33 (0, 0)) := (World.putObj_heap_other hne).trans h5
    obtain ⟨r0, r1, -, -⟩ := cells2 h7
    refine ⟨by simp, .inl ⟨_, _, rfl, run_takeDeferred hk2, ?_⟩⟩
    exact ⟨.tuple #[.slice va (allQ (numL 1 (linesN (bsN s)))).length vc, .agg #[.int .i64 0, .int .i64 0]], by simp [results, Tryz.results21, go_sem, r0, r1], _, rfl, ownsRow_mono (ownsRow_putObj ho5 _ hk2 rfl) (by omega), hb5.trans (below_putObj _ _ (by omega))⟩
  case stop => exact fun _ _ _ _ _ _ _ _ _ h => h.elim
end Go.Proofs.YtdhgcgejdoedbaaGreatDoor
