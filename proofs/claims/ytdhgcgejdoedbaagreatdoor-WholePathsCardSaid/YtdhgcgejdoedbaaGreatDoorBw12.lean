/-
  Bytes as a text. Conditions: none of the program's.
-/
import Derived.Test.YtdhgcgejdoedbaaGreatDoorRows
import Derived.Laws.IdiomStrings
import Derived.Test.YtdhgcgejdoedbaaGreatDoorBw2
import Derived.Test.YtdhgcgejdoedbaaGreatDoorBw6
namespace Go.Proofs.YtdhgcgejdoedbaaGreatDoor
open Go.RowKit

def mkS (l : List Nat) : ByteArray := ⟨(l.map UInt8.ofNat).toArray⟩
theorem bsN_mkS {l : List Nat} (h : AllLt 256 l) : bsN (mkS l) = l := by
  unfold mkS bsN
  simp only [List.map_map]
  conv => rhs; rw [← List.map_id l]
  exact List.map_congr_left fun b hb => by have := h b hb; simp; omega
theorem run_conv {w : World} {v : Value} {l : List Nat} (hl : AllLt 256 l) (h : RdS w v 1 l.length (u8s l)) : (convert 42 9 v).run Tryz.prog w = .ok (.string (mkS l)) w := by
  rcases h.cases (by decide) with ⟨h0, h1, a, cap, rfl, hm⟩ | ⟨hn, _, g, off, cap, rfl, hnc, hcm, hc⟩
  · obtain rfl : l = [] := List.eq_nil_of_length_eq_zero h0
    rw [run_convert_bytes_string w _ _ 5 a 0 cap Tryz.underlying42 Tryz.underlying5 Tryz.underlying9]
    cases a with
    | none => rfl
    | some a => simp [Conv.bytesToString, mkS, loadCells, loadCellsFrom]; rfl
  · have e : l.length = (l.map UInt8.ofNat).length := by simp
    rw [e]
    refine run_convert_bytes_back w _ _ 5 ⟨g, off, none⟩ cap (l.map UInt8.ofNat) Tryz.underlying42 Tryz.underlying5 Tryz.underlying9 (fun j hj => ?_)
    have hj' : j < l.length := by simpa using hj
    have := hc j _ (u8s_get l j hj')
    have hb := hl l[j] (List.getElem_mem hj')
    have e2 : ((l.map UInt8.ofNat)[j]).toNat = l[j]?.getD 0 := by simp [hj']; omega
    rw [e2, ← this]
    congr 1
    unfold Addr.add
    split
    · rename_i h0; subst h0; rfl
    · rfl
end Go.Proofs.YtdhgcgejdoedbaaGreatDoor
