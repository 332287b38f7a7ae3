/-
  ticks: the keys of a clock, sorted: contracts of maps.Keys and slices.Sorted.
-/
import Derived.Shelf.SlIterI.Nil
import Derived.Shelf.SortM.Plain
import Derived.Shelf.SortM.SortNone
import Derived.Ground.GgzProg
import Derived.Ground.SlgmProg
import Derived.Test.YtkgcpbhlbfjcoaaBw8
namespace Go.Proofs.Ytkgcpbhlbfjcoaa
open Go Go.Proofs Go.RowKit Go.Maps Go.Sort Go.Shelf

def Try.keysA_ren : Go.Shelf.Ren := ⟨fun | 7 => 64 | 10 => 98 | n => n, fun | 23 => 110 | 26 => 3 | 3 => 2 | 28 => 116 | 0 => 0 | 27 => 106 | 33 => 151 | 4 => 4 | n => n, fun | n => n⟩
theorem Try.keysA : Go.Proofs.SlLaysZI.n7 Try.prog Try.keysA_ren where
  mixed := by kernel_rfl
  f7 := ⟨Try.f64.name, by kernel_rfl, Try.func64.trans (congrArg some (by kernel_rfl))⟩
  f10 := ⟨Try.f98.name, by kernel_rfl, Try.func98.trans (congrArg some (by kernel_rfl))⟩
  t0 := Try.underlying0
  a0 := Try.isAgg0
  z0 := Try.sizeOf0
  v0 := Try.zeroValue0
  t4 := Try.underlying4
  a4 := Try.isAgg4
  z4 := Try.sizeOf4
  v4 := Try.zeroValue4
  t23 := Try.underlying110
  a23 := Try.isAgg110
  z23 := Try.sizeOf110
  v23 := Try.zeroValue110
  t26 := Try.underlying3
  a26 := Try.isAgg3
  z26 := Try.sizeOf3
  v26 := Try.zeroValue3
  t27 := Try.underlying106
  a27 := Try.isAgg106
  z27 := Try.sizeOf106
  v27 := Try.zeroValue106
  t28 := Try.underlying116
  a28 := Try.isAgg116
  z28 := Try.sizeOf116
  v28 := Try.zeroValue116
  t33 := Try.underlying151
  a33 := Try.isAgg151
  z33 := Try.sizeOf151
  v33 := Try.zeroValue151
def Try.sortedA_ren : Go.Shelf.Ren := ⟨fun | 6 => 63 | 8 => 96 | 9 => 97 | 11 => 119 | 13 => 121 | 12 => 120 | 23 => 144 | 24 => 145 | 14 => 135 | 15 => 136 | 16 => 137 | 17 => 138 | 18 => 139 | 19 => 140 | 20 => 141 | 21 => 142 | 22 => 143 | 25 => 160 | 26 => 161 | 27 => 162 | 28 => 163 | 29 => 164 | 30 => 157 | 31 => 171 | n => n, fun | 26 => 3 | 28 => 116 | 24 => 49 | 0 => 0 | 3 => 3 | 37 => 171 | 48 => 194 | 50 => 196 | 4 => 4 | 40 => 187 | 39 => 186 | 45 => 149 | 5 => 5 | 9 => 9 | 51 => 204 | 55 => 122 | 57 => 212 | 58 => 213 | 33 => 151 | n => n, fun | n => n⟩
theorem Try.sortedA : Go.Proofs.SlLaysZI.n6 Try.prog Try.sortedA_ren where
  mixed := by kernel_rfl
  f6 := ⟨Try.f63.name, by kernel_rfl, Try.func63.trans (congrArg some (by kernel_rfl))⟩
  f8 := ⟨Try.f96.name, by kernel_rfl, Try.func96.trans (congrArg some (by kernel_rfl))⟩
  f11 := ⟨Try.f119.name, by kernel_rfl, Try.func119.trans (congrArg some (by kernel_rfl))⟩
  t0 := Try.underlying0
  a0 := Try.isAgg0
  z0 := Try.sizeOf0
  v0 := Try.zeroValue0
  t24 := Try.underlying49
  a24 := Try.isAgg49
  z24 := Try.sizeOf49
  v24 := Try.zeroValue49
  t26 := Try.underlying3
  a26 := Try.isAgg3
  z26 := Try.sizeOf3
  v26 := Try.zeroValue3
  t28 := Try.underlying116
  a28 := Try.isAgg116
  z28 := Try.sizeOf116
  v28 := Try.zeroValue116
  i26 := by kernel_rfl
def Try.sortA_ren : Go.Shelf.Ren := ⟨fun | 5 => 97 | 8 => 121 | 7 => 120 | 19 => 144 | 20 => 145 | 10 => 135 | 11 => 136 | 12 => 137 | 13 => 138 | 14 => 139 | 15 => 140 | 16 => 141 | 17 => 142 | 18 => 143 | 30 => 160 | 31 => 161 | 32 => 162 | 33 => 163 | 34 => 164 | 35 => 157 | 40 => 171 | n => n, fun | 23 => 49 | 25 => 3 | 3 => 3 | 32 => 171 | 22 => 49 | 0 => 0 | 44 => 194 | 46 => 196 | 4 => 4 | 36 => 187 | 35 => 186 | 41 => 149 | 5 => 5 | 9 => 9 | 53 => 204 | 57 => 122 | 63 => 212 | 64 => 213 | n => n, fun | n => n⟩
theorem Try.sortA : Go.Proofs.SlLaysM.n5 Try.prog Try.sortA_ren where
  mixed := by kernel_rfl
  f5 := ⟨Try.f97.name, by kernel_rfl, Try.func97.trans (congrArg some (by kernel_rfl))⟩
  f7 := ⟨Try.f120.name, by kernel_rfl, Try.func120.trans (congrArg some (by kernel_rfl))⟩
  f8 := Try.func121.trans (congrArg some (by kernel_rfl))
  f10 := ⟨Try.f135.name, by kernel_rfl, Try.func135.trans (congrArg some (by kernel_rfl))⟩
  f11 := ⟨Try.f136.name, by kernel_rfl, Try.func136.trans (congrArg some (by kernel_rfl))⟩
  f12 := ⟨Try.f137.name, by kernel_rfl, Try.func137.trans (congrArg some (by kernel_rfl))⟩
  f13 := ⟨Try.f138.name, by kernel_rfl, Try.func138.trans (congrArg some (by kernel_rfl))⟩
  f14 := ⟨Try.f139.name, by kernel_rfl, Try.func139.trans (congrArg some (by kernel_rfl))⟩
  f15 := ⟨Try.f140.name, by kernel_rfl, Try.func140.trans (congrArg some (by kernel_rfl))⟩
  f16 := ⟨Try.f141.name, by kernel_rfl, Try.func141.trans (congrArg some (by kernel_rfl))⟩
  f17 := ⟨Try.f142.name, by kernel_rfl, Try.func142.trans (congrArg some (by kernel_rfl))⟩
  f18 := ⟨Try.f143.name, by kernel_rfl, Try.func143.trans (congrArg some (by kernel_rfl))⟩
  f19 := Try.func144.trans (congrArg some (by kernel_rfl))
  f20 := Try.func145.trans (congrArg some (by kernel_rfl))
  f30 := ⟨Try.f160.name, by kernel_rfl, Try.func160.trans (congrArg some (by kernel_rfl))⟩
  f31 := Try.func161.trans (congrArg some (by kernel_rfl))
  f32 := Try.func162.trans (congrArg some (by kernel_rfl))
  f33 := ⟨Try.f163.name, by kernel_rfl, Try.func163.trans (congrArg some (by kernel_rfl))⟩
  f34 := ⟨Try.f164.name, by kernel_rfl, Try.func164.trans (congrArg some (by kernel_rfl))⟩
  f35 := ⟨Try.f157.name, by kernel_rfl, Try.func157.trans (congrArg some (by kernel_rfl))⟩
  f40 := ⟨Try.f171.name, by kernel_rfl, Try.func171.trans (congrArg some (by kernel_rfl))⟩
  t0 := Try.underlying0
  a0 := Try.isAgg0
  z0 := Try.sizeOf0
  v0 := Try.zeroValue0
  t3 := Try.underlying3
  a3 := Try.isAgg3
  z3 := Try.sizeOf3
  v3 := Try.zeroValue3
  t4 := Try.underlying4
  a4 := Try.isAgg4
  z4 := Try.sizeOf4
  v4 := Try.zeroValue4
  t5 := Try.underlying5
  a5 := Try.isAgg5
  z5 := Try.sizeOf5
  v5 := Try.zeroValue5
  t9 := Try.underlying9
  a9 := Try.isAgg9
  z9 := Try.sizeOf9
  v9 := Try.zeroValue9
  t22 := Try.underlying49
  a22 := Try.isAgg49
  z22 := Try.sizeOf49
  v22 := Try.zeroValue49
  t23 := Try.underlying49
  a23 := Try.isAgg49
  z23 := Try.sizeOf49
  v23 := Try.zeroValue49
  t25 := Try.underlying3
  a25 := Try.isAgg3
  z25 := Try.sizeOf3
  v25 := Try.zeroValue3
  t32 := Try.underlying171
  a32 := Try.isAgg171
  z32 := Try.sizeOf171
  v32 := Try.zeroValue171
  t35 := Try.underlying186
  a35 := Try.isAgg186
  z35 := Try.sizeOf186
  v35 := Try.zeroValue186
  t36 := Try.underlying187
  a36 := Try.isAgg187
  z36 := Try.sizeOf187
  v36 := Try.zeroValue187
  t41 := Try.underlying149
  a41 := Try.isAgg149
  z41 := Try.sizeOf149
  v41 := Try.zeroValue149
  t44 := Try.underlying194
  a44 := Try.isAgg194
  z44 := Try.sizeOf194
  v44 := Try.zeroValue194
  t46 := Try.underlying196
  a46 := Try.isAgg196
  z46 := Try.sizeOf196
  v46 := Try.zeroValue196
  t53 := Try.underlying204
  a53 := Try.isAgg204
  z53 := Try.sizeOf204
  v53 := Try.zeroValue204
  t57 := Try.underlying122
  a57 := Try.isAgg122
  z57 := Try.sizeOf122
  v57 := Try.zeroValue122
  t63 := Try.underlying212
  a63 := Try.isAgg212
  z63 := Try.sizeOf212
  v63 := Try.zeroValue212
  t64 := Try.underlying213
  a64 := Try.isAgg213
  z64 := Try.sizeOf213
  v64 := Try.zeroValue213

/-- slices.Sort's two contracts, at the fence that asks nothing. -/
theorem Try.sortsA (m : Nat) : AnyZI.SortsIn Try.prog Try.sortedA_ren Fence.wide m :=
  ⟨fun blk off cap ss W hH hblk hsz => callsIn_wide.2 (AnyM.slices_Sort_int Try.sortA blk off cap ss W hH hblk hsz),
   fun p cap W => callsIn_wide.2 (AnyM.slices_Sort_int_none Try.sortA p cap W)⟩
theorem mkeys_any (mb : Option Nat) (W : World) : Calls Try.prog 64 #[.map mb] W fun e w' => e = .returned (.func (.func 98) #[] #[.pointer (some ⟨W.heap.size, 0, none⟩)]) ∧ w' = W.alloc (.cells #[.map mb] 110) := by
  refine (callsIn_wide (n := 5)).1 ?_
  exact AnyZI.keys_in Try.keysA Fence.wide 5 trivial rfl mb W
/-- The numbers that a clock has, rising. -/
theorem says_sorted {w : World} {b n : Nat} {D : DataW Unit} {g : Int → Option Int} {ids ss : List Int} (hown : MapI w b n D) (hsay : Says D g) (hr : ids.Pairwise (· < ·)) (hi : ∀ x, WfI x → ((g x).isSome = true ↔ x ∈ ids)) (hw : ∀ x ∈ ids, WfI x) (hp : ss.Perm (intKeys D)) : ss.mergeSort (fun x y => decide (x ≤ y)) = ids := by
  have hperm : ids.Perm (intKeys D) := by
    obtain ⟨es, he, hpw, _⟩ := hown.entries Try.keyedInt
    subst he
    refine perm_intKeys hpw (fun p hp => ?_) (hr.imp (fun h => Int.ne_of_lt h)) (fun x => ⟨fun hx => ?_, fun hx => ?_⟩)
    · have hh : Maps.has (.map es) p.1 = true := by
        rw [has_eq, List.any_eq_true]
        obtain ⟨es', he', _, hk⟩ := hown.entries Try.keyedInt
        cases he'
        exact ⟨p, hp, WideAt.sameKey_self (hk p hp)⟩
      obtain ⟨x, hx, _⟩ := MapI.keys hown hh
      exact ⟨x, hx⟩
    · rw [hsay.has (hw x hx)]
      exact (hi x (hw x hx)).2 hx
    · obtain ⟨y, hy, hwy⟩ := MapI.keys hown hx
      cases hy
      rw [hsay.has hwy] at hx
      exact (hi _ hwy).1 hx
  refine List.Perm.eq_of_pairwise (le := fun a b => a ≤ b) (fun a b _ _ h1 h2 => Int.le_antisymm h1 h2) ?_ (hr.imp (fun h => Int.le_of_lt h)) ((List.mergeSort_perm ss _).trans (hp.trans hperm.symm))
  exact (List.pairwise_mergeSort (fun a b c h1 h2 => by simp at h1 h2 ⊢; omega) (fun a b => by simp; omega) ss).imp (fun h => by simpa using h)
theorem msorted_any (cb b n : Nat) (g : Int → Option Int) (ids : List Int) (w : World) (h : ClkR w cb b n g) (hn : n ≤ 100000) (hr : ids.Pairwise (· < ·)) (hi : ∀ x, WfI x → ((g x).isSome = true ↔ x ∈ ids)) (hw : ∀ x ∈ ids, WfI x) :
    Calls Try.prog 63 #[.func (.func 98) #[] #[.pointer (some ⟨w.heap.size, 0, none⟩)]] (w.alloc (.cells #[.map (some b)] 110)) fun e w' => ∃ v, e = .returned v ∧ w'.ownsRow w.heap.size 3 1 v ids.length (ints .i64 ids) ∧ Below w.heap.size w w' := by
  obtain ⟨_, D, hown, hsay⟩ := h
  have hbl := hown.lt
  have hmax := hown.size_le
  have hseq : SeqGives Fence.wide 2 Try.prog 98 #[.pointer (some ⟨w.heap.size, 0, none⟩)] encZ (fun ss => ss.Perm (intKeys D)) (Maps.size D) (w.alloc (.cells #[.map (some b)] 110)) :=
    AnyZI.keys_gives (ρ := Try.keysA_ren) { Try.keysA with } Fence.wide _ trivial rfl (by omega) w.heap.size b n D _ (by simp) (by simp) (by
      obtain ⟨es, clock, hb, Ft, hs, hD⟩ := hown
      exact ⟨es, clock, (Below.heap_alloc _ _ b hbl).trans hb, Ft, hs, hD⟩)
  have cS := AnyZI.sorted_in Try.sortedA Fence.wide 5 trivial trivial trivial trivial rfl (by omega) (Try.sortsA _) (enters_of Try.func97 (by kernel_rfl) rfl) 98 #[.pointer (some ⟨w.heap.size, 0, none⟩)] trivial (enters_of Try.func98 (by kernel_rfl) rfl) _ _ (by unfold maxLen; omega) (by omega) _ hseq
  change CallsIn _ _ Try.prog 63 _ _ _ at cS
  refine ((callsIn_wide (n := 5)).1 cS).mono ?_
  rintro e w' ⟨v, ss, rfl, hS, hrow, hnil, hb⟩
  have hids := says_sorted hown hsay hr hi hw hS
  have hlen : ss.length = ids.length := by rw [← hids, List.length_mergeSort]
  rw [hids, hlen] at hrow
  refine ⟨v, rfl, ownsRow_mono hrow (by simp), ((Below.refl _ w).alloc (Nat.le_refl _) _).trans (hb.mono (by simp))⟩
end Go.Proofs.Ytkgcpbhlbfjcoaa
