/-
  quota: the keys of a book, sorted: contracts of maps.Keys and slices.Sorted.
-/
import Derived.Shelf.SlIter.Nil
import Derived.Shelf.SortM.Plain
import Derived.Shelf.SortM.SortNone
import Derived.Ground.GgzProg
import Derived.Ground.SlgmProg
import Derived.Test.YtgfiogjfgbegpaaGreatBz8
import Derived.Test.YtgfiogjfgbegpaaGreatBz40
namespace Go.Proofs.YtgfiogjfgbegpaaGreat
open Go Go.Proofs Go.RowKit Go.Maps Go.Sort Go.Shelf Go.ChangeMaps Go.MapKept Go.WideMaps

def Tryz.keysS_ren : Go.Shelf.Ren := ⟨fun | 7 => 89 | 10 => 116 | n => n, fun | 23 => 108 | 26 => 9 | 3 => 24 | 28 => 143 | 0 => 0 | 27 => 142 | 33 => 71 | 4 => 4 | n => n, fun | n => n⟩
theorem Tryz.keysS : Go.Proofs.SlLaysZ.n7 Tryz.prog Tryz.keysS_ren where
  mixed := by kernel_rfl
  f7 := ⟨Tryz.f89.name, by kernel_rfl, Tryz.func89.trans (congrArg some (by kernel_rfl))⟩
  f10 := ⟨Tryz.f116.name, by kernel_rfl, Tryz.func116.trans (congrArg some (by kernel_rfl))⟩
  t0 := Tryz.underlying0
  a0 := Tryz.isAgg0
  z0 := Tryz.sizeOf0
  v0 := Tryz.zeroValue0
  t4 := Tryz.underlying4
  a4 := Tryz.isAgg4
  z4 := Tryz.sizeOf4
  v4 := Tryz.zeroValue4
  t23 := Tryz.underlying108
  a23 := Tryz.isAgg108
  z23 := Tryz.sizeOf108
  v23 := Tryz.zeroValue108
  t26 := Tryz.underlying9
  a26 := Tryz.isAgg9
  z26 := Tryz.sizeOf9
  v26 := Tryz.zeroValue9
  t27 := Tryz.underlying142
  a27 := Tryz.isAgg142
  z27 := Tryz.sizeOf142
  v27 := Tryz.zeroValue142
  t28 := Tryz.underlying143
  a28 := Tryz.isAgg143
  z28 := Tryz.sizeOf143
  v28 := Tryz.zeroValue143
  t33 := Tryz.underlying71
  a33 := Tryz.isAgg71
  z33 := Tryz.sizeOf71
  v33 := Tryz.zeroValue71
def Tryz.sortedS_ren : Go.Shelf.Ren := ⟨fun | 6 => 88 | 8 => 114 | 9 => 115 | 11 => 131 | 13 => 133 | 12 => 132 | 23 => 154 | 24 => 155 | 14 => 145 | 15 => 146 | 16 => 147 | 17 => 148 | 18 => 149 | 19 => 150 | 20 => 151 | 21 => 152 | 22 => 153 | 25 => 171 | 26 => 172 | 27 => 173 | 28 => 174 | 29 => 175 | 30 => 176 | 31 => 183 | n => n, fun | 26 => 9 | 28 => 143 | 24 => 40 | 0 => 0 | 3 => 3 | 37 => 186 | 48 => 207 | 50 => 106 | 4 => 4 | 40 => 201 | 39 => 200 | 45 => 104 | 5 => 5 | 9 => 9 | 51 => 217 | 55 => 118 | 57 => 224 | 58 => 225 | 33 => 71 | n => n, fun | n => n⟩
theorem Tryz.sortedS : Go.Proofs.SlLaysZ.n6 Tryz.prog Tryz.sortedS_ren where
  mixed := by kernel_rfl
  f6 := ⟨Tryz.f88.name, by kernel_rfl, Tryz.func88.trans (congrArg some (by kernel_rfl))⟩
  f8 := ⟨Tryz.f114.name, by kernel_rfl, Tryz.func114.trans (congrArg some (by kernel_rfl))⟩
  f11 := ⟨Tryz.f131.name, by kernel_rfl, Tryz.func131.trans (congrArg some (by kernel_rfl))⟩
  t0 := Tryz.underlying0
  a0 := Tryz.isAgg0
  z0 := Tryz.sizeOf0
  v0 := Tryz.zeroValue0
  t24 := Tryz.underlying40
  a24 := Tryz.isAgg40
  z24 := Tryz.sizeOf40
  v24 := Tryz.zeroValue40
  t26 := Tryz.underlying9
  a26 := Tryz.isAgg9
  z26 := Tryz.sizeOf9
  v26 := Tryz.zeroValue9
  t28 := Tryz.underlying143
  a28 := Tryz.isAgg143
  z28 := Tryz.sizeOf143
  v28 := Tryz.zeroValue143
  i26 := by kernel_rfl
def Tryz.sortS_ren : Go.Shelf.Ren := ⟨fun | 6 => 115 | 8 => 133 | 9 => 132 | 19 => 154 | 20 => 155 | 21 => 145 | 22 => 146 | 23 => 147 | 24 => 148 | 25 => 149 | 26 => 150 | 27 => 151 | 28 => 152 | 29 => 153 | 36 => 171 | 31 => 172 | 32 => 173 | 37 => 174 | 38 => 175 | 39 => 176 | 41 => 183 | n => n, fun | 27 => 40 | 29 => 9 | 3 => 3 | 32 => 186 | 26 => 40 | 0 => 0 | 44 => 207 | 46 => 106 | 4 => 4 | 36 => 201 | 35 => 200 | 41 => 104 | 5 => 5 | 9 => 9 | 53 => 217 | 57 => 118 | 63 => 224 | 64 => 225 | n => n, fun | n => n⟩
theorem Tryz.sortS : Go.Proofs.SlLaysM.n6 Tryz.prog Tryz.sortS_ren where
  mixed := by kernel_rfl
  f6 := ⟨Tryz.f115.name, by kernel_rfl, Tryz.func115.trans (congrArg some (by kernel_rfl))⟩
  f8 := Tryz.func133.trans (congrArg some (by kernel_rfl))
  f9 := ⟨Tryz.f132.name, by kernel_rfl, Tryz.func132.trans (congrArg some (by kernel_rfl))⟩
  f19 := Tryz.func154.trans (congrArg some (by kernel_rfl))
  f20 := Tryz.func155.trans (congrArg some (by kernel_rfl))
  f21 := ⟨Tryz.f145.name, by kernel_rfl, Tryz.func145.trans (congrArg some (by kernel_rfl))⟩
  f22 := ⟨Tryz.f146.name, by kernel_rfl, Tryz.func146.trans (congrArg some (by kernel_rfl))⟩
  f23 := ⟨Tryz.f147.name, by kernel_rfl, Tryz.func147.trans (congrArg some (by kernel_rfl))⟩
  f24 := ⟨Tryz.f148.name, by kernel_rfl, Tryz.func148.trans (congrArg some (by kernel_rfl))⟩
  f25 := ⟨Tryz.f149.name, by kernel_rfl, Tryz.func149.trans (congrArg some (by kernel_rfl))⟩
  f26 := ⟨Tryz.f150.name, by kernel_rfl, Tryz.func150.trans (congrArg some (by kernel_rfl))⟩
  f27 := ⟨Tryz.f151.name, by kernel_rfl, Tryz.func151.trans (congrArg some (by kernel_rfl))⟩
  f28 := ⟨Tryz.f152.name, by kernel_rfl, Tryz.func152.trans (congrArg some (by kernel_rfl))⟩
  f29 := ⟨Tryz.f153.name, by kernel_rfl, Tryz.func153.trans (congrArg some (by kernel_rfl))⟩
  f31 := Tryz.func172.trans (congrArg some (by kernel_rfl))
  f32 := Tryz.func173.trans (congrArg some (by kernel_rfl))
  f36 := ⟨Tryz.f171.name, by kernel_rfl, Tryz.func171.trans (congrArg some (by kernel_rfl))⟩
  f37 := ⟨Tryz.f174.name, by kernel_rfl, Tryz.func174.trans (congrArg some (by kernel_rfl))⟩
  f38 := ⟨Tryz.f175.name, by kernel_rfl, Tryz.func175.trans (congrArg some (by kernel_rfl))⟩
  f39 := ⟨Tryz.f176.name, by kernel_rfl, Tryz.func176.trans (congrArg some (by kernel_rfl))⟩
  f41 := ⟨Tryz.f183.name, by kernel_rfl, Tryz.func183.trans (congrArg some (by kernel_rfl))⟩
  t0 := Tryz.underlying0
  a0 := Tryz.isAgg0
  z0 := Tryz.sizeOf0
  v0 := Tryz.zeroValue0
  t3 := Tryz.underlying3
  a3 := Tryz.isAgg3
  z3 := Tryz.sizeOf3
  v3 := Tryz.zeroValue3
  t4 := Tryz.underlying4
  a4 := Tryz.isAgg4
  z4 := Tryz.sizeOf4
  v4 := Tryz.zeroValue4
  t5 := Tryz.underlying5
  a5 := Tryz.isAgg5
  z5 := Tryz.sizeOf5
  v5 := Tryz.zeroValue5
  t9 := Tryz.underlying9
  a9 := Tryz.isAgg9
  z9 := Tryz.sizeOf9
  v9 := Tryz.zeroValue9
  t26 := Tryz.underlying40
  a26 := Tryz.isAgg40
  z26 := Tryz.sizeOf40
  v26 := Tryz.zeroValue40
  t27 := Tryz.underlying40
  a27 := Tryz.isAgg40
  z27 := Tryz.sizeOf40
  v27 := Tryz.zeroValue40
  t29 := Tryz.underlying9
  a29 := Tryz.isAgg9
  z29 := Tryz.sizeOf9
  v29 := Tryz.zeroValue9
  t32 := Tryz.underlying186
  a32 := Tryz.isAgg186
  z32 := Tryz.sizeOf186
  v32 := Tryz.zeroValue186
  t35 := Tryz.underlying200
  a35 := Tryz.isAgg200
  z35 := Tryz.sizeOf200
  v35 := Tryz.zeroValue200
  t36 := Tryz.underlying201
  a36 := Tryz.isAgg201
  z36 := Tryz.sizeOf201
  v36 := Tryz.zeroValue201
  t41 := Tryz.underlying104
  a41 := Tryz.isAgg104
  z41 := Tryz.sizeOf104
  v41 := Tryz.zeroValue104
  t44 := Tryz.underlying207
  a44 := Tryz.isAgg207
  z44 := Tryz.sizeOf207
  v44 := Tryz.zeroValue207
  t46 := Tryz.underlying106
  a46 := Tryz.isAgg106
  z46 := Tryz.sizeOf106
  v46 := Tryz.zeroValue106
  t53 := Tryz.underlying217
  a53 := Tryz.isAgg217
  z53 := Tryz.sizeOf217
  v53 := Tryz.zeroValue217
  t57 := Tryz.underlying118
  a57 := Tryz.isAgg118
  z57 := Tryz.sizeOf118
  v57 := Tryz.zeroValue118
  t63 := Tryz.underlying224
  a63 := Tryz.isAgg224
  z63 := Tryz.sizeOf224
  v63 := Tryz.zeroValue224
  t64 := Tryz.underlying225
  a64 := Tryz.isAgg225
  z64 := Tryz.sizeOf225
  v64 := Tryz.zeroValue225

theorem Tryz.sortsS (m : Nat) : AnyZ.SortsIn Tryz.prog Tryz.sortedS_ren Fence.wide m :=
  ⟨fun blk off cap ss W hH hblk hsz => callsIn_wide.2 (AnyM.slices_Sort_string Tryz.sortS blk off cap ss W hH hblk hsz),
   fun p cap W => callsIn_wide.2 (AnyM.slices_Sort_string_none Tryz.sortS p cap W)⟩
theorem bkeys_any (mb : Option Nat) (W : World) : Calls Tryz.prog 89 #[.map mb] W fun e w' => e = .returned (.func (.func 116) #[] #[.pointer (some ⟨W.heap.size, 0, none⟩)]) ∧ w' = W.alloc (.cells #[.map mb] 108) := by
  refine (callsIn_wide (n := 5)).1 ?_
  exact AnyZ.keys_in Tryz.keysS Fence.wide 5 trivial rfl mb W
theorem bsorted_any {H : Type} (b n : Nat) (D : DataW H) (R : Value → Option (DataW H × List MemPlace)) (w : World) (hown : w.ownsMap Tryz.prog 9 R b n D) (hmax : Maps.size D ≤ maxLen) (hbytes : Maps.size D * 16 ≤ 140737488355328) :
    Calls Tryz.prog 88 #[.func (.func 116) #[] #[.pointer (some ⟨w.heap.size, 0, none⟩)]] (w.alloc (.cells #[.map (some b)] 108)) fun e w' => ∃ (v : Value) (ss : List (List UInt8)), e = .returned v ∧ ss.Perm (strKeys D) ∧ w'.ownsRow w.heap.size 9 1 v ss.length ((ss.mergeSort (fun x y => decide (x ≤ y))).map encStr) ∧ Below w.heap.size w w' := by
  have hbl := hown.lt
  have hseq : SeqGives Fence.wide 2 Tryz.prog 116 #[.pointer (some ⟨w.heap.size, 0, none⟩)] encStr (fun ss => ss.Perm (strKeys D)) (Maps.size D) (w.alloc (.cells #[.map (some b)] 108)) :=
    AnyZ.keys_gives (ρ := Tryz.keysS_ren) { Tryz.keysS with } Fence.wide _ trivial rfl (by omega) w.heap.size b n D _ (by simp) (by simp) (by
      obtain ⟨es, clock, hb, Ft, hs, hD⟩ := hown
      exact ⟨es, clock, (Below.heap_alloc _ _ b hbl).trans hb, Ft, hs, hD⟩)
  have cS := AnyZ.sorted_in Tryz.sortedS Fence.wide 5 trivial trivial trivial trivial rfl (by omega) (Tryz.sortsS _) (enters_of Tryz.func115 (by kernel_rfl) rfl) 116 #[.pointer (some ⟨w.heap.size, 0, none⟩)] trivial (enters_of Tryz.func116 (by kernel_rfl) rfl) _ _ hmax hbytes _ hseq
  change CallsIn _ _ Tryz.prog 88 _ _ _ at cS
  refine ((callsIn_wide (n := 5)).1 cS).mono ?_
  rintro e w' ⟨v, ss, rfl, hS, hrow, hnil, hb⟩
  exact ⟨v, ss, rfl, hS, ownsRow_base_a hrow (by simp), ((Below.refl _ w).alloc (Nat.le_refl _) _).trans (hb.mono (by simp))⟩
theorem names_sorted {w : World} {b n : Nat} {D : DataW Value} {L : List ByteArray} {g : ByteArray → Option Value} (hown : w.ownsMap Tryz.prog 9 heldH b n D) (hg : ∀ x kl, keyOf Tryz.prog 9 (Value.string x) = some kl → ∀ z, D.atKey kl z = match g x with | some v => .held v | none => z) (hL : ∀ x, x ∈ L ↔ (g x).isSome = true) (hs : ∀ x ∈ L, x.size ≤ maxLen) {ss : List (List UInt8)} (hp : ss.Perm (strKeys D)) :
    ((ss.mergeSort (fun x y => decide (x ≤ y))).Pairwise (· < ·)) ∧ (∀ x : ByteArray, x.data.toList ∈ ss.mergeSort (fun x y => decide (x ≤ y)) ↔ x ∈ L) ∧ ∀ y ∈ ss.mergeSort (fun x y => decide (x ≤ y)), y.length ≤ maxLen := by
  have hK : Keyed Tryz.prog 9 := string_keyed Tryz.underlying9
  obtain ⟨es, rfl, hkeys⟩ := hown.keysOf
  obtain ⟨es', he, hpw, hself⟩ := hown.entries hK
  cases he
  have hstr : ∀ p ∈ es, ∃ x : List UInt8, p.1 = .string x ∧ x.length ≤ maxLen := fun p hp => by
    obtain ⟨v, hv⟩ := hkeys p hp
    obtain ⟨x, _, e, h⟩ := Maps.keyOf_str Tryz.underlying9 hv
    exact ⟨x, e, h⟩
  have hnd : (strKeys (.map es : DataW Value)).Nodup := by
    show (es.map fun p => strOf p.1).Nodup
    refine List.pairwise_map.2 (hpw.imp_of_mem fun {p q} hp' hq' hne e => hne ?_)
    obtain ⟨a, ha, _⟩ := hstr p hp'
    obtain ⟨b, hb, _⟩ := hstr q hq'
    rw [ha, hb] at e ⊢
    exact congrArg _ e
  have hperm : (ss.mergeSort (fun x y => decide (x ≤ y))).Perm (strKeys (.map es : DataW Value)) := (List.mergeSort_perm ss _).trans hp
  have hlen : ∀ y ∈ ss.mergeSort (fun x y => decide (x ≤ y)), y.length ≤ maxLen := fun y hy => by
    have h1 : y ∈ es.map fun p => strOf p.1 := hperm.mem_iff.1 hy
    obtain ⟨p, hp', rfl⟩ := List.mem_map.1 h1
    obtain ⟨a, ha, hal⟩ := hstr p hp'
    rw [ha]
    exact hal
  have hkey : ∀ x : ByteArray, x.size ≤ maxLen → keyOf Tryz.prog 9 (Value.string x) = some (.string x.data.toList) := fun x hx => keyOf_string_mk Tryz.underlying9 hx
  refine ⟨?_, fun x => ?_, hlen⟩
  · have h1 : (ss.mergeSort (fun x y => decide (x ≤ y))).Pairwise (· ≤ ·) := (List.pairwise_mergeSort (fun a b c h1 h2 => by simp only [decide_eq_true_eq] at *; exact List.le_trans h1 h2) (fun a b => by simp only [Bool.or_eq_true, decide_eq_true_eq]; exact List.le_total a b) ss).imp (fun h => by simpa using h)
    have h2 : (ss.mergeSort (fun x y => decide (x ≤ y))).Nodup := hperm.nodup_iff.2 hnd
    exact (List.pairwise_and_iff.2 ⟨h1, h2⟩).imp (fun {a b} h => Classical.byContradiction fun hn => h.2 (List.le_antisymm h.1 (List.not_lt.1 hn)))
  · constructor
    · intro hx
      have hxl : x.size ≤ maxLen := by
        have := hlen _ hx
        rwa [Array.length_toList] at this
      have h1 : x.data.toList ∈ es.map fun p => strOf p.1 := hperm.mem_iff.1 hx
      obtain ⟨p, hp', e⟩ := List.mem_map.1 h1
      obtain ⟨a, ha, hal⟩ := hstr p hp'
      rw [ha] at e
      have e' : a = x.data.toList := e
      subst e'
      refine (hL x).2 ?_
      rw [← MapH.has (hg x _ (hkey x hxl)), has_eq, List.any_eq_true]
      exact ⟨p, hp', by rw [ha]; exact WideAt.sameKey_self (by rw [← ha]; exact hself p hp')⟩
    · intro hx
      have hxl := hs x hx
      have h1 := (hL x).1 hx
      rw [← MapH.has (hg x _ (hkey x hxl)), has_eq, List.any_eq_true] at h1
      obtain ⟨p, hp', e⟩ := h1
      refine hperm.mem_iff.2 (List.mem_map.2 ⟨p, hp', ?_⟩)
      rw [WideAt.sameKey_eq e]
      rfl
end Go.Proofs.YtgfiogjfgbegpaaGreat
