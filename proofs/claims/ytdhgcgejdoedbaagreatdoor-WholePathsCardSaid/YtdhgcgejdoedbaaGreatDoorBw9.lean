/-
  What the walk is told of an argument that came in: numbers, slices of numbers. Conditions: none of the program's.
-/
import Derived.ProofKit
import Derived.OpenShut
import Derived.ShutString
import Derived.ChangeOld
import Derived.Test.YtdhgcgejdoedbaaGreatDoorBw6
namespace Go.Proofs.YtdhgcgejdoedbaaGreatDoor
open Go Go.RowKit Go.ChangeShapes Go.WideShapes Go.ChangeAt

set_option maxRecDepth 100000 in
theorem open_intsR {H : Type} {enc : TypeId × Value → H} {P : Program} {W : World} {base : Nat} {t e : TypeId} {k : IntKind} {v : Value} {d : DataW H} {ps : List MemPlace} (ht : P.underlying t = some (.slice e)) (he : P.underlying e = some (.int k)) (hc : P.cellsOf e = 1)
    (hv : Value.okWide P W .any base t v) (h : DataW.Trod enc P W 0 (fun _ => true) true t v d ps) :
    ∃ zs : List Int, (∀ n ∈ zs, (Lit.int k n).wf = true) ∧ RdS W v 1 zs.length (ints k zs) := by
  obtain ⟨a, len, cap, rfl⟩ := okWide_slice ht hv
  obtain ⟨fuel, hf⟩ := h
  rcases open_ints ht he hc hf with ⟨hcs, _⟩ | ⟨x, l, c, zs, hcs, _, hl, hm, hz, _, hcell, hwz⟩
  · simp [Value.cells] at hcs
    obtain ⟨rfl, rfl, rfl⟩ := hcs
    exact ⟨[], by simp, by simp, none, 0, rfl, Nat.le_refl _, Nat.zero_le _, .inl rfl⟩
  · simp [Value.cells] at hcs
    obtain ⟨rfl, rfl, rfl⟩ := hcs
    have hz' : zs.length = cap := by simpa using hz
    have hlen : (zs.take len).length = len := by simp; omega
    refine ⟨zs.take len, fun n hn => hwz n (List.mem_of_mem_take hn), by simp, some x, cap, by rw [hlen], by omega, hm, ?_⟩
    by_cases h0 : len = 0
    · left; subst h0; simp [ints]
    · right
      have hx := hcell 0 (by omega)
      have hsp : x = ⟨x.block, x.off, none⟩ := by
        have hxs : x.spot = none := by
          rw [show x.add 0 = x from rfl] at hx
          cases hs : x.spot with
          | none => rfl
          | some s => unfold World.cell? at hx; split at hx <;> simp [hs] at hx
        cases x; simp at hxs; simp [hxs]
      refine ⟨x.block, x.off, by rw [← hsp], fun i c hi => ?_⟩
      simp only [ints, List.getElem?_map, Option.map_eq_some_iff] at hi
      obtain ⟨z, hi, rfl⟩ := hi
      have hil : i < len := by
        rcases Nat.lt_or_ge i len with h | h
        · exact h
        · rw [List.getElem?_eq_none (by rw [hlen]; exact h)] at hi; cases hi
      rw [List.getElem?_take_of_lt hil] at hi
      have := hcell i (by omega)
      rw [show zs.getD i 0 = z by simp [hi]] at this
      rw [← this]
      congr 1
      rw [hsp]; unfold Addr.add
      split
      · rename_i h0; subst h0; simp
      · rfl

theorem wf_u8 {n : Int} (h : (Lit.int .u8 n).wf = true) : 0 ≤ n ∧ n < 256 := by
  simp [Lit.wf, IntKind.min, IntKind.max, IntKind.bits, IntKind.signed] at h; omega
theorem wf_i64 {n : Int} (h : (Lit.int .i64 n).wf = true) : -9223372036854775808 ≤ n ∧ n ≤ 9223372036854775807 := by
  simp [Lit.wf, IntKind.min, IntKind.max, IntKind.bits, IntKind.signed] at h; omega
theorem nats_of {zs : List Int} (h : ∀ n ∈ zs, 0 ≤ n) : ∃ bs : List Nat, zs = bs.map (fun b : Nat => (b : Int)) := by
  refine ⟨zs.map Int.toNat, ?_⟩
  rw [List.map_map]
  conv => lhs; rw [← List.map_id zs]
  exact List.map_congr_left fun n hn => by simp; have := h n hn; omega

set_option maxRecDepth 100000 in
theorem open_u8sR {H : Type} {enc : TypeId × Value → H} {P : Program} {W : World} {base : Nat} {t e : TypeId} {v : Value} {d : DataW H} {ps : List MemPlace} (ht : P.underlying t = some (.slice e)) (he : P.underlying e = some (.int .u8)) (hc : P.cellsOf e = 1)
    (hv : Value.okWide P W .any base t v) (h : DataW.Trod enc P W 0 (fun _ => true) true t v d ps) : ∃ bs : List Nat, AllLt 256 bs ∧ RdS W v 1 bs.length (u8s bs) := by
  obtain ⟨zs, hw, hr⟩ := open_intsR ht he hc hv h
  obtain ⟨bs, rfl⟩ := nats_of (fun n hn => (wf_u8 (hw n hn)).1)
  refine ⟨bs, fun b hb => ?_, ?_⟩
  · have := wf_u8 (hw (b : Int) (List.mem_map.2 ⟨b, hb, rfl⟩)); omega
  · have e : ints .u8 (bs.map (fun b : Nat => (b : Int))) = u8s bs := by simp [ints, u8s]
    rw [e] at hr; simpa using hr
theorem trod_ltR {H : Type} {enc : TypeId × Value → H} {P : Program} {W : World} {t : TypeId} {v : Value} {d : DataW H} {ps : List MemPlace} (h : DataW.Trod enc P W 0 (fun _ => true) true t v d ps) : ∀ x ∈ ps, x.block < W.heap.size := by
  obtain ⟨m, hm⟩ := h; exact DataW.trod_lt m _ _ _ hm
end Go.Proofs.YtdhgcgejdoedbaaGreatDoor

/-
  The cells of a struct that came in. Conditions: none of the program's.
-/
namespace Go.Proofs.YtdhgcgejdoedbaaGreatDoor
open Go Go.RowKit Go.ChangeShapes Go.WideShapes Go.ChangeAt

section
variable {P : Program} {W : World} {base : Nat} {t : TypeId} {v : Value}
theorem open_aggW {fs : Array Field} {n : Nat} {ts : List TypeId} (ht : P.underlying t = some (.struct fs)) (hc : P.cellsOf t = n) (hts : P.cellTypes P.depth t = some ts) (hn : ts.length = n) (hv : Value.okWide P W .any base t v) :
    ∃ cs : Array Value, v = .agg cs ∧ cs.size = n ∧ ∀ i c u, i < n → cs[i]? = some c → ts[i]? = some u → Cell.okWide P W .any base u c := by
  simp only [Value.okWide, ht] at hv
  obtain ⟨cs, rfl, hsz, ts', hts', _, hcell⟩ := hv
  rw [hts] at hts'
  cases hts'
  refine ⟨cs, rfl, by rw [hsz, hc], fun i c u hi hci hui => ?_⟩
  obtain ⟨u', hu', hok⟩ := hcell i c hci
  rw [hn, Nat.mod_eq_of_lt hi, hui] at hu'
  cases hu'
  exact hok
end

end Go.Proofs.YtdhgcgejdoedbaaGreatDoor
