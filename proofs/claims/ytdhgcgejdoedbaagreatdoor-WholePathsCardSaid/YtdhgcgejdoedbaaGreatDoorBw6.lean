/-
  Slices that a call owns: append, with the block of what comes out told. Conditions: none of the program's.
-/
import Derived.WalkSpells
import Derived.WalkLawsBesides
import Derived.Lib.Hide
import Derived.Test.YtdhgcgejdoedbaaGreatDoorBw1
import Derived.Test.YtdhgcgejdoedbaaGreatDoorBw4
namespace Go.Proofs.YtdhgcgejdoedbaaGreatDoor
open Go Go.RowKit

def Fresh (w : World) (v v' : Value) : Prop := ∀ g, v'.ownBlock = some g → v.ownBlock = some g ∨ w.heap.size ≤ g

theorem run_push {P : Program} (w : World) (base : Nat) (t ty e : TypeId) (i : TypeInfo) (z : Value) (size bytes : Nat) (ht : P.underlying t = some (.slice e)) (hi : P.info? e = some i) (hz : i.zero = some z)
    (hsize : i.size = size) (hby : i.bytes = bytes) (hzs : z.cells.size = size) (hsz : 0 < size)
    (v : Value) (n : Nat) (xs : List Value) (hown : w.ownsRow base e size v n xs)
    (a : Addr) (m c : Nat) (news : List Value) (hl : news.length = m * size) (hnews : ∀ j u, news[j]? = some u → w.cell? (a.add j) = some u) (h1 : ∀ u ∈ news, u.oneCell' = true)
    (h63 : n + m ≤ maxLen) (hbytes : (n + m) * bytes ≤ 140737488355328) (hbase : base ≤ w.heap.size) :
    ∃ v' w', (Builtin.append_ #[t, t] ty #[v, .slice (some a) m c]).run P w = .ok v' w' ∧ w'.ownsRow base e size v' (n + m) (xs ++ news) ∧ w.grownBy w' v.ownBlock ∧ Fresh w v v' := by
  obtain ⟨v', w', hr, h2, h3, h4⟩ := run_append_own (P := P) w base t ty e i z size bytes ht hi hz hsize hby hzs hsz v n xs hown a m c news hl hnews h1 h63 hbytes hbase
  refine ⟨v', w', hr, h2, h3, ?_⟩
  subst hsize hby
  have hsmall : n + m ≤ 9223372036854775807 := by simp only [maxLen] at h63; omega
  rcases hown.2 with ⟨rfl, rfl⟩ | ⟨g, cap, cur, rfl, hbg, hg, hnc, hcm, hcs, htake⟩
  · intro g hg
    rcases Nat.eq_zero_or_pos m with rfl | hm
    · rw [h4.2 ⟨rfl, rfl⟩] at hg; simp [Value.ownBlock] at hg
    · have hr' := run_append_nil (P := P) w t ty e i z ht hi hz a m c news hl hnews hm (by omega) (by simp only [Nat.zero_add] at hbytes; omega)
      rw [hr'] at hr
      cases hr
      right; simp [Value.ownBlock] at hg; omega
  · by_cases hroom : n + m ≤ cap
    · have hfit : n * i.size + news.length ≤ cur.size := by rw [hl, hcs, ← Nat.add_mul]; exact Nat.mul_le_mul_right _ hroom
      have hr' := run_append_room (P := P) w t ty e i ht hi g n cap cur hg a m c news hl hnews h1 hroom hfit
      rw [hr'] at hr
      cases hr
      intro g' hg'; left; simpa [Value.ownBlock] using hg'
    · have holds : ∀ j u, xs[j]? = some u → w.cell? ((⟨g, 0, none⟩ : Addr).add j) = some u := hown.cells (g := g) rfl
      have hr' := run_append_grow (P := P) w t ty e i z ht hi hz ⟨g, 0, none⟩ n cap xs hown.1 holds a m c news hl hnews (by omega) (by omega) (growslice_fits (by omega) hbytes)
      rw [hr'] at hr
      cases hr
      intro g' hg'; right; simp [Value.ownBlock] at hg'; omega

theorem wpList_push {P : Program} {w : World} {ops : Array Oper} {rest : List Oper} {o : Oper} {a : Act} {Q : Exit → Act → World → Prop} (hgd : o.guard = none) (s x : Operand) (t : TypeId)
    (ho : o.op = .call { callee := .builtin .append, args := #[s, x], argTypes := #[t, t] })
    (base : Nat) (e : TypeId) (i : TypeInfo) (z : Value) (size bytes : Nat) (ht : P.underlying t = some (.slice e)) (hi : P.info? e = some i) (hz : i.zero = some z)
    (hsize : i.size = size) (hby : i.bytes = bytes) (hzs : z.cells.size = size) (hsz : 0 < size)
    (v : Value) (n : Nat) (xs : List Value) (hs : a.eval s = v) (hown : w.ownsRow base e size v n xs)
    (ad : Addr) (m c : Nat) (news : List Value) (hx : a.eval x = .slice (some ad) m c) (hl : news.length = m * size) (hnews : ∀ j u, news[j]? = some u → w.cell? (ad.add j) = some u) (h1 : ∀ u ∈ news, u.oneCell' = true)
    (h63 : n + m ≤ maxLen) (hbytes : (n + m) * bytes ≤ 140737488355328) (hbase : base ≤ w.heap.size)
    (h : ∀ v' w', w'.ownsRow base e size v' (n + m) (xs ++ news) → w.grownBy w' v.ownBlock → Fresh w v v' → wpList P ops Q rest (a.put o.dst v') w') : wpList P ops Q (o :: rest) a w :=
  wpList_plain hgd fun K hK => by
    obtain ⟨v', w', hr, h2, h3, h4⟩ := run_push (P := P) w base t o.type e i z size bytes ht hi hz hsize hby hzs hsz v n xs hown ad m c news hl hnews h1 h63 hbytes hbase
    unfold Oper.wp execOp
    simp only [ho, resolve, invoke, builtin, Sem.run_bind, Sem.run_pure, Result.andThen_ok, List.map_toArray, List.map_cons, List.map_nil, hs, hx, hr]
    exact hK _ _ (h v' w' h2 h3 h4)

theorem wpListIn_push {F : Fence} {nF : Nat} {P : Program} {w : World} {ops : Array Oper} {rest : List Oper} {o : Oper} {a : Act} {Q : Exit → Act → World → Prop} (hgd : o.guard = none) (s x : Operand) (t : TypeId)
    (ho : o.op = .call { callee := .builtin .append, args := #[s, x], argTypes := #[t, t] })
    (base : Nat) (e : TypeId) (i : TypeInfo) (z : Value) (size bytes : Nat) (ht : P.underlying t = some (.slice e)) (hi : P.info? e = some i) (hz : i.zero = some z)
    (hsize : i.size = size) (hby : i.bytes = bytes) (hzs : z.cells.size = size) (hsz : 0 < size)
    (v : Value) (n : Nat) (xs : List Value) (hs : a.eval s = v) (hown : w.ownsRow base e size v n xs)
    (ad : Addr) (m c : Nat) (news : List Value) (hx : a.eval x = .slice (some ad) m c) (hl : news.length = m * size) (hnews : ∀ j u, news[j]? = some u → w.cell? (ad.add j) = some u) (h1 : ∀ u ∈ news, u.oneCell' = true)
    (h63 : n + m ≤ maxLen) (hbytes : (n + m) * bytes ≤ 140737488355328) (hbase : base ≤ w.heap.size)
    (h : ∀ v' w', w'.ownsRow base e size v' (n + m) (xs ++ news) → w.grownBy w' v.ownBlock → Fresh w v v' → wpListIn F nF P ops Q rest (a.put o.dst v') w') : wpListIn F nF P ops Q (o :: rest) a w := by
  refine wpListIn_plain hgd fun K hK' => ?_
  obtain ⟨v', w', hrun, r1, r2, r3⟩ := run_push (P := P) w base t o.type e i z size bytes ht hi hz hsize hby hzs hsz v n xs hown ad m c news hl hnews h1 h63 hbytes hbase
  unfold Oper.wpIn
  refine ⟨?_, ?_⟩
  · simp [Oper.about, ho, resolve, Target.leads, Sem.run_pure]
  · rw [Oper.semAt_plain F _ _ (by rw [ho]; intro c hc'; cases hc')]
    simp [execOp, ho, resolve, invoke, builtin, hs, hx, hrun, Result.andThen]
    exact hK' _ _ (h v' w' r1 r2 r3)

theorem boxed_pushed {W w1 : World} {n0 n1 B : Nat} {t e : TypeId} {size : Nat} {v v' : Value} {k m : Nat} {xs ys : List Value} {tmp : Obj} {S : Nat → Prop}
    (hv : Boxed W B t v) (hte : t ≠ e) (hrow : W.ownsRow n1 e size v k xs) (hn0 : n0 ≤ W.heap.size) (hn1 : n0 ≤ n1) (hB : n0 ≤ B)
    (hS : ∀ k, S k → n0 ≤ k ∧ k < W.heap.size) (hSB : ¬ S B) (hSr : ∀ g, v.ownBlock = some g → ¬ S g)
    (hown' : w1.ownsRow n1 e size v' m ys) (hgrow : (W.alloc tmp).grownBy w1 v.ownBlock) (hfr : Fresh (W.alloc tmp) v v') :
    Boxed w1 B t v ∧ Boxed (w1.setCell ⟨B, 0, none⟩ v') B t v' ∧ (w1.setCell ⟨B, 0, none⟩ v').ownsRow n1 e size v' m ys ∧ Keep n0 S W (w1.setCell ⟨B, 0, none⟩ v') ∧ (∀ g, v'.ownBlock = some g → ¬ S g) := by
  have hv1 : Boxed w1 B t v := (hv.alloc tmp).kept hgrow (hv.not_row hte hrow)
  refine ⟨hv1, hv1.set v', hown'.kept (grownBy_setCell' w1 B v') (.inr (hv1.not_row hte hown').symm), ⟨?_, ?_⟩, ?_⟩
  · exact (((Below.refl n0 W).alloc hn0 tmp).grown hgrow (by simp; omega) fun j ej => Nat.le_trans hn1 (hrow.lt j ej).1).setCell (p := ⟨B, 0, none⟩) hB v'
  · intro k hk
    have h1 := (hS k hk).2
    rw [Below.heap_setCell _ _ _ _ (fun e => hSB (by rw [show k = B from e] at hk; exact hk)), hgrow.block k (by simp; omega) (fun e => hSr k e.symm hk)]
    exact Below.heap_alloc _ _ _ h1
  · intro g hg hs
    rcases hfr g hg with h | h
    · exact hSr g h hs
    · have := (hS g hs).2; simp at h; omega

theorem cellB {w w' : World} (hb : Below w.heap.size w w') {p : Addr} {v : Value} (h : w.cell? p = some v) : w'.cell? p = some v := by
  rw [hb.cell (World.block_lt_of_cell? w p h)]; exact h
theorem belowN {w w' : World} {B : Nat} (h : Below B w w') (n : Nat) : Below B w (w'.drewN n) := ⟨h.os, h.tape, h.output, h.size, h.block⟩

def RdS (w : World) (v : Value) (size n : Nat) (cs : List Value) : Prop :=
  cs.length = n * size ∧ ∃ a cap, v = .slice a n cap ∧ n ≤ cap ∧ cap ≤ maxLen ∧
    (cs = [] ∨ ∃ g off, a = some ⟨g, off, none⟩ ∧ ∀ i c, cs[i]? = some c → w.cell? ⟨g, off + i, none⟩ = some c)

theorem RdS.kept {w w' : World} {v : Value} {size n : Nat} {cs : List Value} (h : RdS w v size n cs) {B : Nat} (hB : ∀ (g off : Nat) (c : Value), w.cell? ⟨g, off, none⟩ = some c → g < B) (hb : Below B w w') : RdS w' v size n cs := by
  obtain ⟨h1, a, cap, h2, h3, h4, h5⟩ := h
  refine ⟨h1, a, cap, h2, h3, h4, ?_⟩
  rcases h5 with h5 | ⟨g, off, rfl, hc⟩
  · exact .inl h5
  · exact .inr ⟨g, off, rfl, fun i c hi => by rw [hb.cell (p := ⟨g, off + i, none⟩) (hB _ _ _ (hc i c hi))]; exact hc i c hi⟩
theorem RdS.below {w w' : World} {v : Value} {size n : Nat} {cs : List Value} (h : RdS w v size n cs) (hb : Below w.heap.size w w') : RdS w' v size n cs :=
  h.kept (fun _ _ _ hc => World.block_lt_of_cell? w _ hc) hb

theorem RdS.of_owns {w : World} {base : Nat} {e : TypeId} {size : Nat} {v : Value} {n : Nat} {xs : List Value} (h : w.ownsRow base e size v n xs) : RdS w v size n xs := by
  refine ⟨h.1, ?_⟩
  rcases h.2 with ⟨rfl, rfl⟩ | ⟨g, cap, cur, rfl, _, hg, hnc, hcm, hcs, htake⟩
  · exact ⟨none, 0, rfl, Nat.le_refl _, Nat.zero_le _, .inl (List.eq_nil_of_length_eq_zero (by simpa using h.1))⟩
  · refine ⟨_, cap, rfl, hnc, hcm, .inr ⟨g, 0, rfl, fun i c hi => ?_⟩⟩
    have := h.cells (g := g) rfl i c hi
    simpa [Addr.add_lit] using this

theorem RdS.cases {w : World} {v : Value} {size n : Nat} {cs : List Value} (h : RdS w v size n cs) (hsz : 0 < size) :
    (n = 0 ∧ cs = [] ∧ ∃ a cap, v = .slice a 0 cap ∧ cap ≤ maxLen) ∨
    (0 < n ∧ cs.length = n * size ∧ ∃ g off cap, v = .slice (some ⟨g, off, none⟩) n cap ∧ n ≤ cap ∧ cap ≤ 9223372036854775807 ∧ ∀ i c, cs[i]? = some c → w.cell? ⟨g, off + i, none⟩ = some c) := by
  obtain ⟨h1, a, cap, h2, h3, h4, h5⟩ := h
  rcases Nat.eq_zero_or_pos n with rfl | hn
  · exact .inl ⟨rfl, List.eq_nil_of_length_eq_zero (by simpa using h1), a, cap, h2, h4⟩
  · right
    rcases h5 with rfl | ⟨g, off, rfl, hc⟩
    · have : 0 < n * size := Nat.mul_pos hn hsz
      simp at h1; omega
    · exact ⟨hn, h1, g, off, cap, h2, h3, by simpa [maxLen] using h4, hc⟩

theorem bthen {B : Nat} {w a b : World} (h : Below B w a) (hB : B ≤ w.heap.size) (k : Below a.heap.size a b) : Below B w b := h.trans (k.mono (Nat.le_trans hB h.size))

theorem RdS.form {w : World} {v : Value} {size n : Nat} {cs : List Value} (h : RdS w v size n cs) : ∃ a c, v = .slice a n c := by
  obtain ⟨_, a, c, h, _⟩ := h; exact ⟨a, c, h⟩
theorem ownsB {w w' : World} {base : Nat} {e : TypeId} {size n : Nat} {v : Value} {xs : List Value} (h : w.ownsRow base e size v n xs) (hb : Below w.heap.size w w') : w'.ownsRow base e size v n xs := by
  refine ⟨h.1, ?_⟩
  rcases h.2 with h1 | ⟨g, cap, cur, hv, hg, hh, rest⟩
  · exact .inl h1
  · exact .inr ⟨g, cap, cur, hv, hg, (hb.block g (Array.getElem?_eq_some_iff.1 hh).1).trans hh, rest⟩
theorem ownsRow_mono {w : World} {base base' : Nat} {e : TypeId} {size n : Nat} {v : Value} {xs : List Value} (h : w.ownsRow base e size v n xs) (hb : base' ≤ base) : w.ownsRow base' e size v n xs := by
  refine ⟨h.1, ?_⟩
  rcases h.2 with h1 | ⟨g, cap, cur, hv, hg, rest⟩
  · exact .inl h1
  · exact .inr ⟨g, cap, cur, hv, Nat.le_trans hb hg, rest⟩
theorem cells2 {W : World} {B : Nat} {x y : Value} {t : TypeId} (h : W.heap[B]? = some (.cells #[x, y] t (0, 0))) :
    W.cell? ⟨B, 0, none⟩ = some x ∧ W.cell? ⟨B, 1, none⟩ = some y ∧ W.frozen? ⟨B, 0, none⟩ = false ∧ W.frozen? ⟨B, 1, none⟩ = false := by
  simp [World.cell?, World.frozen?, h]
theorem below_push {B : Nat} {w wr w1 : World} {base : Nat} {e : TypeId} {size n : Nat} {v : Value} {xs : List Value} (hb : Below B w wr) (hB : B ≤ wr.heap.size) (h : wr.ownsRow base e size v n xs) (hbase : B ≤ base) {o : Obj} (hg : (wr.alloc o).grownBy w1 v.ownBlock) : Below B w w1 :=
  (hb.alloc hB _).grown hg (by simp; omega) (fun j ej => Nat.le_trans hbase (h.lt j ej).1)
end Go.Proofs.YtdhgcgejdoedbaaGreatDoor

/-
  Worlds in which of the old blocks none but one is another. Conditions: none of the program's.
-/
namespace Go.Proofs.YtdhgcgejdoedbaaGreatDoor
open Go Go.RowKit

structure But (B : Nat) (w w' : World) : Prop where
  os : w'.os = w.os
  tape : w'.tape = w.tape
  output : w'.output = w.output
  size : w.heap.size ≤ w'.heap.size
  block : ∀ k, k < w.heap.size → k ≠ B → w'.heap[k]? = w.heap[k]?
theorem But.of_below {B : Nat} {w w' : World} (h : Below w.heap.size w w') : But B w w' := ⟨h.os, h.tape, h.output, h.size, fun k hk _ => h.block k hk⟩
theorem But.trans {B : Nat} {w a b : World} (h : But B w a) (h' : But B a b) : But B w b :=
  ⟨h'.os.trans h.os, h'.tape.trans h.tape, h'.output.trans h.output, Nat.le_trans h.size h'.size, fun k hk hn => (h'.block k (Nat.lt_of_lt_of_le hk h.size) hn).trans (h.block k hk hn)⟩
theorem But.set {B i : Nat} {w : World} {x : Value} : But B w (w.setCell ⟨B, i, none⟩ x) :=
  have h := (Below.refl B w).setCell (p := ⟨B, i, none⟩) (Nat.le_refl _) x
  ⟨h.os, h.tape, h.output, h.size, fun k _ hn => Below.heap_setCell _ _ _ k hn⟩
theorem But.below {B n : Nat} {w w' : World} (h : But B w w') (hn : n ≤ B) (hB : n ≤ w.heap.size) : Below n w w' :=
  ⟨h.os, h.tape, h.output, h.size, fun k hk => h.block k (by omega) (by omega)⟩
theorem But.boxed {B : Nat} {w w' : World} (h : But B w w') {k : Nat} {t : TypeId} {v : Value} (hb : Boxed w k t v) (hk : k ≠ B) : Boxed w' k t v := (h.block k hb.lt hk).trans hb
theorem But.toBelow {n B : Nat} {w w' : World} (h : But B w w') (hn : n ≤ w.heap.size) (hB : n ≤ B) : Below n w w' := ⟨h.os, h.tape, h.output, h.size, fun k hk => h.block k (by omega) (by omega)⟩
end Go.Proofs.YtdhgcgejdoedbaaGreatDoor
