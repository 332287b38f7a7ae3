/-
  utf: taken, First, Runes, Count, Check, Plain: contracts.
-/
import Derived.Lib.Strings
import Derived.Lib.Slices
import Derived.Lib.Walk
import Derived.Lib.IndexBytes
import Derived.Lib.OthersKept
import Derived.Deep.QuietTactic
import Derived.BigQuiet
import Derived.Laws.OwnMore
import Derived.Test.YtdhgcgejdoedbaaGreatDoorBw2
import Derived.Test.YtdhgcgejdoedbaaGreatDoorBw6
import Derived.Test.YtdhgcgejdoedbaaGreatDoorBw10
import Derived.Test.YtdhgcgejdoedbaaGreatDoorBw13
namespace Go.Proofs.YtdhgcgejdoedbaaGreatDoor
open Go.RowKit

theorem HasPrefix_any (s p : ByteArray) (w : World) :
    Calls Tryz.prog 99 #[.string s, .string p] w fun e w' => e = .returned (.bool (Lib.hasPrefix s.data.toList p.data.toList)) ∧ w = w' := by
  rw [← Lib.hasPrefix_of_take, ← Lib.size_eq, ← Lib.size_eq]
  go_enter Tryz.func99, Tryz.ntmps99
  go_wp2
  · rename_i h
    go_ret
    refine ⟨?_, rfl⟩
    show Ending.returned (Value.bool ((s.extract 0 p.size).toList == p.toList)) = _
    rw [Lib.extract_toList, Lib.toList_data]
    simp [h]
  · rename_i h
    go_ret
    refine ⟨?_, rfl⟩
    show Ending.returned (Value.bool false) = _
    simp [h]

theorem bsN_enc {c : Nat} (h : validN c) : bsN (Utf8.encode (c : Int)) = encN c := by
  have hv : Utf8.valid (c : Int) = true := by
    unfold validN at h
    simp [Utf8.valid]; omega
  unfold Utf8.encode
  rw [if_pos hv, Int.toNat_natCast]
  unfold validN at h
  unfold encN bsN
  dsimp only
  split
  · simp; omega
  · split
    · simp; omega
    · split
      · simp; omega
      · simp; omega
theorem enc_size {c : Nat} (h : validN c) : (Utf8.encode (c : Int)).size = (encN c).length := by rw [← bsN_enc h, bsN_len]

def takN (l : List Nat) : Nat := if badL l then 0 else (decH l).2
theorem takN_bad {l : List Nat} (h : badL l = true) : takN l = 0 := by unfold takN; rw [if_pos h]
theorem takN_ok {l : List Nat} (h : badL l = false) : takN l = (decH l).2 := by unfold takN; rw [h]; rfl

theorem nat_prefix {a b : List UInt8} : b.isPrefixOf a = (b.map UInt8.toNat).isPrefixOf (a.map UInt8.toNat) := by
  induction b generalizing a with
  | nil => simp
  | cons x b ih =>
    cases a with
    | nil => simp
    | cons y a =>
      simp only [List.isPrefixOf, List.map_cons, ih]
      congr 1
      rw [Bool.eq_iff_iff]; simp [UInt8.toNat_inj]
theorem wrong_prefix {s : ByteArray} {p : Nat} (hp : p < s.size) (h : (decH ((bsN s).drop p)).1 = 65533) :
    Lib.hasPrefix (s.extract p s.size).data.toList [239, 191, 189] = !badL ((bsN s).drop p) ∧ (badL ((bsN s).drop p) = false → (decH ((bsN s).drop p)).2 = 3) := by
  have hne : (bsN s).drop p ≠ [] := by
    intro e; have := congrArg List.length e; simp [bsN_len] at this; omega
  have hb : AllLt 256 ((bsN s).drop p) := fun b hb => bsN_lt s b (List.mem_of_mem_drop hb)
  have e1 : Lib.hasPrefix (s.extract p s.size).data.toList [239, 191, 189] = [239, 191, 189].isPrefixOf ((bsN s).drop p) := by
    unfold Lib.hasPrefix
    rw [Lib.extract_to_end, nat_prefix, List.map_drop]; rfl
  rw [e1]
  have henc : encN 65533 = [239, 191, 189] := by decide
  cases hg : badL ((bsN s).drop p) with
  | true =>
    refine ⟨?_, by simp⟩
    show _ = false
    rw [Bool.eq_false_iff]
    intro hpre
    obtain ⟨t, ht⟩ := List.isPrefixOf_iff_prefix.1 hpre
    have := (enc_decH (c := 65533) (by unfold validN; omega) t).2
    rw [henc, ht, hg] at this
    cases this
  | false =>
    have h1 := decH_enc hne hb hg
    rw [h, henc] at h1
    have hf := decH_facts hne
    have h2 := congrArg List.length h1
    rw [List.length_take, Nat.min_eq_left hf.2.2.1] at h2
    refine ⟨?_, fun _ => h2.symm⟩
    show _ = true
    rw [List.isPrefixOf_iff_prefix, h1]
    exact List.take_prefix _ _

set_option maxRecDepth 100000 in
theorem taken_any (s : ByteArray) (p : Nat) (w : World) (hp : p < s.size) (_hs : s.size ≤ 9223372036854775807) :
    Calls Tryz.prog 73 #[.string s, .int .i64 p, .int .i32 (decH ((bsN s).drop p)).1] w fun e w' => e = .returned (.int .i64 (takN ((bsN s).drop p))) ∧ w = w' := by
  have hne : (bsN s).drop p ≠ [] := by
    intro e; have := congrArg List.length e; simp [bsN_len] at this; omega
  have hf := decH_facts hne
  have hb : AllLt 256 ((bsN s).drop p) := fun b hb => bsN_lt s b (List.mem_of_mem_drop hb)
  by_cases hr : (decH ((bsN s).drop p)).1 = 65533
  · obtain ⟨h1, h2⟩ := wrong_prefix hp hr
    have H1 := Lib.hid h1
    rw [hr]
    cases hg : badL ((bsN s).drop p) with
    | true =>
      have HT := Lib.hid (takN_bad hg)
      rw [hg] at H1
      clear h1 h2 hg hr hf hb hne
      go_enter Tryz.func73, Tryz.ntmps73
      go_wp2_with fail
      refine (HasPrefix_any _ _ _).mono ?_
      rintro e w' ⟨rfl, rfl⟩
      rw [H1.out]
      go_wp2
      go_ret
      exact ⟨by rw [HT.out]; rfl, rfl⟩
    | false =>
      have HT := Lib.hid (takN_ok hg)
      rw [h2 hg] at HT
      rw [hg] at H1
      clear h1 h2 hg hr hf hb hne
      go_enter Tryz.func73, Tryz.ntmps73
      go_wp2_with fail
      refine (HasPrefix_any _ _ _).mono ?_
      rintro e w' ⟨rfl, rfl⟩
      rw [H1.out]
      go_wp2
      go_ret
      exact ⟨by rw [HT.out]; rfl, rfl⟩
  · have hg : badL ((bsN s).drop p) = false := by
      unfold badL; simp; intro e; rw [e] at hr; exact absurd rfl hr
    have HT := Lib.hid (takN_ok hg)
    have h1 := decH_enc hne hb hg
    have h2 := congrArg List.length h1
    rw [List.length_take, Nat.min_eq_left hf.2.2.1, ← enc_size hf.2.2.2] at h2
    have HZ := Lib.hid h2
    clear h1 h2 hg hb hne
    generalize (decH ((bsN s).drop p)).1 = r at *
    have hn1 : ((r : Int) == 65533) = false := by simp; omega
    have hn2 : ((r : Int) != 65533) = true := by simp; omega
    clear hr
    go_enter Tryz.func73, Tryz.ntmps73
    go_wp2
    go_ret
    exact ⟨by rw [HT.out, ← HZ.out]; rfl, rfl⟩

set_option maxRecDepth 100000 in
theorem First_any (s : ByteArray) (w : World) (hs : s.size ≤ 9223372036854775807) :
    Calls Tryz.prog 50 #[.string s] w fun e w' => e = .returned (.int .i64 (firstX 0 (bsN s))) ∧ Below w.heap.size w w' := by
  go_enter Tryz.func50, Tryz.ntmps50
  go_wp2
  go_loopw [] (fun wr => ∃ pos : Nat, pos ≤ s.size ∧ wr.heap[w.heap.size]? = some (.stringIter s pos) ∧ Hid (firstX 0 (bsN s) = firstX pos ((bsN s).drop pos)) ∧ Below w.heap.size w wr) (fun wr => s.size - wr.iterPos w.heap.size)
  case atStart =>
    exact ⟨0, by omega, World.iter_heap w s 0, Lib.hid (by simp), (Below.refl _ w).alloc (Nat.le_refl _) _⟩
  case round =>
    obtain ⟨pos, hp, hit, HL, hb⟩ := hrel
    have HIT := Lib.hid hit
    by_cases hlt : pos < s.size
    · have hne : (bsN s).drop pos ≠ [] := by
        intro e; have := congrArg List.length e; simp [bsN_len] at this; omega
      have hf := decH_facts hne
      have hlen : (decH ((bsN s).drop pos)).2 ≤ s.size - pos := by have := hf.2.2.1; simpa [bsN_len] using this
      have hf1 := hf.1
      have hnx : ∀ ty, (Instr.next (.pointer (some ⟨w.heap.size, 0, none⟩)) true ty).run Tryz.prog wr = .ok (.tuple #[.bool true, .int .i64 pos, .int .i32 (decH ((bsN s).drop pos)).1]) (wr.iterAt w.heap.size s (pos + (decH ((bsN s).drop pos)).2)) := fun ty => by
        rw [Lib.run_next_any_at wr w.heap.size s pos ty hit hlt, decode_list]
      have HT := Lib.hid (fun w' => taken_any s pos w' hlt hs)
      have hit2 := Lib.iterAt_heap wr w.heap.size s pos (pos + (decH ((bsN s).drop pos)).2) hit
      have hb2 := Lib.below_iterAt hb (k := w.heap.size) (Nat.le_refl _) s (pos + (decH ((bsN s).drop pos)).2)
      have HIT2 := Lib.hid hit2
      cases hg : badL ((bsN s).drop pos) with
      | true =>
        have HF := Lib.hid (firstX_bad (p := pos) hne hg)
        rw [takN_bad hg] at HT
        clear hne hf hit hit2 hg
        generalize decH ((bsN s).drop pos) = d at *
        obtain ⟨r, wd⟩ := d
        dsimp only at *
        go_wp2_with (go_at_call 73; refine (HT.out _).mono ?_; rintro e w' ⟨rfl, rfl⟩)
        go_ret
        exact ⟨by rw [HL.out, HF.out]; rfl, hb2⟩
      | false =>
        have HF := Lib.hid (firstX_step (p := pos) hne hg)
        rw [takN_ok hg] at HT
        have hdd : ((bsN s).drop pos).drop (decH ((bsN s).drop pos)).2 = (bsN s).drop (pos + (decH ((bsN s).drop pos)).2) := List.drop_drop
        rw [hdd] at HF
        clear hne hf hit hit2 hg hdd
        generalize decH ((bsN s).drop pos) = d at *
        obtain ⟨r, wd⟩ := d
        dsimp only at *
        have hw0 : ((wd : Int) == 0) = false := by simp; omega
        go_wp2_with (go_at_call 73; refine (HT.out _).mono ?_; rintro e w' ⟨rfl, rfl⟩)
        go_roundw
        case rel => exact ⟨pos + wd, by omega, HIT2.out, Lib.hid (by rw [HL.out, HF.out]), hb2⟩
        case measure => simp only [World.iterPos, HIT2.out, HIT.out]; omega
    · have hnx : ∀ ty, (Instr.next (.pointer (some ⟨w.heap.size, 0, none⟩)) true ty).run Tryz.prog wr = _ := fun ty => Lib.run_next_end_at wr w.heap.size s pos ty hit hlt
      have HE : Hid (firstX pos ((bsN s).drop pos) = -1) := Lib.hid (by rw [List.drop_of_length_le (by rw [bsN_len]; omega)]; rfl)
      clear hit
      go_wp2
      go_ret
      exact ⟨by rw [HL.out, HE.out]; rfl, hb⟩
end Go.Proofs.YtdhgcgejdoedbaaGreatDoor

/-
  utf: Runes, Count, Check, Plain: contracts.
-/
namespace Go.Proofs.YtdhgcgejdoedbaaGreatDoor
open Go.RowKit

def checkN (l : List Nat) (most : Int) : Int := if most < l.length then 2 else if firstX 0 l < 0 then 0 else 9
set_option maxRecDepth 100000 in
theorem Check_any (s : ByteArray) (most : Int) (w : World) (hs : s.size ≤ 9223372036854775807) :
    Calls Tryz.prog 33 #[.string s, .int .i64 most] w fun e w' => e = .returned (.int .i64 (checkN (bsN s) most)) ∧ Below w.heap.size w w' := by
  have hc : checkN (bsN s) most = if most < s.size then 2 else if firstX 0 (bsN s) < 0 then 0 else 9 := by unfold checkN; rw [bsN_len]
  rw [hc]
  have HF := Lib.hid (fun w => First_any s w hs)
  generalize firstX 0 (bsN s) = f at *
  clear hc
  by_cases h1 : most < s.size
  · rw [if_pos h1]
    go_enter Tryz.func33, Tryz.ntmps33
    go_wp2
    go_ret
    exact ⟨rfl, Below.refl _ _⟩
  · rw [if_neg h1]
    have hd1 : decide (most < (s.size : Int)) = false := by simpa using h1
    clear h1
    by_cases h2 : f < 0
    · rw [if_pos h2]
      have hd2 : decide (0 ≤ f) = false := by simp; omega
      clear h2
      go_enter Tryz.func33, Tryz.ntmps33
      go_wp2_with fail
      refine (HF.out _).mono ?_
      rintro e w1 ⟨rfl, hb⟩
      go_wp2
      go_ret
      exact ⟨rfl, hb⟩
    · rw [if_neg h2]
      have hd2 : decide (0 ≤ f) = true := by simp; omega
      clear h2
      go_enter Tryz.func33, Tryz.ntmps33
      go_wp2_with fail
      refine (HF.out _).mono ?_
      rintro e w1 ⟨rfl, hb⟩
      go_wp2
      go_ret
      exact ⟨rfl, hb⟩

theorem byte_at (s : ByteArray) (k : Nat) (h : k < s.size) : (s[k].toNat : Nat) = (bsN s)[k]?.getD 0 := by
  rw [← bsN_get]; simp [ByteArray.get!, h]; rfl
end Go.Proofs.YtdhgcgejdoedbaaGreatDoor

/-
  Trees: what is alike, what is wrong, how deep (plain; no program).
-/
namespace Go.Proofs.YtdhgcgejdoedbaaGreatDoor
open Go Go.RowKit

instance instLawfulBEqBytes : LawfulBEq ByteArray where
  eq_of_beq {a b} h := by
    have h' : (a.data == b.data) = true := h
    cases a; cases b; simp at h'; rw [h']
  rfl {a} := by
    show (a.data == a.data) = true
    simp

def firstNZ : List Int → Int
  | [] => 0
  | a :: l => if a = 0 then firstNZ l else a
theorem firstNZ_append (a b : List Int) : firstNZ (a ++ b) = if firstNZ a = 0 then firstNZ b else firstNZ a := by
  induction a with
  | nil => simp [firstNZ]
  | cons x a ih =>
    simp only [List.cons_append, firstNZ]
    split
    · exact ih
    · rfl
theorem firstNZ_stop {l : List Int} {k : Nat} (hk : k < l.length) (h0 : firstNZ (l.take k) = 0) (h1 : l[k] ≠ 0) : firstNZ l = l[k] := by
  conv => lhs; rw [← List.take_append_drop k l, firstNZ_append, if_pos h0, List.drop_eq_getElem_cons hk]
  simp [firstNZ, h1]
theorem firstNZ_go {l : List Int} {k : Nat} (hk : k < l.length) (h0 : firstNZ (l.take k) = 0) (h1 : l[k] = 0) : firstNZ (l.take (k + 1)) = 0 := by
  rw [List.take_succ_eq_append_getElem hk, firstNZ_append, if_pos h0, h1]; rfl
theorem firstNZ_zero {l : List Int} : firstNZ l = 0 ↔ ∀ x ∈ l, x = 0 := by
  induction l with
  | nil => simp [firstNZ]
  | cons a l ih =>
    simp only [firstNZ, List.mem_cons, forall_eq_or_imp]
    split
    · rename_i h; simp [h, ih]
    · rename_i h; simp [h]

mutual
def sameT : Tree → Tree → Bool
  | .mk k t ks kids _, .mk k' t' ks' kids' _ => decide (k = k') && decide (t = t') && decide (ks = ks') && sameTs kids kids'
def sameTs : List Tree → List Tree → Bool
  | [], [] => true
  | a :: l, b :: m => sameT a b && sameTs l m
  | [], _ :: _ => false
  | _ :: _, [] => false
end
theorem sameTs_len : ∀ {l m : List Tree}, sameTs l m = true → l.length = m.length
  | [], [], _ => rfl
  | a :: l, b :: m, h => by
    simp only [sameTs, Bool.and_eq_true] at h
    simp [sameTs_len h.2]
  | [], _ :: _, h => by simp [sameTs] at h
  | _ :: _, [], h => by simp [sameTs] at h
theorem sameTs_iff : ∀ {l m : List Tree}, sameTs l m = true ↔ l.length = m.length ∧ ∀ (i : Nat) (a b : Tree), l[i]? = some a → m[i]? = some b → sameT a b = true
  | [], [] => by simp [sameTs]
  | a :: l, b :: m => by
    simp only [sameTs, Bool.and_eq_true, List.length_cons, Nat.add_right_cancel_iff]
    rw [sameTs_iff]
    constructor
    · rintro ⟨h1, h2, h3⟩
      refine ⟨h2, fun i x y hx hy => ?_⟩
      cases i with
      | zero => simp at hx hy; subst hx hy; exact h1
      | succ i => exact h3 i x y (by simpa using hx) (by simpa using hy)
    · rintro ⟨h2, h3⟩
      exact ⟨h3 0 a b rfl rfl, h2, fun i x y hx hy => h3 (i + 1) x y (by simpa using hx) (by simpa using hy)⟩
  | [], _ :: _ => by simp [sameTs]
  | _ :: _, [] => by simp [sameTs]
theorem sameT_refl : ∀ t, sameT t t = true := by
  refine Tree.ind fun k t ks kids l ih => ?_
  simp only [sameT, decide_true, Bool.true_and]
  exact sameTs_iff.2 ⟨rfl, fun i a b ha hb => by rw [ha] at hb; cases hb; exact ih a (List.mem_of_getElem? ha)⟩
mutual
def preT (most : Nat) : Nat → Tree → List (Nat × Tree)
  | lev, .mk k t ks kids l => if most < lev then [] else (lev, .mk k t ks kids l) :: preTs most (lev + 1) kids
def preTs (most : Nat) : Nat → List Tree → List (Nat × Tree)
  | _, [] => []
  | lev, a :: l => preT most lev a ++ preTs most lev l
end

def hasS (l : List ByteArray) (s : ByteArray) : Bool := l.contains s
def keyC (l : List ByteArray) (i : Nat) (s : ByteArray) : Int := if checkN (bsN s) 64 = 0 then (if hasS (l.take i) s then 6 else 0) else checkN (bsN s) 64
def keysE (l : List ByteArray) : List Int := l.mapIdx fun i s => keyC l i s
def keysC (l : List ByteArray) : Int := firstNZ (keysE l)
def oddT : Tree → Bool
  | .mk k t ks kids _ => if k = 1 then decide (0 < ks.length + kids.length) else if k = 2 then decide (t.size ≠ 0) || decide (0 < ks.length) else decide (t.size ≠ 0) || decide (ks.length ≠ kids.length)
def nodeC (lev : Nat) (x : Tree) : Int :=
  if 16 < lev then 11 else if x.kind < 1 ∨ 3 < x.kind then 7 else if oddT x then 3 else if checkN (bsN x.text) 4096 = 0 then keysC x.keys else checkN (bsN x.text) 4096
def checkT (t : Tree) : Int := firstNZ ((preT 17 1 t).map fun x => nodeC x.1 x.2)
mutual
def rcheckT : Nat → Tree → Int
  | lev, .mk k t ks kids l => if nodeC lev (.mk k t ks kids l) = 0 then rcheckTs (lev + 1) kids else nodeC lev (.mk k t ks kids l)
def rcheckTs : Nat → List Tree → Int
  | _, [] => 0
  | lev, a :: l => if rcheckT lev a = 0 then rcheckTs lev l else rcheckT lev a
end
theorem rcheckTs_first (lev : Nat) (l : List Tree) : rcheckTs lev l = firstNZ (l.map (rcheckT lev)) := by
  induction l with
  | nil => rfl
  | cons a l ih => simp only [rcheckTs, List.map_cons, firstNZ, ih]
theorem rcheckT_pre : ∀ t lev, lev ≤ 17 → rcheckT lev t = firstNZ ((preT 17 lev t).map fun x => nodeC x.1 x.2) := by
  refine Tree.ind fun k t ks kids l ih lev hlev => ?_
  rw [rcheckT, preT, if_neg (show ¬ 17 < lev by omega), List.map_cons, firstNZ]
  split
  · rename_i h0
    have hl16 : lev ≤ 16 := by
      rcases Nat.lt_or_ge 16 lev with h | h
      · simp [nodeC, h] at h0
      · exact h
    have hk : ∀ m : List Tree, (∀ x ∈ m, x ∈ kids) → rcheckTs (lev + 1) m = firstNZ ((preTs 17 (lev + 1) m).map fun x => nodeC x.1 x.2) := by
      intro m hm
      induction m with
      | nil => rfl
      | cons a m ihm =>
        rw [rcheckTs, preTs, List.map_append, firstNZ_append, ← ih a (hm a (List.mem_cons_self ..)) (lev + 1) (by omega), ihm (fun x hx => hm x (List.mem_cons_of_mem _ hx))]
    exact hk kids fun x hx => hx
  · rfl
theorem rcheckT_check (t : Tree) : rcheckT 1 t = checkT t := rcheckT_pre t 1 (by omega)

mutual
def depthT : Nat → Tree → Nat
  | 0, _ => 0
  | n + 1, .mk _ _ _ kids _ => depthTs n kids + 1
def depthTs : Nat → List Tree → Nat
  | _, [] => 0
  | n, a :: l => max (depthT n a) (depthTs n l)
end
mutual
def countT : Nat → Tree → Nat
  | 0, _ => 0
  | n + 1, .mk _ _ _ kids _ => countTs n kids + 1
def countTs : Nat → List Tree → Nat
  | _, [] => 0
  | n, a :: l => countT n a + countTs n l
end
mutual
def smallT : Nat → Tree → Int → Bool × Int
  | 0, _, left => (false, left - 1)
  | n + 1, .mk _ t ks kids _, left => if left - 1 < 0 ∨ 5000 < t.size ∨ 200 < ks.length then (false, left - 1) else if ks.all (fun s => decide (s.size ≤ 200)) then smallTs n kids (left - 1) else (false, left - 1)
def smallTs : Nat → List Tree → Int → Bool × Int
  | _, [], left => (true, left)
  | n, a :: l, left => if (smallT n a left).1 then smallTs n l (smallT n a left).2 else (false, (smallT n a left).2)
end
inductive SmallP : Nat → Tree → Prop
  | mk {n k : Nat} {t : ByteArray} {ks : List ByteArray} {kids : List Tree} {l : Int} (ht : t.size ≤ 5000) (hks : ks.length ≤ 200) (hk : ∀ s ∈ ks, s.size ≤ 200) (hkids : ∀ x ∈ kids, SmallP n x) (hlen : kids.length ≤ 150) : SmallP (n + 1) (.mk k t ks kids l)
theorem smallT_le : ∀ t n left, (smallT n t left).2 ≤ left - 1 ∧ ((smallT n t left).1 = true → SmallP n t ∧ 0 ≤ (smallT n t left).2 ∧ left = (smallT n t left).2 + countT n t ∨ 150 < left) := by
  refine Tree.ind fun k t ks kids l ih n left => ?_
  cases n with
  | zero => simp [smallT]
  | succ n =>
    have hk : ∀ m : List Tree, (∀ x ∈ m, x ∈ kids) → ∀ left, (smallTs n m left).2 ≤ left - m.length ∨ (smallTs n m left).1 = false ∧ (smallTs n m left).2 ≤ left := by
      intro m hm
      induction m with
      | nil => intro left; left; simp [smallTs]
      | cons a m ihm =>
        intro left
        rw [smallTs]
        have ha := (ih a (hm a (List.mem_cons_self ..)) n left).1
        split
        · rcases ihm (fun x hx => hm x (List.mem_cons_of_mem _ hx)) (smallT n a left).2 with h | h
          · left; rw [List.length_cons]; omega
          · right; exact ⟨h.1, by omega⟩
        · right; exact ⟨rfl, by show (smallT n a left).2 ≤ left; omega⟩
    have hk2 : ∀ m : List Tree, (∀ x ∈ m, x ∈ kids) → ∀ left, left ≤ 150 → 0 ≤ left → (smallTs n m left).1 = true → (∀ x ∈ m, SmallP n x) ∧ 0 ≤ (smallTs n m left).2 ∧ left = (smallTs n m left).2 + countTs n m := by
      intro m hm
      induction m with
      | nil => intro left _ h0 _; simp [smallTs, countTs, h0]
      | cons a m ihm =>
        intro left hle h0
        rw [smallTs]
        have ha := ih a (hm a (List.mem_cons_self ..)) n left
        split
        · rename_i h1
          intro h2
          rcases ha.2 h1 with ⟨h3, h4, h5⟩ | h3
          · obtain ⟨h6, h7, h8⟩ := ihm (fun x hx => hm x (List.mem_cons_of_mem _ hx)) _ (by omega) h4 h2
            refine ⟨fun x hx => ?_, h7, ?_⟩
            · rcases List.mem_cons.1 hx with rfl | hx
              · exact h3
              · exact h6 x hx
            · rw [countTs]; omega
          · omega
        · intro h2; cases h2
    rw [smallT]
    split
    · exact ⟨Int.le_refl _, fun h => by cases h⟩
    · rename_i hc
      split
      · rename_i hall
        constructor
        · rcases hk kids (fun x hx => hx) (left - 1) with h | h <;> omega
        · intro h1
          by_cases hl : 150 < left
          · exact .inr hl
          · obtain ⟨h2, h3, h4⟩ := hk2 kids (fun x hx => hx) (left - 1) (by omega) (by omega) h1
            left
            refine ⟨.mk (by omega) (by omega) (fun s hs => by simpa using List.all_eq_true.1 hall s hs) h2 ?_, h3, by rw [countT]; omega⟩
            rcases hk kids (fun x hx => hx) (left - 1) with h | h
            · omega
            · rw [h.1] at h1; cases h1
      · exact ⟨Int.le_refl _, fun h => by cases h⟩
def smallTB (t : Tree) : Bool := (smallT 18 t 150).1
theorem small_of {t : Tree} (h : smallTB t = true) : SmallP 18 t ∧ countT 18 t ≤ 150 := by
  rcases (smallT_le t 18 150).2 h with ⟨h1, h2, h3⟩ | h1
  · exact ⟨h1, by omega⟩
  · omega
theorem SmallP.parts {n k : Nat} {t : ByteArray} {ks : List ByteArray} {kids : List Tree} {l : Int} (h : SmallP n (.mk k t ks kids l)) : ∃ m, n = m + 1 ∧ t.size ≤ 5000 ∧ ks.length ≤ 200 ∧ (∀ s ∈ ks, s.size ≤ 200) ∧ (∀ x ∈ kids, SmallP m x) ∧ kids.length ≤ 150 := by
  cases h with
  | mk h1 h2 h3 h4 h5 => exact ⟨_, rfl, h1, h2, h3, h4, h5⟩
end Go.Proofs.YtdhgcgejdoedbaaGreatDoor

/-
  utf: the reference's Rune and One: contracts.
-/
namespace Go.Proofs.YtdhgcgejdoedbaaGreatDoor
open Go.RowKit

instance (c : Nat) : Decidable (validN c) := by unfold validN; infer_instance
end Go.Proofs.YtdhgcgejdoedbaaGreatDoor

/-
  Trees whose blocks are known (no program).
-/
namespace Go.Proofs.YtdhgcgejdoedbaaGreatDoor
open Go Go.RowKit

theorem RdS.keepB {w w' : World} {v : Value} {size n : Nat} {cs : List Value} (h : RdS w v size n cs) (hk : ∀ g, v.ownBlock = some g → g < w.heap.size → w'.heap[g]? = w.heap[g]?) : RdS w' v size n cs := by
  obtain ⟨h1, a, cap, rfl, h3, h4, h5⟩ := h
  refine ⟨h1, a, cap, rfl, h3, h4, ?_⟩
  rcases h5 with h5 | ⟨g, off, rfl, hc⟩
  · exact .inl h5
  · refine .inr ⟨g, off, rfl, fun i c hi => ?_⟩
    have h6 := hc i c hi
    have h7 := World.block_lt_of_cell? w _ h6
    have h8 := hk g (by simp [Value.ownBlock]) h7
    rw [← h6]
    simp only [World.cell?, h8]

theorem RdS.keepN {w w' : World} {v : Value} {size n : Nat} {cs : List Value} (h : RdS w v size n cs) (hk : n ≠ 0 → ∀ g, v.ownBlock = some g → g < w.heap.size → w'.heap[g]? = w.heap[g]?) : RdS w' v size n cs := by
  by_cases hn : n = 0
  · subst hn
    obtain ⟨h1, a, cap, h2, h3, h4, h5⟩ := h
    rw [Nat.zero_mul] at h1
    exact ⟨by rw [Nat.zero_mul]; exact h1, a, cap, h2, h3, h4, .inl (List.eq_nil_of_length_eq_zero h1)⟩
  · exact h.keepB (hk hn)
theorem RdS.lt {w : World} {v : Value} {size n : Nat} {cs : List Value} (h : RdS w v (size + 1) n cs) (hn : n ≠ 0) : ∀ g, v.ownBlock = some g → g < w.heap.size := by
  obtain ⟨h1, a, cap, rfl, h3, h4, h5⟩ := h
  intro g hg
  have hp : 0 < cs.length := by rw [h1]; exact Nat.mul_pos (by omega) (by omega)
  rcases h5 with h5 | ⟨b, off, rfl, hc⟩
  · rw [h5] at hp; cases hp
  · have h6 := World.block_lt_of_cell? w _ (hc 0 _ (List.getElem?_eq_getElem hp))
    have : b = g := by simpa [Value.ownBlock] using hg
    rw [← this]; exact h6

inductive NodeO (w : World) (P : Nat → Prop) : List Value → Tree → Prop
  | mk {k : Nat} {t : ByteArray} {ks : List ByteArray} {kids : List Tree} {line : Int} {vk vc : Value} (rows : List (List Value)) (hk8 : k < 256) (ht : t.size ≤ maxLen) (hks : ∀ s ∈ ks, s.size ≤ maxLen) (hline : -9223372036854775808 ≤ line ∧ line ≤ 9223372036854775807)
      (hk : RdS w vk 1 ks.length (strsV ks)) (hl : rows.length = kids.length) (hc : RdS w vc 5 kids.length rows.flatten) (pk : ks.length ≠ 0 → ∀ g, vk.ownBlock = some g → P g) (pc : kids.length ≠ 0 → ∀ g, vc.ownBlock = some g → P g)
      (hr : ∀ (i : Nat) (r : List Value) (x : Tree), rows[i]? = some r → kids[i]? = some x → NodeO w P r x) :
      NodeO w P [.int .u8 (k : Int), .string t, vk, vc, .int .i64 line] (.mk k t ks kids line)
theorem NodeO.toR {w : World} {P : Nat → Prop} {cs : List Value} {t : Tree} (h : NodeO w P cs t) : NodeR w cs t := by
  induction h with
  | mk rows h1 h2 h3 h4 h5 h6 h7 _ _ _ ih => exact .mk rows h1 h2 h3 h4 h5 h6 h7 ih
theorem NodeO.keep {w w' : World} {P Q : Nat → Prop} {cs : List Value} {t : Tree} (h : NodeO w P cs t) (hk : ∀ g, P g → g < w.heap.size → w'.heap[g]? = w.heap[g]?) (hPQ : ∀ g, P g → Q g) : NodeO w' Q cs t := by
  induction h with
  | mk rows h1 h2 h3 h4 h5 h6 h7 h8 h9 _ ih => exact .mk rows h1 h2 h3 h4 (h5.keepN fun hn g hg hl => hk g (h8 hn g hg) hl) h6 (h7.keepN fun hn g hg hl => hk g (h9 hn g hg) hl) (fun hn g hg => hPQ g (h8 hn g hg)) (fun hn g hg => hPQ g (h9 hn g hg)) ih
theorem NodeO.cells {w : World} {P : Nat → Prop} {cs : List Value} {x : Tree} (h : NodeO w P cs x) : ∃ ka kc ba bc, cs = [.int .u8 (x.kind : Int), .string x.text, .slice ka x.keys.length kc, .slice ba x.kids.length bc, .int .i64 x.line] := h.toR.cells
theorem NodeO.len {w : World} {P : Nat → Prop} {cs : List Value} {x : Tree} (h : NodeO w P cs x) : cs.length = 5 := h.toR.len
def inSpan (lo hi : Nat) (g : Nat) : Prop := lo ≤ g ∧ g < hi
def inSpanBut (lo hi : Nat) (v : Value) (g : Nat) : Prop := lo ≤ g ∧ g < hi ∧ v.ownBlock ≠ some g
theorem flatten_snoc (rows : List (List Value)) (r : List Value) : (rows ++ [r]).flatten = rows.flatten ++ r := by simp
theorem ownsRow_keepB {w w' : World} {base : Nat} {e : TypeId} {size n : Nat} {v : Value} {xs : List Value} (h : w.ownsRow base e size v n xs) (hk : ∀ g, v.ownBlock = some g → w'.heap[g]? = w.heap[g]?) : w'.ownsRow base e size v n xs := by
  refine ⟨h.1, ?_⟩
  rcases h.2 with h1 | ⟨g, cap, cur, hv, hb, hh, rest⟩
  · exact .inl h1
  · exact .inr ⟨g, cap, cur, hv, hb, (hk g (by rw [hv]; rfl)).trans hh, rest⟩
end Go.Proofs.YtdhgcgejdoedbaaGreatDoor

/-
  Slices of strings: ref Texts, slices.Equal, Index, Contains, Clone: contracts.
-/
namespace Go.Proofs.YtdhgcgejdoedbaaGreatDoor
open Go.RowKit Go.WideShapes

theorem strs_at {w : World} {a : Option Addr} {cap : Nat} {l : List ByteArray} (h : RdS w (.slice a l.length cap) 1 l.length (strsV l)) {i : Nat} (hi : i < l.length) :
    ∃ g off, a = some ⟨g, off, none⟩ ∧ l.length ≤ cap ∧ cap ≤ 9223372036854775807 ∧ w.cell? ⟨g, off + i, none⟩ = some (.string l[i]) := by
  rcases h.cases (by decide) with ⟨h0, _⟩ | ⟨hn, _, g, off, cap', hq, q1, q2, q3⟩
  · omega
  · injection hq with e1 e2 e3
    subst e1 e3
    exact ⟨g, off, rfl, q1, q2, q3 i _ (strsV_get hi)⟩
theorem rds_len2 {W : World} {v : Value} {size n : Nat} {cs : List Value} (h : RdS W v size n cs) : n ≤ 9223372036854775807 := by
  obtain ⟨_, a', c', _, h3, h4, _⟩ := h
  unfold maxLen at h4; omega
theorem eq_step {l m : List ByteArray} {k : Nat} (hl : l.length = m.length) (hk : k < l.length) (h : l.take k = m.take k) (he : l[k] = m[k]'(by omega)) : l.take (k + 1) = m.take (k + 1) := by
  rw [List.take_succ_eq_append_getElem hk, List.take_succ_eq_append_getElem (by omega), h, he]

theorem beqS (s t : ByteArray) : (s.toList == t.toList) = decide (s = t) := by
  rw [Bool.eq_iff_iff, beq_iff_eq, Lib.toList_data, Lib.toList_data, decide_eq_true_eq]
  exact ⟨fun h => bytes_inj h, fun h => by rw [h]⟩
theorem beqS_yes {s t : ByteArray} (h : s = t) : (s.toList == t.toList) = true := by rw [beqS, decide_eq_true h]
theorem beqS_no {s t : ByteArray} (h : ¬ s = t) : (s.toList == t.toList) = false := by rw [beqS, decide_eq_false h]
theorem eq_all {l m : List ByteArray} {k : Nat} (hl : l.length = m.length) (hk : ¬ k < l.length) (h : l.take k = m.take k) : decide (l = m) = true := by
  rw [List.take_of_length_le (by omega), List.take_of_length_le (by omega)] at h
  simpa using h
theorem ne_at {l m : List ByteArray} {k : Nat} (hl : l.length = m.length) (hk : k < l.length) (he : ¬ l[k] = m[k]'(by omega)) : decide (l = m) = false := by
  simp only [decide_eq_false_iff_not]
  rintro rfl; exact he rfl
theorem ne_len {l m : List ByteArray} (hl : ¬ l.length = m.length) : decide (l = m) = false := by
  simp only [decide_eq_false_iff_not]
  rintro rfl; exact hl rfl

set_option maxRecDepth 100000 in
theorem EqualS_any (l m : List ByteArray) (v u : Value) (w : World) (hv : RdS w v 1 l.length (strsV l)) (hu : RdS w u 1 m.length (strsV m)) :
    Calls Tryz.prog 30 #[v, u] w fun e w' => e = .returned (.bool (decide (l = m))) ∧ Below w.heap.size w w' := by
  have HV := Lib.hid hv
  have HU := Lib.hid hu
  have hl63 := rds_len2 hv
  have hm63 := rds_len2 hu
  obtain ⟨a, cap, rfl⟩ := hv.form
  obtain ⟨b, cap2, rfl⟩ := hu.form
  clear hv hu
  by_cases hlen : l.length = m.length
  · have HL := Lib.hid hlen
    have hb : ((l.length : Int) != (m.length : Int)) = false := by simp [hlen]
    clear hlen
    go_enter Tryz.func30, Tryz.ntmps30
    go_wp2
    go_loopw [13] (fun i wr => ∃ k : Nat, k ≤ l.length ∧ i = .int .i64 k ∧ Hid (l.take k = m.take k) ∧ Hid (Below w.heap.size w wr)) (fun i _ => l.length - (intOf i).toNat)
    case atStart => exact ⟨0, by omega, rfl, Lib.hid rfl, Lib.hid (Below.refl _ _)⟩
    case round =>
      obtain ⟨k, hk, rfl, HE, HB⟩ := hrel
      by_cases hlt : k < l.length
      · have hlt2 : k < m.length := by have := HL.out; omega
        obtain ⟨g, off, rfl, q1, q2, c1⟩ := strs_at (HV.out.below HB.out) hlt
        obtain ⟨g2, off2, rfl, q3, q4, c2⟩ := strs_at (HU.out.below HB.out) hlt2
        have HST := Lib.hid (eq_step HL.out hlt HE.out)
        have hk0 : (0 : Int) ≤ (k : Int) := by omega
        have hk1 : (k : Int) < (l.length : Int) := by omega
        have hk2 : (k : Int) < (m.length : Int) := by omega
        have hbw := bthen HB.out (Nat.le_refl _) (Below.refl wr.heap.size wr)
        by_cases he : l[k] = m[k]
        · have hST := HST.out he
          have HS2 := Lib.hid hST
          have hq := beqS_yes he
          clear he hST HST
          generalize l[k] = s1 at *
          generalize m[k] = s2 at *
          go_wp2
          go_quiet (fail)
          go_wp2
          go_roundw
          case rel => exact ⟨k + 1, by omega, by go_num, HS2, Lib.hid (belowN HB.out nq)⟩
          case measure => simp [intOf]; omega
        · have HF := Lib.hid (ne_at HL.out hlt he)
          have hq := beqS_no he
          clear he HST
          generalize l[k] = s1 at *
          generalize m[k] = s2 at *
          go_wp2
          go_quiet (fail)
          go_wp2
          go_ret
          exact ⟨by rw [HF.out]; rfl, belowN HB.out nq⟩
      · have HF := Lib.hid (eq_all HL.out hlt HE.out)
        go_wp2
        go_ret
        exact ⟨by rw [HF.out]; rfl, HB.out⟩
  · have HF := Lib.hid (ne_len hlen)
    have hb : ((l.length : Int) != (m.length : Int)) = true := by simp; omega
    clear hlen
    go_enter Tryz.func30, Tryz.ntmps30
    go_wp2
    go_ret
    exact ⟨by rw [HF.out]; rfl, Below.refl _ _⟩

def idxS (l : List ByteArray) (s : ByteArray) : Int := if l.contains s then (l.idxOf s : Int) else -1
theorem idxS_at {l : List ByteArray} {s : ByteArray} {k : Nat} (hk : k < l.length) (h : (l.take k).contains s = false) (he : s = l[k]) : idxS l s = k := by
  have hm : l.contains s = true := by simp [he]
  have hn : s ∉ l.take k := by simpa using h
  unfold idxS
  rw [if_pos hm]
  have hs : l = l.take k ++ (s :: l.drop (k + 1)) := by rw [he, ← List.drop_eq_getElem_cons hk, List.take_append_drop]
  conv => lhs; rw [hs, List.idxOf_append, if_neg hn]
  simp; omega
theorem idxS_no {l : List ByteArray} {s : ByteArray} {k : Nat} (hk : ¬ k < l.length) (h : (l.take k).contains s = false) : idxS l s = -1 := by
  rw [List.take_of_length_le (by omega)] at h
  unfold idxS; rw [h]; rfl
theorem contains_step {l : List ByteArray} {s : ByteArray} {k : Nat} (hk : k < l.length) (h : (l.take k).contains s = false) (he : ¬ s = l[k]) : (l.take (k + 1)).contains s = false := by
  rw [List.take_succ_eq_append_getElem hk, List.contains_append, h]
  simpa using he
theorem idxS_lo (l : List ByteArray) (s : ByteArray) : -1 ≤ idxS l s ∧ idxS l s < l.length ∧ (l.contains s = decide (0 ≤ idxS l s)) := by
  unfold idxS
  cases h : l.contains s with
  | false => simp; omega
  | true =>
    have : l.idxOf s < l.length := List.idxOf_lt_length_iff.2 (by simpa using h)
    rw [if_pos rfl]; refine ⟨by omega, by omega, ?_⟩; simp

set_option maxRecDepth 100000 in
theorem IndexS_any (l : List ByteArray) (v : Value) (s : ByteArray) (w : World) (hv : RdS w v 1 l.length (strsV l)) :
    Calls Tryz.prog 28 #[v, .string s] w fun e w' => e = .returned (.int .i64 (idxS l s)) ∧ w = w' := by
  have HV := Lib.hid hv
  have hl63 := rds_len2 hv
  obtain ⟨a, cap, rfl⟩ := hv.form
  clear hv
  go_enter Tryz.func28, Tryz.ntmps28
  go_wp2
  go_loop [8] (fun i => ∃ k : Nat, k ≤ l.length ∧ i = .int .i64 k ∧ Hid ((l.take k).contains s = false)) (fun i => l.length - (intOf i).toNat)
  case atStart => exact ⟨0, by omega, rfl, Lib.hid rfl⟩
  case round =>
    obtain ⟨k, hk, rfl, HE⟩ := hrel
    by_cases hlt : k < l.length
    · obtain ⟨g, off, rfl, q1, q2, c1⟩ := strs_at HV.out hlt
      have hk0 : (0 : Int) ≤ (k : Int) := by omega
      have hk1 : (k : Int) < (l.length : Int) := by omega
      by_cases he : s = l[k]
      · have HF := Lib.hid (idxS_at hlt HE.out he)
        have hq := beqS_yes he
        clear he
        generalize l[k] = s1 at *
        go_wp2
        go_ret
        exact ⟨by rw [HF.out]; rfl, rfl⟩
      · have HF := Lib.hid (contains_step hlt HE.out he)
        have hq := beqS_no he
        clear he
        generalize l[k] = s1 at *
        go_wp2
        go_round
        case rel => exact ⟨k + 1, by omega, by go_num, HF⟩
        case measure => simp [intOf]; omega
    · have HF := Lib.hid (idxS_no hlt HE.out)
      go_wp2
      go_ret
      exact ⟨by rw [HF.out]; rfl, rfl⟩

set_option maxRecDepth 100000 in
theorem ContainsS_any (l : List ByteArray) (v : Value) (s : ByteArray) (w : World) (hv : RdS w v 1 l.length (strsV l)) :
    Calls Tryz.prog 51 #[v, .string s] w fun e w' => e = .returned (.bool (hasS l s)) ∧ w = w' := by
  rw [show hasS l s = l.contains s from rfl]
  have HC := Lib.hid (IndexS_any l v s w hv)
  have hlo := idxS_lo l s
  rw [hlo.2.2]
  obtain ⟨a, cap, rfl⟩ := hv.form
  clear hv
  generalize idxS l s = x at *
  obtain ⟨h1, h2, _⟩ := hlo
  go_enter Tryz.func51, Tryz.ntmps51
  go_wp2_with fail
  refine HC.out.mono ?_
  rintro e w1 ⟨rfl, rfl⟩
  go_wp2
  go_ret
  exact ⟨rfl, rfl⟩

end Go.Proofs.YtdhgcgejdoedbaaGreatDoor

/-
  utf: the reference's First, Runes, Check, Same: contracts.
-/
namespace Go.Proofs.YtdhgcgejdoedbaaGreatDoor
open Go.RowKit

end Go.Proofs.YtdhgcgejdoedbaaGreatDoor

/-
  A node under construction: rows of keys and kids that the call owns. Conditions: none of the program's.
-/
namespace Go.Proofs.YtdhgcgejdoedbaaGreatDoor
open Go Go.RowKit

theorem apartB {w : World} {b1 b2 : Nat} {e1 e2 : TypeId} {s1 s2 n1 n2 : Nat} {v1 v2 : Value} {x1 x2 : List Value} (h1 : w.ownsRow b1 e1 s1 v1 n1 x1) (h2 : w.ownsRow b2 e2 s2 v2 n2 x2) (hne : e1 ≠ e2) : ∀ g, v1.ownBlock = some g → v2.ownBlock ≠ some g := by
  intro g hg1 hg2
  rcases h1.2 with ⟨rfl, _⟩ | ⟨g1, _, _, rfl, _, hh1, _⟩
  · simp [Value.ownBlock] at hg1
  · rcases h2.2 with ⟨rfl, _⟩ | ⟨g2, _, _, rfl, _, hh2, _⟩
    · simp [Value.ownBlock] at hg2
    · have : g1 = g := by simpa [Value.ownBlock] using hg1
      have : g2 = g := by simpa [Value.ownBlock] using hg2
      subst_vars
      rw [hh1] at hh2; injection hh2 with hh2; injection hh2 with _ ht; exact hne ht

theorem ownsRow_inj {w : World} {base : Nat} {e : TypeId} {size n : Nat} {v : Value} {xs ys : List Value} (h1 : w.ownsRow base e size v n xs) (h2 : w.ownsRow base e size v n ys) : xs = ys := by
  rcases h1.2 with ⟨rfl, h0⟩ | ⟨g, cap, cur, rfl, _, hg, _, _, _, ht⟩
  · have e1 := h1.1; have e2 := h2.1
    rw [h0, Nat.zero_mul] at e1 e2
    rw [List.eq_nil_of_length_eq_zero e1, List.eq_nil_of_length_eq_zero e2]
  · rcases h2.2 with ⟨h3, _⟩ | ⟨g', cap', cur', h3, _, hg', _, _, _, ht'⟩
    · cases h3
    · injection h3 with h3 _ _
      injection h3 with h3
      injection h3 with h3 _ _
      subst h3
      rw [hg] at hg'; injection hg' with hg'; injection hg' with hc _ _
      subst hc
      rw [← ht, ← ht']
def okB (Z : Nat → Prop) (w : World) (vk vc : Value) (g : Nat) : Prop := g < w.heap.size ∧ ¬ Z g ∧ vk.ownBlock ≠ some g ∧ vc.ownBlock ≠ some g

structure MapB (w : World) (B0 : Nat) (Z : Nat → Prop) (vk vc : Value) (keys : List ByteArray) (kids : List Tree) : Prop where
  kown : w.ownsRow B0 9 1 vk keys.length (strsV keys)
  cown : ∃ rows : List (List Value), rows.length = kids.length ∧ w.ownsRow B0 25 5 vc kids.length rows.flatten ∧ ∀ (i : Nat) (r : List Value) (x : Tree), rows[i]? = some r → kids[i]? = some x → NodeO w (okB Z w vk vc) r x
  kZ : ∀ g, vk.ownBlock = some g → ¬ Z g
  cZ : ∀ g, vc.ownBlock = some g → ¬ Z g
  keyok : ∀ s ∈ keys, s.size ≤ maxLen

theorem MapB.nil (w : World) (B0 : Nat) (Z : Nat → Prop) : MapB w B0 Z (.slice none 0 0) (.slice none 0 0) [] [] :=
  ⟨World.ownsRow_nil _ _ _ _, ⟨[], rfl, World.ownsRow_nil _ _ _ _, fun i r x hr => by simp at hr⟩, by simp [Value.ownBlock], by simp [Value.ownBlock], by simp⟩
theorem MapB.frm {w w' : World} {B0 : Nat} {Z : Nat → Prop} {vk vc : Value} {keys : List ByteArray} {kids : List Tree} (h : MapB w B0 Z vk vc keys kids) (hf : ∀ g, g < w.heap.size → ¬ Z g → w'.heap[g]? = w.heap[g]?) (hs : w.heap.size ≤ w'.heap.size) : MapB w' B0 Z vk vc keys kids := by
  obtain ⟨rows, h1, h2, h3⟩ := h.cown
  refine ⟨ownsRow_keepB h.kown fun g hg => hf g (h.kown.lt g hg).2 (h.kZ g hg), ⟨rows, h1, ownsRow_keepB h2 fun g hg => hf g (h2.lt g hg).2 (h.cZ g hg), fun i r x hr hx => ?_⟩, h.kZ, h.cZ, h.keyok⟩
  exact (h3 i r x hr hx).keep (fun g hP _ => hf g hP.1 hP.2.1) (fun g hP => ⟨by have := hP.1; omega, hP.2⟩)
theorem MapB.below {w w' : World} {B0 : Nat} {Z : Nat → Prop} {vk vc : Value} {keys : List ByteArray} {kids : List Tree} (h : MapB w B0 Z vk vc keys kids) (hb : Below w.heap.size w w') : MapB w' B0 Z vk vc keys kids := h.frm (fun g hg _ => hb.block g hg) hb.size
theorem MapB.pushCF {w w1 w2 : World} {B0 : Nat} {Z : Nat → Prop} {vk vc vc' : Value} {keys : List ByteArray} {kids : List Tree} {cs : List Value} {kid : Tree} (h : MapB w B0 Z vk vc keys kids) (hb : Below w.heap.size w w1) (hkid : NodeO w1 (okB Z w1 vk vc) cs kid) (hg : w1.grownBy w2 vc.ownBlock)
    {xs : List Value} (hxs : w1.ownsRow B0 25 5 vc kids.length xs) (hown : w2.ownsRow B0 25 5 vc' (kids.length + 1) (xs ++ cs)) (hv' : ∀ g, vc'.ownBlock = some g → vc.ownBlock = some g ∨ w1.heap.size ≤ g) (hZ : ∀ g, Z g → g < w1.heap.size) : MapB w2 B0 Z vk vc' keys (kids ++ [kid]) := by
  have hA := h.below hb
  obtain ⟨rows, h1, h2, h3⟩ := hA.cown
  have hap := apartB hA.kown h2 (by decide : (9 : TypeId) ≠ 25)
  have hs := hg.size
  have old : ∀ g, g < w1.heap.size → vc.ownBlock ≠ some g → w2.heap[g]? = w1.heap[g]? := fun g hl hne => hg.block g hl (fun e => hne e.symm)
  have mon : ∀ g, okB Z w1 vk vc g → okB Z w2 vk vc' g := fun g hP => ⟨by have := hP.1; omega, hP.2.1, hP.2.2.1, fun e => by
    rcases hv' g e with hv' | hv'
    · exact hP.2.2.2 hv'
    · have := hP.1; omega⟩
  refine ⟨ownsRow_keepB hA.kown fun g hg' => old g (hA.kown.lt g hg').2 (hap g hg'), ⟨rows ++ [cs], by simp [h1], by rw [List.length_append, List.length_singleton, flatten_snoc, ownsRow_inj h2 hxs]; exact hown, fun i r x hr hx => ?_⟩, hA.kZ, fun g hg' hz => ?_, h.keyok⟩
  · rcases Nat.lt_trichotomy i rows.length with hlt | heq | hgt
    · rw [List.getElem?_append_left hlt] at hr
      rw [List.getElem?_append_left (by omega)] at hx
      exact (h3 i r x hr hx).keep (fun g hP _ => old g hP.1 hP.2.2.2) mon
    · subst heq
      simp at hr
      subst hr
      rw [h1] at hx
      simp at hx
      subst hx
      exact hkid.keep (fun g hP _ => old g hP.1 hP.2.2.2) mon
    · rw [List.getElem?_eq_none (by simp; omega)] at hr; cases hr
  · rcases hv' g hg' with hv' | hv'
    · exact hA.cZ g hv' hz
    · have := hZ g hz; omega
theorem fresh_of {v v' : Value} {n : Nat} (h : v'.ownBlock = v.ownBlock ∨ v'.ownBlock = some n) : ∀ g, v'.ownBlock = some g → v.ownBlock = some g ∨ n ≤ g := fun g hg => by
  rcases h with h | h
  · exact .inl (h ▸ hg)
  · rw [h] at hg; injection hg with e; exact .inr (by omega)
theorem MapB.pushC {w w1 w2 : World} {B0 : Nat} {Z : Nat → Prop} {vk vc vc' : Value} {keys : List ByteArray} {kids : List Tree} {cs : List Value} {kid : Tree} (h : MapB w B0 Z vk vc keys kids) (hb : Below w.heap.size w w1) (hkid : NodeO w1 (okB Z w1 vk vc) cs kid) (hg : w1.grownBy w2 vc.ownBlock)
    {xs : List Value} (hxs : w1.ownsRow B0 25 5 vc kids.length xs) (hown : w2.ownsRow B0 25 5 vc' (kids.length + 1) (xs ++ cs)) (hv' : vc'.ownBlock = vc.ownBlock ∨ vc'.ownBlock = some w1.heap.size) (hZ : ∀ g, Z g → g < w1.heap.size) : MapB w2 B0 Z vk vc' keys (kids ++ [kid]) := h.pushCF hb hkid hg hxs hown (fresh_of hv') hZ
theorem MapB.form {w : World} {B0 : Nat} {Z : Nat → Prop} {vk vc : Value} {keys : List ByteArray} {kids : List Tree} (h : MapB w B0 Z vk vc keys kids) : ∃ ka kc ba bc, vk = .slice ka keys.length kc ∧ vc = .slice ba kids.length bc := by
  obtain ⟨rows, _, h2, _⟩ := h.cown
  obtain ⟨_, ka, kc, e1, _⟩ := RdS.of_owns h.kown
  obtain ⟨_, ba, bc, e2, _⟩ := RdS.of_owns h2
  exact ⟨ka, kc, ba, bc, e1, e2⟩
theorem MapB.node {w : World} {B0 : Nat} {Z : Nat → Prop} {vk vc : Value} {keys : List ByteArray} {kids : List Tree} (h : MapB w B0 Z vk vc keys kids) {P : Nat → Prop} (hP : ∀ g, g < w.heap.size → ¬ Z g → P g) {k : Nat} {t : ByteArray} {ln : Int} (hk : k < 256) (ht : t.size ≤ maxLen) (hl : -9223372036854775808 ≤ ln ∧ ln ≤ 9223372036854775807) :
    NodeO w P [.int .u8 (k : Int), .string t, vk, vc, .int .i64 ln] (.mk k t keys kids ln) := by
  obtain ⟨rows, h1, h2, h3⟩ := h.cown
  exact .mk rows hk ht h.keyok hl (RdS.of_owns h.kown) h1 (RdS.of_owns h2) (fun _ g hg => hP g (h.kown.lt g hg).2 (h.kZ g hg)) (fun _ g hg => hP g (h2.lt g hg).2 (h.cZ g hg)) (fun i r x hr hx => (h3 i r x hr hx).keep (fun _ _ _ => rfl) (fun g hg => hP g hg.1 hg.2.1))

end Go.Proofs.YtdhgcgejdoedbaaGreatDoor
