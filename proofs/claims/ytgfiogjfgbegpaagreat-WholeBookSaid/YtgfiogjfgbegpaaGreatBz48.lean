/-
  names.refs: what it gives is an iterator over the names that steps come behind.
-/
import Derived.Test.YtgfiogjfgbegpaaGreatBz36
import Derived.Test.YtgfiogjfgbegpaaGreatBz47
namespace Go.Proofs.YtgfiogjfgbegpaaGreat
open Go.RowKit Go.WideShapes Go.Maps
attribute [local go_sem] Oper.semAt_some wide_fn wide_depth wide_fn' wide_depth'

abbrev RefD := Nat × ByteArray × Int
def encRf (r : RefD) : Array Value := #[.agg #[.int .i64 (r.1 : Int), .string r.2.1, .int .i64 r.2.2]]
def rowRf (all : List StepD) (i : Nat) (s : StepD) : List RefD := s.after.map fun a => (i, a, idxStep all a 0)
def refsF (all : List StepD) : Nat → List StepD → List RefD
  | _, [] => []
  | i, s :: l => rowRf all i s ++ refsF all (i + 1) l
theorem refsF_append (all : List StepD) : ∀ (l m : List StepD) (i : Nat), refsF all i (l ++ m) = refsF all i l ++ refsF all (i + l.length) m
  | [], m, i => rfl
  | s :: l, m, i => by
    rw [List.cons_append, refsF, refsF, refsF_append all l m (i + 1), List.length_cons, show i + 1 + l.length = i + (l.length + 1) by omega, List.append_assoc]
theorem refsF_snoc (all : List StepD) {k : Nat} (hk : k < all.length) : refsF all 0 (all.take (k + 1)) = refsF all 0 (all.take k) ++ rowRf all k all[k] := by
  rw [take_succ_getS hk, refsF_append, refsF, refsF, List.append_nil]
  simp [Nat.min_eq_left (Nat.le_of_lt hk)]
theorem refs_prefix (all : List StepD) {k : Nat} (hk : k < all.length) (j : Nat) : refsF all 0 (all.take k) ++ (rowRf all k all[k]).take j <+: refsF all 0 all := by
  have h1 : refsF all 0 (all.take (k + 1)) <+: refsF all 0 all := by
    have := refsF_append all (all.take (k + 1)) (all.drop (k + 1)) 0
    rw [List.take_append_drop] at this
    rw [this]
    exact List.prefix_append _ _
  rw [refsF_snoc all hk] at h1
  exact List.IsPrefix.trans ((List.prefix_append_right_inj _).2 (List.take_prefix _ _)) h1
theorem rowRf_take (all : List StepD) (i : Nat) (s : StepD) {j : Nat} (hj : j < s.after.length) : (rowRf all i s).take (j + 1) = (rowRf all i s).take j ++ [(i, s.after[j], idxStep all s.after[j] 0)] := by
  unfold rowRf
  rw [List.take_add_one, List.getElem?_map, List.getElem?_eq_getElem hj]
  rfl
theorem refs_any (cs : List Value) (h : cs.length = 3) (w : World) :
    Calls Tryz.prog 37 #[.agg cs.toArray] w fun e w' => e = .returned (.func (.func 75) #[] #[.pointer (some ⟨w.heap.size, 0, none⟩)]) ∧ w.alloc (.cells cs.toArray 24) = w' := by
  obtain ⟨a, b, c, rfl⟩ : ∃ a b c, cs = [a, b, c] := by
    match cs, h with
    | [a, b, c], _ => exact ⟨_, _, _, rfl⟩
  go_enter Tryz.func37, Tryz.ntmps37
  go_wp2
  go_ret
  exact ⟨rfl, rfl⟩
theorem Keep.mapO {n0 : Nat} {S : Nat → Prop} {W W' : World} {P : Program} {k e : TypeId} {κ : Type} {enc : κ → Value} {b n : Nat} {g : κ → Option Int} (h : Keep n0 S W W') (hm : MapO P k e enc W b n g) (hS : S b) : MapO P k e enc W' b n g := hm.block (h.same b hS)

set_option maxRecDepth 100000 in
set_option maxHeartbeats 4000000 in
theorem refs_iter (d : DefD) (sa : Option Addr) (sc n0 X : Nat) (w0 w : World) (hX : n0 ≤ X) (_hnw : n0 ≤ w.heap.size) (hbX : w.heap[X]? = some (.cells #[.string d.name, .string d.text, .slice sa d.steps.length sc] 24 (0, 0)))
    (hn1 : d.name.size ≤ maxLen) (hn2 : d.text.size ≤ maxLen) (hva : StepsR w0 (.slice sa d.steps.length sc) d.steps) (hlen : d.steps.length ≤ 1000000) (h0w : Below w0.heap.size w0 w) (h0n : w0.heap.size ≤ n0) :
    IterAt Tryz.prog n0 75 #[.pointer (some ⟨X, 0, none⟩)] encRf (refsF d.steps 0 d.steps) True (fun j => j = X) w := by
  intro l J Jx W _ hS hn0 hbl hJ hJx hY h0
  have hltX := (Array.getElem?_eq_some_iff.1 hbX).1
  have hbX' := (hbl.block X hltX).trans hbX
  have h0W := bthen h0w (Nat.le_refl _) hbl
  obtain ⟨_, _, he1, hl1, hl2⟩ := hva.form
  cases he1
  have HV0 := Lib.hid hva
  have HVA := Lib.hid (hva.below h0W)
  have HJ := Lib.hid hJ
  have HY := Lib.hid hY
  have HS := Lib.hid hS
  obtain ⟨p0, p1, p2, -, -, -⟩ := cells3h hbX'
  have HX := Lib.hid hbX'
  clear hY hS hva hbX hbX' h0w hbl hltX hJ hJx
  refine callsIn_of_wp Tryz.func75 rfl trivial ?_ rfl
  simp only [Tryz.ntmps75, List.size_toArray, List.length_cons, List.length_nil, Nat.reduceAdd, Nat.reduceSub, Array.replicate_succ, Array.replicate_zero, List.push_toArray, List.append_toArray, List.nil_append, List.cons_append]
  gi_wp2_with fail
  refine callsIn_wide.2 ?_
  refine (places_any d _ sa sc _ ⟨rfl, hn1, hn2, HVA.out⟩ hlen).mono ?_
  rintro e W1 ⟨M, nM, rfl, hM, hm, hb1⟩
  have hst : Step n0 (fun j => j = X) (fun j => j = X ∨ j = M) W W1 := ⟨hb1.mono hn0, fun k hk => .inl hk, fun k hk => by rcases hk with rfl | rfl; exact .inl rfl; exact .inr ⟨hM, hm.lt⟩, fun k hk _ => hb1.block k hk⟩
  have hS1 := hst.bound hn0 HS.out
  have hJ1 := HJ.out _ _ _ _ _ HS.out h0 hst
  have HVA1 := Lib.hid (HVA.out.below hb1)
  have hB1 : Below w0.heap.size w0 W1 := bthen h0W (Nat.le_refl _) hb1
  have hn1' : n0 ≤ W1.heap.size := Nat.le_trans hn0 hb1.size
  replace p0 := cellB hb1 p0
  replace p1 := cellB hb1 p1
  replace p2 := cellB hb1 p2
  have HM := Lib.hid hm
  have HS1 := Lib.hid hS1
  clear hst hS1 HS hm HVA HX h0 h0W hb1
  gi_wp2_with fail
  clear p0 p1 p2
  gi_loopg [15] (d.steps.length + 1) (fun gk i wr => ∃ (S : Nat → Prop) (k : Nat), k + gk = d.steps.length + 1 ∧ k ≤ d.steps.length ∧ i = .int .i64 k ∧ Hid (∀ j, S j → n0 ≤ j ∧ j < wr.heap.size) ∧ S M ∧ n0 ≤ wr.heap.size ∧ J S (refsF d.steps 0 (d.steps.take k)) wr ∧ Hid (MapO Tryz.prog 9 3 Value.string wr M nM (plN d.steps)) ∧ Hid (Below w0.heap.size w0 wr) ∧ Hid (StepsR wr (.slice sa d.steps.length sc) d.steps))
  case atStart => exact ⟨_, 0, by omega, by omega, rfl, HS1, .inr rfl, hn1', hJ1, HM, Lib.hid hB1, HVA1⟩
  case round =>
    obtain ⟨S, k, hgk, hk, rfl, HSb, hSM, hnr, hJs, HMr, HBr, HVr⟩ := hrel
    have hg : gk = d.steps.length + 1 - k := by omega
    subst hg
    by_cases hkl : k < d.steps.length
    · have d1 : decide ((k : Int) < (d.steps.length : Int)) = true := decide_eq_true (by omega)
      have hk1 : (k : Int) < (d.steps.length : Int) := by omega
      obtain ⟨g, off, cap, aa1, ac1, ka1, kc1, ba1, bc1, he, q1, q2, hns0, z0, z1, z2, z3, z4, z5, z6, z7, z8, z9, z10, z11, z12⟩ := HV0.out.at hkl
      cases he
      have HA0 := Lib.hid hns0.after
      have hns := (fun hb => StepR.below hns0 hb) HBr.out
      obtain ⟨z0, z1, z2, z3, z4, z5, z6, z7, z8, z9, z10, z11, z12⟩ := At13.below ⟨z0, z1, z2, z3, z4, z5, z6, z7, z8, z9, z10, z11, z12⟩ HBr.out
      have HNS := Lib.hid hns
      clear hns0
      have HSN := Lib.hid (refsF_snoc d.steps hkl)
      have HPX := Lib.hid (refs_prefix d.steps hkl)
      clear hns
      generalize d.steps[k] = s at *
      gi_upto_region 4 with fail
      have hx := World.alloc_heap_new wr (.cells #[.string s.name, .string s.action, .string s.undo, .slice aa1 s.after.length ac1, .int .i64 s.most, .int .i64 s.first, .int .i64 s.factor, .int .i64 s.limit, .int .u8 (s.note.kind : Int), .string s.note.text, .slice ka1 s.note.keys.length kc1, .slice ba1 s.note.kids.length bc1, .int .i64 s.note.line] 47)
      have hbx : Below wr.heap.size wr (wr.alloc (.cells #[.string s.name, .string s.action, .string s.undo, .slice aa1 s.after.length ac1, .int .i64 s.most, .int .i64 s.first, .int .i64 s.factor, .int .i64 s.limit, .int .u8 (s.note.kind : Int), .string s.note.text, .slice ka1 s.note.keys.length kc1, .slice ba1 s.note.kids.length bc1, .int .i64 s.note.line] 47)) := (Below.refl _ _).alloc (Nat.le_refl _) _
      have hJx1 := HJ.out _ _ _ _ _ HSb.out hJs (Step.of_below hnr hbx)
      have hmx := HMr.out.alloc (.cells #[.string s.name, .string s.action, .string s.undo, .slice aa1 s.after.length ac1, .int .i64 s.most, .int .i64 s.first, .int .i64 s.factor, .int .i64 s.limit, .int .u8 (s.note.kind : Int), .string s.note.text, .slice ka1 s.note.keys.length kc1, .slice ba1 s.note.kids.length bc1, .int .i64 s.note.line] 47)
      have hax := (HNS.out.after).below hbx
      have hsz : n0 ≤ (wr.alloc (.cells #[.string s.name, .string s.action, .string s.undo, .slice aa1 s.after.length ac1, .int .i64 s.most, .int .i64 s.first, .int .i64 s.factor, .int .i64 s.limit, .int .u8 (s.note.kind : Int), .string s.note.text, .slice ka1 s.note.keys.length kc1, .slice ba1 s.note.kids.length bc1, .int .i64 s.note.line] 47)).heap.size := Nat.le_trans hnr hbx.size
      have hSx : Hid (∀ j, S j → n0 ≤ j ∧ j < (wr.alloc (.cells #[.string s.name, .string s.action, .string s.undo, .slice aa1 s.after.length ac1, .int .i64 s.most, .int .i64 s.first, .int .i64 s.factor, .int .i64 s.limit, .int .u8 (s.note.kind : Int), .string s.note.text, .slice ka1 s.note.keys.length kc1, .slice ba1 s.note.kids.length bc1, .int .i64 s.note.line] 47)).heap.size) := Lib.hid fun j hj => ⟨(HSb.out j hj).1, Nat.lt_of_lt_of_le (HSb.out j hj).2 hbx.size⟩
      have hBx := HBr.out.trans (hbx.mono HBr.out.size)
      have hVx := HVr.out.below hbx
      generalize (wr.alloc (.cells #[.string s.name, .string s.action, .string s.undo, .slice aa1 s.after.length ac1, .int .i64 s.most, .int .i64 s.first, .int .i64 s.factor, .int .i64 s.limit, .int .u8 (s.note.kind : Int), .string s.note.text, .slice ka1 s.note.keys.length kc1, .slice ba1 s.note.kids.length bc1, .int .i64 s.note.line] 47)) = wx at *
      clear z0 z1 z2 z3 z4 z5 z6 z7 z8 z9 z10 z11 z12
      obtain ⟨z0, z1, z2, z3, -⟩ := cells13q hx
      have HMx := Lib.hid hmx
      have HAx := Lib.hid hax
      have HBx := Lib.hid hBx
      have HVx := Lib.hid hVx
      have hal := hax.2
      obtain ⟨_, _, hae, hal1, hal2, -⟩ := hal
      cases hae
      unfold maxLen at hal2
      clear hx hbx hmx hax hBx hVx HMr HBr HVr hJs HSb
      gi_wp2_with fail
      clear z0 z1 z2 z3
      gi_loopg [23] (s.after.length + 1) (fun gk i wi => ∃ (S : Nat → Prop) (j : Nat), j + gk = s.after.length + 1 ∧ j ≤ s.after.length ∧ i = .int .i64 j ∧ Hid (∀ j, S j → n0 ≤ j ∧ j < wi.heap.size) ∧ S M ∧ n0 ≤ wi.heap.size ∧ J S (refsF d.steps 0 (d.steps.take k) ++ (rowRf d.steps k s).take j) wi ∧ Hid (MapO Tryz.prog 9 3 Value.string wi M nM (plN d.steps)) ∧ Hid (Below w0.heap.size w0 wi) ∧ Hid (StepsR wi (.slice (some ⟨g, off, none⟩) d.steps.length sc) d.steps) ∧ Hid (RdS wi (.slice aa1 s.after.length ac1) 1 s.after.length (strsV s.after)))
      case atStart => exact ⟨S, 0, by omega, by omega, rfl, hSx, hSM, hsz, by simpa using hJx1, HMx, HBx, HVx, HAx⟩
      case round =>
        obtain ⟨S, j, hgj, hj, rfl, HSb, hSM, hni, hJs, HMi, HBi, HVi, HAi⟩ := hrel
        rename World => wi
        have hg : gk = s.after.length + 1 - j := by omega
        subst hg
        by_cases hja : j < s.after.length
        · have d2 : decide ((j : Int) < (s.after.length : Int)) = true := decide_eq_true (by omega)
          have hj1 : (j : Int) < (s.after.length : Int) := by omega
          obtain ⟨ag, ao, rfl, y1, y2, y0⟩ := strs_at HAi.out hja
          have has := HNS.out.ok.after _ (List.getElem_mem hja)
          have HT := Lib.hid (rowRf_take d.steps k s hja)
          generalize s.after[j] = a at *
          obtain ⟨c0, b0, hlk, hto⟩ : ∃ (c0 : Int) (b0 : Bool), (Instr.lookup 130 (.map (some M)) (.string a) true).run Tryz.prog wi = .ok (.tuple #[.int .i64 c0, .bool b0]) wi ∧ ((b0 = true ∧ c0 = idxStep d.steps a 0) ∨ (b0 = false ∧ idxStep d.steps a 0 = -1)) := by
            refine ⟨_, _, HMi.out.look_ok Tryz.keyText has, ?_⟩
            have hge := (idxStep_lt a d.steps 0).1
            by_cases h0 : 0 ≤ idxStep d.steps a 0
            · left; simp [plN, h0]
            · right; simp [plN, h0]; omega
          have HTO := Lib.hid hto
          clear hto
          have HT2 : Hid (refsF d.steps 0 (d.steps.take k) ++ (rowRf d.steps k s).take (j + 1) = (refsF d.steps 0 (d.steps.take k) ++ (rowRf d.steps k s).take j) ++ [(k, a, idxStep d.steps a 0)]) := Lib.hid (by rw [HT.out, List.append_assoc])
          have hpx := HPX.out (j + 1)
          obtain ⟨fn, tmps, assign, body, hy, hRr⟩ := HY.out S _ (k, a, idxStep d.steps a 0) wi HSb.out hJs (by rw [← HT2.out]; exact hpx)
          rw [← HT2.out] at hRr
          dsimp only [encRf] at hy
          have HPX2 := Lib.hid hpx
          have HRr := Lib.hid hRr
          have HYY := Lib.hid hy
          clear hpx hRr hy HT
          gi_upto_if 34 with fail
          gi_cut [8] from 44 (fun s8 wx => s8 = .int .i64 (idxStep d.steps a 0) ∧ wx = wi)
          case first =>
            rcases HTO.out with ⟨rfl, rfl⟩ | ⟨rfl, h1⟩
            · gi_wp2_with fail
              gi_meet
              exact ⟨rfl, rfl⟩
            · gi_wp2_with fail
              gi_meet
              exact ⟨by rw [h1], rfl⟩
          case rest =>
          obtain ⟨rfl, rfl⟩ := hcut
          have hy := HYY.out
          clear hlk HTO y0
          gi_wp2_with fail
          refine HRr.out.mono ?_
          rintro e W' (⟨rfl, hJ', hk'⟩ | ⟨rfl, hJ', hk'⟩)
          · clear hy
            have hsz' := hk'.below.size
            have HKM := Lib.hid (hk'.mapO HMi.out hSM)
            have HKB : Hid (Below w0.heap.size w0 W') := Lib.hid (HBi.out.trans (hk'.below.mono h0n))
            have HKV := Lib.hid (HV0.out.below HKB.out)
            have HKA := Lib.hid (HA0.out.below HKB.out)
            gi_wp2_with fail
            gi_roundg (s.after.length + 1 - (j + 1))
            case measure => omega
            case rel => exact ⟨S, j + 1, by omega, by omega, by go_num, Lib.hid (fun i hi => ⟨(HSb.out i hi).1, Nat.lt_of_lt_of_le (HSb.out i hi).2 hsz'⟩), hSM, by omega, hJ', HKM, HKB, HKV, HKA⟩
          · clear hy
            have hsz' := hk'.below.size
            gi_wp2_with fail
            refine bodyPost_ret (results_none rfl _ _ _) rfl ?_
            exact ⟨⟨_, rfl⟩, S, (fun i hi => ⟨(HSb.out i hi).1, Nat.lt_of_lt_of_le (HSb.out i hi).2 hsz'⟩), .inr ⟨_, HPX2.out, hJ'⟩⟩
        · have d2 : decide ((j : Int) < (s.after.length : Int)) = false := decide_eq_false (by omega)
          have hj1 : ¬ (j : Int) < (s.after.length : Int) := by omega
          have HE : Hid (refsF d.steps 0 (d.steps.take k) ++ (rowRf d.steps k s).take j = refsF d.steps 0 (d.steps.take (k + 1))) := Lib.hid (by rw [HSN.out, List.take_of_length_le (l := rowRf d.steps k s) (by unfold rowRf; simp; omega)])
          gi_wp2_with fail
          gi_roundg (d.steps.length + 1 - (k + 1))
          case measure => omega
          case rel => exact ⟨S, k + 1, by omega, by omega, by go_num, HSb, hSM, hni, by rw [← HE.out]; exact hJs, HMi, HBi, HVi⟩
    · have d1 : decide ((k : Int) < (d.steps.length : Int)) = false := decide_eq_false (by omega)
      have hk1 : ¬ (k : Int) < (d.steps.length : Int) := by omega
      have HE : Hid (refsF d.steps 0 (d.steps.take k) = refsF d.steps 0 d.steps) := Lib.hid (by rw [List.take_of_length_le (by omega)])
      gi_wp2_with fail
      go_end0
      exact ⟨⟨_, rfl⟩, S, HSb.out, .inl (by rw [← HE.out]; exact hJs)⟩
end Go.Proofs.YtgfiogjfgbegpaaGreat
