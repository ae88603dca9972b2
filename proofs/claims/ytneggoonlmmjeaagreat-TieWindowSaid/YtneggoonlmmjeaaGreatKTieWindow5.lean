/- Lemmas: TieBe, TieBf, TieBg, TieBh, TieBi, TieBj, TieBk, TieCc. No condition. -/
import Derived.Test.YtneggoonlmmjeaaGreatKTieWindow4
import Derived.Laws.BitsLemmas
import Derived.Deep.QuietTactic
namespace Go.Proofs.YtneggoonlmmjeaaGreat
open Go.RowKit Go.Shelf
set_option linter.unusedVariables false
set_option linter.unusedSimpArgs false
set_option maxRecDepth 100000

def typesL : List Int := [1, 1, 1, 2, 2, 2, 2, 2, 3, 3]
def eventsL : List Int := [0, 0, 0, 8, 9, 10, 11, 12]
def typM (d : PD) : Int := if mayB d = false then 0 else if d.fm = 2 then typesL.getD d.kd.toNat 0 else 2
/-- What is so of a PDU that may be. -/
structure MayF (d : PD) : Prop where
  to : 0 ≤ d.to ∧ d.to ≤ 255
  fr : 0 ≤ d.fr ∧ d.fr ≤ 254 ∧ d.fr % 2 = 0
  ns : 0 ≤ d.ns ∧ d.ns ≤ 127
  nr : 0 ≤ d.nr ∧ d.nr ≤ 127
  len : d.info.length ≤ 1040
  fm : d.fm = 0 ∨ d.fm = 1 ∨ d.fm = 2
  k0 : d.fm = 0 → d.kd = 0
  k1 : d.fm = 1 → 0 ≤ d.kd ∧ d.kd ≤ 2 ∧ d.ns = 0 ∧ d.info.length = 0
  k2 : d.fm = 2 → 0 ≤ d.kd ∧ d.kd ≤ 9 ∧ d.ns = 0 ∧ d.nr = 0
  n4 : d.fm = 2 → 3 ≤ d.kd → d.kd ≤ 6 → d.info.length = 4
  n5 : d.fm = 2 → d.kd = 7 → d.info.length = 5
  even : d.fm ≠ 2 → d.to % 2 = 0
  even2 : d.fm = 2 → 3 ≤ d.kd → d.to % 2 = 0
theorem may_f {d : PD} (h : mayB d = true) : MayF d := by
  unfold mayB at h
  simp only [Bool.and_eq_true, decide_eq_true_eq, within, odd] at h
  obtain ⟨⟨⟨⟨⟨⟨h1, h2⟩, h3⟩, h4⟩, h5⟩, h6⟩, h7⟩ := h
  have h3' : d.fr % 2 = 0 := by
    simp at h3; omega
  by_cases f0 : d.fm = 0
  · rw [if_pos f0] at h7
    simp at h7
    exact ⟨h1, ⟨h2.1, h2.2, h3'⟩, h4, h5, by omega, by omega, fun _ => h7.1, fun h => by omega, fun h => by omega, fun h => by omega, fun h => by omega, fun _ => by omega, fun h => by omega⟩
  · rw [if_neg f0] at h7
    by_cases f1 : d.fm = 1
    · rw [if_pos f1] at h7
      simp at h7
      obtain ⟨⟨⟨h8, h9⟩, h10⟩, h11⟩ := h7
      exact ⟨h1, ⟨h2.1, h2.2, h3'⟩, h4, h5, by omega, by omega, fun h => by omega, fun _ => ⟨h8.1, h8.2, h9, by rw [h10]; rfl⟩, fun h => by omega, fun h => by omega, fun h => by omega, fun _ => by omega, fun h => by omega⟩
    · rw [if_neg f1] at h7
      by_cases f2 : d.fm = 2
      · rw [if_pos f2] at h7
        simp only [Bool.and_eq_true, beq_iff_eq] at h7
        obtain ⟨⟨h8, h9⟩, h10⟩ := h7
        unfold kindB odd at h10
        have key : 0 ≤ d.kd ∧ d.kd ≤ 9 ∧ (3 ≤ d.kd → d.kd ≤ 6 → d.info.length = 4) ∧ (d.kd = 7 → d.info.length = 5) ∧ (3 ≤ d.kd → d.to % 2 = 0) := by
          split at h10
          · omega
          · split at h10
            · omega
            · split at h10
              · simp at h10; omega
              · split at h10
                · simp at h10; omega
                · split at h10
                  · simp at h10; omega
                  · split at h10
                    · simp at h10; omega
                    · cases h10
        exact ⟨h1, ⟨h2.1, h2.2, h3'⟩, h4, h5, by omega, by omega, fun h => by omega, fun h => by omega, fun _ => ⟨key.1, key.2.1, h8, h9⟩, fun _ => key.2.2.1, fun _ => key.2.2.2.1, fun h => absurd f2 h, fun _ => key.2.2.2.2⟩
      · rw [if_neg f2] at h7
        cases h7
theorem tell_types (w : World) : Calls Tryz.prog 98 #[] w fun e w' => ∃ b, e = .returned (.slice (some ⟨b, 0, none⟩) 10 10) ∧ (∀ k, k < 10 → w'.cell? ⟨b, k, none⟩ = some (.int .i64 (typesL.getD k 0))) ∧ w.heap.size ≤ b ∧ Fr [] w w' := by
  go_enter Tryz.func98, Tryz.ntmps98
  go_wp2
  go_ret
  refine ⟨_, rfl, fun k hk => ?_, Nat.le_refl _, (Fr.refl _ _).alloc _⟩
  obtain rfl | rfl | rfl | rfl | rfl | rfl | rfl | rfl | rfl | rfl : k = 0 ∨ k = 1 ∨ k = 2 ∨ k = 3 ∨ k = 4 ∨ k = 5 ∨ k = 6 ∨ k = 7 ∨ k = 8 ∨ k = 9 := by omega
  all_goals exact (Blk.new w _ _).cell _ rfl
theorem tell_events (w : World) : Calls Tryz.prog 99 #[] w fun e w' => ∃ b, e = .returned (.slice (some ⟨b, 0, none⟩) 8 8) ∧ (∀ k, k < 8 → w'.cell? ⟨b, k, none⟩ = some (.int .i64 (eventsL.getD k 0))) ∧ w.heap.size ≤ b ∧ Fr [] w w' := by
  go_enter Tryz.func99, Tryz.ntmps99
  go_wp2
  go_ret
  refine ⟨_, rfl, fun k hk => ?_, Nat.le_refl _, (Fr.refl _ _).alloc _⟩
  obtain rfl | rfl | rfl | rfl | rfl | rfl | rfl | rfl : k = 0 ∨ k = 1 ∨ k = 2 ∨ k = 3 ∨ k = 4 ∨ k = 5 ∨ k = 6 ∨ k = 7 := by omega
  all_goals exact (Blk.new w _ _).cell _ rfl
set_option maxHeartbeats 1000000 in
theorem tell_Type (d : PD) (s : Sl) (w : World) (hn : s.n = d.info.length) : Calls Tryz.prog 58 #[d.val s] w fun e w' => e = .returned (.int .i64 (typM d)) ∧ Fr [] w w' := by
  have HS := Lib.hid hn
  clear hn
  cases hm : mayB d with
  | false =>
    have ht : typM d = 0 := by unfold typM; rw [if_pos hm]
    have HM := Lib.hid hm
    rw [ht]
    clear hm ht
    go_enter Tryz.func58, Tryz.ntmps58
    go_wp2_with fail
    refine (pdu_May d s _ HS.out).mono ?_
    rintro e w1 ⟨rfl, f1⟩
    rw [HM.out]
    have HF := Lib.hid (((Fr.refl [] w).alloc (.cells (d.arr s) 52)).tr f1)
    clear f1
    go_wp2
    go_ret
    exact ⟨rfl, HF.out⟩
  | true =>
    have hf := may_f hm
    have HM := Lib.hid hm
    have hb := Blk.new w (d.arr s) 52
    have fa := (Fr.refl [] w).alloc (.cells (d.arr s) 52)
    by_cases h2 : d.fm = 2
    · have ht : typM d = typesL.getD d.kd.toNat 0 := by unfold typM; rw [if_neg (by rw [hm]; decide), if_pos h2]
      obtain ⟨k, hk⟩ : ∃ k : Nat, d.kd = k := ⟨d.kd.toNat, by have := hf.k2 h2; omega⟩
      have hk9 : k < 10 := by have := hf.k2 h2; omega
      rw [ht, hk, Int.toNat_natCast]
      have d2 : (k : Int) < 10 := by omega
      obtain ⟨to, fr, rs, fm, kd, ns, nr, po, info⟩ := d
      simp only at h2 hk
      subst h2
      subst hk
      have HB := Lib.hid (And.intro hb fa)
      clear hm ht hf hb fa
      go_enter Tryz.func58, Tryz.ntmps58
      go_wp2_with fail
      refine (pdu_May ⟨to, fr, rs, 2, k, ns, nr, po, info⟩ s _ HS.out).mono ?_
      rintro e w1 ⟨rfl, f1⟩
      rw [HM.out]
      have hb1 := HB.out.1.fr f1 (by simp)
      have c3 : w1.cell? ⟨w.heap.size, 3, none⟩ = some (.int .i64 2) := hb1.cell 3 rfl
      have F1 := Lib.hid (HB.out.2.tr f1)
      have HB1 := Lib.hid hb1
      clear hb1 f1
      go_wp2_with fail
      have hp0 : (fun x : World => x.cell? ⟨w.heap.size, 4, none⟩ = some (.int .i64 (k : Int))) w1.drew := HB1.out.cell 4 rfl
      haveI : Nonempty (Held fun x : World => x.cell? ⟨w.heap.size, 4, none⟩ = some (.int .i64 (k : Int))) := ⟨⟨_, hp0⟩⟩
      have q4 : ∀ n : Held (fun x : World => x.cell? ⟨w.heap.size, 4, none⟩ = some (.int .i64 (k : Int))), n.x.cell? ⟨w.heap.size, 4, none⟩ = some (.int .i64 (k : Int)) := fun n => n.ok
      refine wp_region_mixP (fun x => ∃ n : Held (fun x : World => x.cell? ⟨w.heap.size, 4, none⟩ = some (.int .i64 (k : Int))), x = n.x) [([1, 2], some 0), ([], some 3), ([], some 4), ([], some 5)] (by kernel_rfl) (by kernel_rfl) (by kernel_rfl) (by kernel_rfl) ⟨⟨_, hp0⟩, rfl⟩ ?_
      simp only [wpMixP, pickL, pick1, List.getElem?_toArray, List.getElem?_cons_zero, List.getElem?_cons_succ]
      repeat (go_big_quiet_step (fail))
      refine wpQuiet_nil ?_
      go_wp2_with fail
      refine (tell_types _).mono ?_
      rintro e w2 ⟨b, rfl, hbc, hbl, f2⟩
      have hp2 : w2.cell? ⟨w.heap.size, 4, none⟩ = some (.int .i64 (k : Int)) := f2.cell hp0 (by simp)
      have hck := hbc k hk9
      have HF := Lib.hid (F1.out.tr ((Fr.refl [] w1).drew.tr f2))
      clear hbc hbl f2 hp0 q4
      go_wp2_with fail
      refine ⟨⟨⟨_, hp2⟩, rfl⟩, ?_⟩
      dsimp only
      refine wpQuiet_nil ?_
      go_wp2_with fail
      refine ⟨⟨⟨_, hp2⟩, rfl⟩, ?_⟩
      dsimp only
      refine wpQuiet_nil ?_
      go_wp2_with fail
      refine ⟨⟨⟨_, hp2⟩, rfl⟩, ?_⟩
      dsimp only
      refine wpQuiet_nil ?_
      go_wp2_with fail
      refine ⟨⟨⟨_, hp2⟩, rfl⟩, ?_⟩
      dsimp only
      go_wp2
      go_ret
      exact ⟨rfl, HF.out⟩
    · have ht : typM d = 2 := by unfold typM; rw [if_neg (by rw [hm]; decide), if_neg h2]
      have e2 : (d.fm == 2) = false := by rw [beq_eq_false_iff_ne]; exact h2
      rw [ht]
      have HB := Lib.hid (And.intro hb fa)
      clear hm ht hf hb fa h2
      go_enter Tryz.func58, Tryz.ntmps58
      go_wp2_with fail
      refine (pdu_May d s _ HS.out).mono ?_
      rintro e w1 ⟨rfl, f1⟩
      rw [HM.out]
      have hb1 := HB.out.1.fr f1 (by simp)
      have c3 : w1.cell? ⟨w.heap.size, 3, none⟩ = some (.int .i64 d.fm) := hb1.cell 3 rfl
      have F1 := Lib.hid (HB.out.2.tr f1)
      clear hb1 f1
      go_wp2
      go_ret
      exact ⟨rfl, F1.out⟩
end Go.Proofs.YtneggoonlmmjeaaGreat
namespace Go.Proofs.YtneggoonlmmjeaaGreat
open Go.RowKit Go.Shelf
set_option linter.unusedVariables false
set_option linter.unusedSimpArgs false
set_option maxRecDepth 100000

theorem pd_cells {w : World} {b : Nat} {d : PD} {s : Sl} {t : TypeId} (h : Blk w b (d.arr s) t) : w.cell? ⟨b, 0, none⟩ = some (.int .i64 d.to) ∧ w.cell? ⟨b, 1, none⟩ = some (.int .i64 d.fr) ∧ w.cell? ⟨b, 2, none⟩ = some (.bool d.rs) ∧ w.cell? ⟨b, 3, none⟩ = some (.int .i64 d.fm) ∧ w.cell? ⟨b, 4, none⟩ = some (.int .i64 d.kd) ∧ w.cell? ⟨b, 5, none⟩ = some (.int .i64 d.ns) ∧ w.cell? ⟨b, 6, none⟩ = some (.int .i64 d.nr) ∧ w.cell? ⟨b, 7, none⟩ = some (.bool d.po) ∧ w.cell? ⟨b, 8, none⟩ = some (.slice s.A s.n s.c) :=
  ⟨h.cell 0 rfl, h.cell 1 rfl, h.cell 2 rfl, h.cell 3 rfl, h.cell 4 rfl, h.cell 5 rfl, h.cell 6 rfl, h.cell 7 rfl, h.cell 8 rfl⟩
def asksM (d : PD) : Bool := d.po && !d.rs
def wrongM (d : PD) (va vs : Int) : Bool := decide (d.fm ≠ 2) && !decide ((d.nr - va) % 128 ≤ (vs - va) % 128)
def firstL : List Int := [19, 22, 25]
def firstM (d : PD) (vr : Int) : Int := if d.fm = 1 then firstL.getD d.kd.toNat 0 else if (vr - d.ns) % 128 = 0 then 13 else 16
def evtM (d : PD) (st vr va vs : Int) : Int :=
  if typM d ≠ 2 then -1 else if d.fm = 2 then eventsL.getD d.kd.toNat 0 else if st < 8 then (if asksM d = true then 20 else 19)
  else if wrongM d va vs = true then 28 else if asksM d = true then firstM d vr + 1 else if d.po = true ∧ 11 ≤ st then firstM d vr + 2 else firstM d vr
theorem typM_may {d : PD} (h : typM d = 2) : mayB d = true := by
  unfold typM at h
  split at h
  · omega
  · rename_i hm; simpa using hm
theorem tell_Asks (d : PD) (s : Sl) (w : World) : Calls Tryz.prog 100 #[d.val s] w fun e w' => e = .returned (.bool (asksM d)) ∧ Fr [] w w' := by
  unfold asksM
  obtain ⟨to, fr, rs, fm, kd, ns, nr, po, info⟩ := d
  cases po <;> cases rs
  all_goals
    go_enter Tryz.func100, Tryz.ntmps100
    go_wp2
    go_ret
    exact ⟨rfl, (Fr.refl _ _).alloc _⟩
theorem tell_Wrong (d : PD) (s : Sl) (va vs : Int) (w : World) (h2 : d.fm ≠ 2) : Calls Tryz.prog 101 #[d.val s, .int .i64 va, .int .i64 vs] w fun e w' => e = .returned (.bool (wrongM d va vs)) ∧ Fr [] w w' := by
  have e2 : (d.fm != 2) = true := bne_iff_ne.2 h2
  have hw : wrongM d va vs = !decide ((d.nr - va) % 128 ≤ (vs - va) % 128) := by unfold wrongM; rw [decide_eq_true h2, Bool.true_and]
  rw [hw]
  have fa := (Fr.refl [] w).alloc (.cells (d.arr s) 52)
  have HF := Lib.hid fa
  clear fa hw h2
  obtain ⟨B, hB⟩ : ∃ B, decide ((d.nr - va) % 128 ≤ (vs - va) % 128) = B := ⟨_, rfl⟩
  rw [hB]
  have HB := Lib.hid hB
  clear hB
  go_enter Tryz.func101, Tryz.ntmps101
  go_wp2_with fail
  refine (seq_In _ _ _ _).mono ?_
  rintro e w1 ⟨rfl, f1⟩
  rw [HB.out]
  have HF2 := Lib.hid (HF.out.tr f1)
  clear f1
  go_wp2
  go_ret
  exact ⟨rfl, HF2.out⟩
set_option maxHeartbeats 1000000 in
theorem tell_first (d : PD) (s : Sl) (vr : Int) (w : World) (hm : MayF d) (h2 : d.fm ≠ 2) : Calls Tryz.prog 102 #[d.val s, .int .i64 vr] w fun e w' => e = .returned (.int .i64 (firstM d vr)) ∧ Fr [] w w' := by
  by_cases h1 : d.fm = 1
  · have hk := hm.k1 h1
    obtain ⟨k, hkd⟩ : ∃ k : Nat, d.kd = k := ⟨d.kd.toNat, by omega⟩
    have hR : firstM d vr = firstL.getD k 0 := by unfold firstM; rw [if_pos h1, hkd]; rfl
    rw [hR]
    obtain ⟨to, fr, rs, fm, kd, ns, nr, po, info⟩ := d
    simp only at h1 hkd hk
    subst h1
    subst hkd
    clear hm h2 hR
    obtain rfl | rfl | rfl : k = 0 ∨ k = 1 ∨ k = 2 := by omega
    all_goals
      clear hk
      go_enter Tryz.func102, Tryz.ntmps102
      go_wp2
      go_ret
      exact ⟨rfl, ((Fr.refl _ _).alloc _).alloc _⟩
  · have e1 : (d.fm == 1) = false := by rw [beq_eq_false_iff_ne]; exact h1
    by_cases hd : (vr - d.ns) % 128 = 0
    all_goals
      first
        | (have hR : firstM d vr = 13 := by unfold firstM; rw [if_neg h1, if_pos hd]
           rw [hR])
        | (have hR : firstM d vr = 16 := by unfold firstM; rw [if_neg h1, if_neg hd]
           rw [hR])
      have fa := (Fr.refl [] w).alloc (.cells (d.arr s) 52)
      have HF := Lib.hid fa
      obtain ⟨X, hX⟩ : ∃ X, (vr - d.ns) % 128 = X := ⟨_, rfl⟩
      rw [hX] at hd
      have HX := Lib.hid hX
      clear fa hR h1 h2 hm hX
      go_enter Tryz.func102, Tryz.ntmps102
      go_wp2_with fail
      refine (seq_Dist _ _ _).mono ?_
      rintro e w1 ⟨rfl, f1⟩
      rw [HX.out]
      have HF2 := Lib.hid (HF.out.tr f1)
      clear f1
      first
        | (subst hd
           go_wp2
           go_ret
           exact ⟨rfl, HF2.out⟩)
        | (have e5 : (X == 0) = false := by rw [beq_eq_false_iff_ne]; exact hd
           clear hd
           go_wp2
           go_ret
           exact ⟨rfl, HF2.out⟩)

set_option maxHeartbeats 1000000 in
theorem evt_none (d : PD) (s : Sl) (st vr va vs : Int) (w : World) (hn : s.n = d.info.length) (h : typM d ≠ 2) : Calls Tryz.prog 59 #[d.val s, .int .i64 st, .int .i64 vr, .int .i64 va, .int .i64 vs] w fun e w' => e = .returned (.int .i64 (-1)) ∧ Fr [] w w' := by
  have HS := Lib.hid hn
  clear hn
  have e2 : (typM d != 2) = true := bne_iff_ne.2 h
  obtain ⟨X, hX⟩ : ∃ X, typM d = X := ⟨_, rfl⟩
  rw [hX] at e2
  have HT := Lib.hid hX
  clear h hX
  have hb := Blk.new w (d.arr s) 52
  have fa := (Fr.refl [] w).alloc (.cells (d.arr s) 52)
  have HBF := Lib.hid (And.intro hb fa)
  clear hb fa
  go_enter Tryz.func59, Tryz.ntmps59
  go_wp2_with fail
  refine (tell_Type d s _ HS.out).mono ?_
  rintro e w1 ⟨rfl, f1⟩
  rw [HT.out]
  have hb1 := HBF.out.1.fr f1 (by simp)
  have F1 := Lib.hid (HBF.out.2.tr f1)
  obtain ⟨c0, c1, c2, c3, c4, c5, c6, c7, c8⟩ := pd_cells hb1
  have HB1 := Lib.hid hb1
  clear hb1 f1
  go_wp2
  go_ret
  exact ⟨rfl, F1.out⟩

set_option maxHeartbeats 1000000 in
theorem evt_low1 (d : PD) (s : Sl) (st vr va vs : Int) (w : World) (hn : s.n = d.info.length) (h : typM d = 2) (h2 : d.fm ≠ 2) (h8 : st < 8) (ha : asksM d = true) : Calls Tryz.prog 59 #[d.val s, .int .i64 st, .int .i64 vr, .int .i64 va, .int .i64 vs] w fun e w' => e = .returned (.int .i64 20) ∧ Fr [] w w' := by
  have HS := Lib.hid hn
  clear hn
  have HT := Lib.hid h
  have HA := Lib.hid ha
  have e2 : (d.fm == 2) = false := by rw [beq_eq_false_iff_ne]; exact h2
  have d8 : decide (st < 8) = true := by simpa using h8
  have hb := Blk.new w (d.arr s) 52
  have fa := (Fr.refl [] w).alloc (.cells (d.arr s) 52)
  have HBF := Lib.hid (And.intro hb fa)
  clear hb fa h ha h2 h8
  go_enter Tryz.func59, Tryz.ntmps59
  go_wp2_with fail
  refine (tell_Type d s _ HS.out).mono ?_
  rintro e w1 ⟨rfl, f1⟩
  rw [HT.out]
  have hb1 := HBF.out.1.fr f1 (by simp)
  have F1 := Lib.hid (HBF.out.2.tr f1)
  obtain ⟨c0, c1, c2, c3, c4, c5, c6, c7, c8⟩ := pd_cells hb1
  have HB1 := Lib.hid hb1
  clear hb1 f1
  go_wp2_with fail
  refine (tell_Asks d s _).mono ?_
  rintro e w2 ⟨rfl, f2⟩
  rw [HA.out]
  have hb2 := HB1.out.fr f2 (by simp)
  have F2 := Lib.hid (F1.out.tr f2)
  clear c0 c1 c2 c3 c4 c5 c6 c7 c8
  obtain ⟨c0, c1, c2, c3, c4, c5, c6, c7, c8⟩ := pd_cells hb2
  have HB2 := Lib.hid hb2
  clear hb2 f2
  go_wp2
  go_ret
  exact ⟨rfl, F2.out⟩

set_option maxHeartbeats 1000000 in
theorem evt_low0 (d : PD) (s : Sl) (st vr va vs : Int) (w : World) (hn : s.n = d.info.length) (h : typM d = 2) (h2 : d.fm ≠ 2) (h8 : st < 8) (ha : asksM d = false) : Calls Tryz.prog 59 #[d.val s, .int .i64 st, .int .i64 vr, .int .i64 va, .int .i64 vs] w fun e w' => e = .returned (.int .i64 19) ∧ Fr [] w w' := by
  have HS := Lib.hid hn
  clear hn
  have HT := Lib.hid h
  have HA := Lib.hid ha
  have e2 : (d.fm == 2) = false := by rw [beq_eq_false_iff_ne]; exact h2
  have d8 : decide (st < 8) = true := by simpa using h8
  have hb := Blk.new w (d.arr s) 52
  have fa := (Fr.refl [] w).alloc (.cells (d.arr s) 52)
  have HBF := Lib.hid (And.intro hb fa)
  clear hb fa h ha h2 h8
  go_enter Tryz.func59, Tryz.ntmps59
  go_wp2_with fail
  refine (tell_Type d s _ HS.out).mono ?_
  rintro e w1 ⟨rfl, f1⟩
  rw [HT.out]
  have hb1 := HBF.out.1.fr f1 (by simp)
  have F1 := Lib.hid (HBF.out.2.tr f1)
  obtain ⟨c0, c1, c2, c3, c4, c5, c6, c7, c8⟩ := pd_cells hb1
  have HB1 := Lib.hid hb1
  clear hb1 f1
  go_wp2_with fail
  refine (tell_Asks d s _).mono ?_
  rintro e w2 ⟨rfl, f2⟩
  rw [HA.out]
  have hb2 := HB1.out.fr f2 (by simp)
  have F2 := Lib.hid (F1.out.tr f2)
  clear c0 c1 c2 c3 c4 c5 c6 c7 c8
  obtain ⟨c0, c1, c2, c3, c4, c5, c6, c7, c8⟩ := pd_cells hb2
  have HB2 := Lib.hid hb2
  clear hb2 f2
  go_wp2
  go_ret
  exact ⟨rfl, F2.out⟩

set_option maxHeartbeats 1000000 in
theorem evt_wrong (d : PD) (s : Sl) (st vr va vs : Int) (w : World) (hn : s.n = d.info.length) (h : typM d = 2) (h2 : d.fm ≠ 2) (h8 : ¬ st < 8) (hw : wrongM d va vs = true) : Calls Tryz.prog 59 #[d.val s, .int .i64 st, .int .i64 vr, .int .i64 va, .int .i64 vs] w fun e w' => e = .returned (.int .i64 28) ∧ Fr [] w w' := by
  have HS := Lib.hid hn
  clear hn
  have HT := Lib.hid h
  have e2 : (d.fm == 2) = false := by rw [beq_eq_false_iff_ne]; exact h2
  have d8 : decide (st < 8) = false := by simp; omega
  have H2 := Lib.hid h2
  have HW := Lib.hid hw
  have hb := Blk.new w (d.arr s) 52
  have fa := (Fr.refl [] w).alloc (.cells (d.arr s) 52)
  have HBF := Lib.hid (And.intro hb fa)
  clear hb fa h h2 h8 hw
  go_enter Tryz.func59, Tryz.ntmps59
  go_wp2_with fail
  refine (tell_Type d s _ HS.out).mono ?_
  rintro e w1 ⟨rfl, f1⟩
  rw [HT.out]
  have hb1 := HBF.out.1.fr f1 (by simp)
  have F1 := Lib.hid (HBF.out.2.tr f1)
  obtain ⟨c0, c1, c2, c3, c4, c5, c6, c7, c8⟩ := pd_cells hb1
  have HB1 := Lib.hid hb1
  clear hb1 f1
  go_wp2_with fail
  refine (tell_Wrong d s va vs _ H2.out).mono ?_
  rintro e w2 ⟨rfl, f2⟩
  rw [HW.out]
  have hb2 := HB1.out.fr f2 (by simp)
  have F2 := Lib.hid (F1.out.tr f2)
  clear c0 c1 c2 c3 c4 c5 c6 c7 c8
  obtain ⟨c0, c1, c2, c3, c4, c5, c6, c7, c8⟩ := pd_cells hb2
  have HB2 := Lib.hid hb2
  clear hb2 f2
  go_wp2
  go_ret
  exact ⟨rfl, F2.out⟩

set_option maxHeartbeats 1000000 in
theorem evt_p (d : PD) (s : Sl) (st vr va vs : Int) (w : World) (hn : s.n = d.info.length) (h : typM d = 2) (h2 : d.fm ≠ 2) (h8 : ¬ st < 8) (hw : wrongM d va vs = false) (ha : asksM d = true) : Calls Tryz.prog 59 #[d.val s, .int .i64 st, .int .i64 vr, .int .i64 va, .int .i64 vs] w fun e w' => e = .returned (.int .i64 (firstM d vr + 1)) ∧ Fr [] w w' := by
  have HS := Lib.hid hn
  clear hn
  have HT := Lib.hid h
  have HA := Lib.hid ha
  have e2 : (d.fm == 2) = false := by rw [beq_eq_false_iff_ne]; exact h2
  have d8 : decide (st < 8) = false := by simp; omega
  have H2 := Lib.hid h2
  have HW := Lib.hid hw
  have HMF := Lib.hid (may_f (typM_may h))
  obtain ⟨X, hX⟩ : ∃ X, firstM d vr = X := ⟨_, rfl⟩
  have hXr : 13 ≤ X ∧ X ≤ 25 := by
    rw [← hX]
    unfold firstM
    split
    · rename_i h1
      have := (may_f (typM_may h)).k1 h1
      obtain ⟨k, hkd⟩ : ∃ k : Nat, d.kd = k := ⟨d.kd.toNat, by omega⟩
      rw [hkd]
      obtain rfl | rfl | rfl : k = 0 ∨ k = 1 ∨ k = 2 := by omega
      all_goals simp [firstL]
    · split <;> omega
  have hx1 : IntKind.i64.wrap (X + 1) = X + 1 := IntWalk.i64_in _ (by omega)
  have hx2 : IntKind.i64.wrap (X + 2) = X + 2 := IntWalk.i64_in _ (by omega)
  rw [hX]
  have HX := Lib.hid hX
  have hb := Blk.new w (d.arr s) 52
  have fa := (Fr.refl [] w).alloc (.cells (d.arr s) 52)
  have HBF := Lib.hid (And.intro hb fa)
  clear hb fa h ha h2 h8 hw hX
  go_enter Tryz.func59, Tryz.ntmps59
  go_wp2_with fail
  refine (tell_Type d s _ HS.out).mono ?_
  rintro e w1 ⟨rfl, f1⟩
  rw [HT.out]
  have hb1 := HBF.out.1.fr f1 (by simp)
  have F1 := Lib.hid (HBF.out.2.tr f1)
  obtain ⟨c0, c1, c2, c3, c4, c5, c6, c7, c8⟩ := pd_cells hb1
  have HB1 := Lib.hid hb1
  clear hb1 f1
  go_wp2_with fail
  refine (tell_Wrong d s va vs _ H2.out).mono ?_
  rintro e w2 ⟨rfl, f2⟩
  rw [HW.out]
  have hb2 := HB1.out.fr f2 (by simp)
  have F2 := Lib.hid (F1.out.tr f2)
  clear c0 c1 c2 c3 c4 c5 c6 c7 c8
  obtain ⟨c0, c1, c2, c3, c4, c5, c6, c7, c8⟩ := pd_cells hb2
  have HB2 := Lib.hid hb2
  clear hb2 f2
  go_wp2_with fail
  refine (tell_Asks d s _).mono ?_
  rintro e w3 ⟨rfl, f3⟩
  rw [HA.out]
  have hb3 := HB2.out.fr f3 (by simp)
  have F3 := Lib.hid (F2.out.tr f3)
  clear c0 c1 c2 c3 c4 c5 c6 c7 c8
  obtain ⟨c0, c1, c2, c3, c4, c5, c6, c7, c8⟩ := pd_cells hb3
  have HB3 := Lib.hid hb3
  clear hb3 f3
  go_wp2_with fail
  refine (tell_first d s vr _ HMF.out H2.out).mono ?_
  rintro e w4 ⟨rfl, f4⟩
  rw [HX.out]
  have hb4 := HB3.out.fr f4 (by simp)
  have F4 := Lib.hid (F3.out.tr f4)
  clear c0 c1 c2 c3 c4 c5 c6 c7 c8
  obtain ⟨c0, c1, c2, c3, c4, c5, c6, c7, c8⟩ := pd_cells hb4
  have HB4 := Lib.hid hb4
  clear hb4 f4
  go_wp2
  go_ret
  exact ⟨rfl, F4.out⟩

set_option maxHeartbeats 1000000 in
theorem evt_f (d : PD) (s : Sl) (st vr va vs : Int) (w : World) (hn : s.n = d.info.length) (h : typM d = 2) (h2 : d.fm ≠ 2) (h8 : ¬ st < 8) (hw : wrongM d va vs = false) (ha : asksM d = false) (hp : d.po = true) (h11 : 11 ≤ st) : Calls Tryz.prog 59 #[d.val s, .int .i64 st, .int .i64 vr, .int .i64 va, .int .i64 vs] w fun e w' => e = .returned (.int .i64 (firstM d vr + 2)) ∧ Fr [] w w' := by
  have HS := Lib.hid hn
  clear hn
  have HT := Lib.hid h
  have HA := Lib.hid ha
  have e2 : (d.fm == 2) = false := by rw [beq_eq_false_iff_ne]; exact h2
  have d8 : decide (st < 8) = false := by simp; omega
  have d9 : decide (11 ≤ st) = true := by simpa using h11
  have H2 := Lib.hid h2
  have HW := Lib.hid hw
  have HMF := Lib.hid (may_f (typM_may h))
  obtain ⟨X, hX⟩ : ∃ X, firstM d vr = X := ⟨_, rfl⟩
  have hXr : 13 ≤ X ∧ X ≤ 25 := by
    rw [← hX]
    unfold firstM
    split
    · rename_i h1
      have := (may_f (typM_may h)).k1 h1
      obtain ⟨k, hkd⟩ : ∃ k : Nat, d.kd = k := ⟨d.kd.toNat, by omega⟩
      rw [hkd]
      obtain rfl | rfl | rfl : k = 0 ∨ k = 1 ∨ k = 2 := by omega
      all_goals simp [firstL]
    · split <;> omega
  have hx1 : IntKind.i64.wrap (X + 1) = X + 1 := IntWalk.i64_in _ (by omega)
  have hx2 : IntKind.i64.wrap (X + 2) = X + 2 := IntWalk.i64_in _ (by omega)
  rw [hX]
  have HX := Lib.hid hX
  have HPO := Lib.hid hp
  have hb := Blk.new w (d.arr s) 52
  have fa := (Fr.refl [] w).alloc (.cells (d.arr s) 52)
  have HBF := Lib.hid (And.intro hb fa)
  clear hb fa h ha h2 h8 hw hX hp
  go_enter Tryz.func59, Tryz.ntmps59
  go_wp2_with fail
  refine (tell_Type d s _ HS.out).mono ?_
  rintro e w1 ⟨rfl, f1⟩
  rw [HT.out]
  have hb1 := HBF.out.1.fr f1 (by simp)
  have F1 := Lib.hid (HBF.out.2.tr f1)
  obtain ⟨c0, c1, c2, c3, c4, c5, c6, c7, c8⟩ := pd_cells hb1
  have HB1 := Lib.hid hb1
  clear hb1 f1
  go_wp2_with fail
  refine (tell_Wrong d s va vs _ H2.out).mono ?_
  rintro e w2 ⟨rfl, f2⟩
  rw [HW.out]
  have hb2 := HB1.out.fr f2 (by simp)
  have F2 := Lib.hid (F1.out.tr f2)
  clear c0 c1 c2 c3 c4 c5 c6 c7 c8
  obtain ⟨c0, c1, c2, c3, c4, c5, c6, c7, c8⟩ := pd_cells hb2
  have HB2 := Lib.hid hb2
  clear hb2 f2
  go_wp2_with fail
  refine (tell_Asks d s _).mono ?_
  rintro e w3 ⟨rfl, f3⟩
  rw [HA.out]
  have hb3 := HB2.out.fr f3 (by simp)
  have F3 := Lib.hid (F2.out.tr f3)
  clear c0 c1 c2 c3 c4 c5 c6 c7 c8
  obtain ⟨c0, c1, c2, c3, c4, c5, c6, c7, c8⟩ := pd_cells hb3
  have HB3 := Lib.hid hb3
  clear hb3 f3
  rw [HPO.out] at c7
  have hF := tell_first d s vr w3 HMF.out H2.out
  unfold PD.val at hF
  rw [HPO.out] at hF
  go_wp2_with fail
  refine hF.mono ?_
  rintro e w4 ⟨rfl, f4⟩
  rw [HX.out]
  clear hF
  have hb4 := HB3.out.fr f4 (by simp)
  have F4 := Lib.hid (F3.out.tr f4)
  clear c0 c1 c2 c3 c4 c5 c6 c7 c8
  obtain ⟨c0, c1, c2, c3, c4, c5, c6, c7, c8⟩ := pd_cells hb4
  have HB4 := Lib.hid hb4
  clear hb4 f4
  go_wp2
  go_ret
  exact ⟨rfl, F4.out⟩

set_option maxHeartbeats 1000000 in
theorem evt_n0 (d : PD) (s : Sl) (st vr va vs : Int) (w : World) (hn : s.n = d.info.length) (h : typM d = 2) (h2 : d.fm ≠ 2) (h8 : ¬ st < 8) (hw : wrongM d va vs = false) (ha : asksM d = false) (hp : d.po = false) : Calls Tryz.prog 59 #[d.val s, .int .i64 st, .int .i64 vr, .int .i64 va, .int .i64 vs] w fun e w' => e = .returned (.int .i64 (firstM d vr)) ∧ Fr [] w w' := by
  have HS := Lib.hid hn
  clear hn
  have HT := Lib.hid h
  have HA := Lib.hid ha
  have e2 : (d.fm == 2) = false := by rw [beq_eq_false_iff_ne]; exact h2
  have d8 : decide (st < 8) = false := by simp; omega
  have H2 := Lib.hid h2
  have HW := Lib.hid hw
  have HMF := Lib.hid (may_f (typM_may h))
  obtain ⟨X, hX⟩ : ∃ X, firstM d vr = X := ⟨_, rfl⟩
  have hXr : 13 ≤ X ∧ X ≤ 25 := by
    rw [← hX]
    unfold firstM
    split
    · rename_i h1
      have := (may_f (typM_may h)).k1 h1
      obtain ⟨k, hkd⟩ : ∃ k : Nat, d.kd = k := ⟨d.kd.toNat, by omega⟩
      rw [hkd]
      obtain rfl | rfl | rfl : k = 0 ∨ k = 1 ∨ k = 2 := by omega
      all_goals simp [firstL]
    · split <;> omega
  have hx1 : IntKind.i64.wrap (X + 1) = X + 1 := IntWalk.i64_in _ (by omega)
  have hx2 : IntKind.i64.wrap (X + 2) = X + 2 := IntWalk.i64_in _ (by omega)
  rw [hX]
  have HX := Lib.hid hX
  have HPO := Lib.hid hp
  have hb := Blk.new w (d.arr s) 52
  have fa := (Fr.refl [] w).alloc (.cells (d.arr s) 52)
  have HBF := Lib.hid (And.intro hb fa)
  clear hb fa h ha h2 h8 hw hX hp
  go_enter Tryz.func59, Tryz.ntmps59
  go_wp2_with fail
  refine (tell_Type d s _ HS.out).mono ?_
  rintro e w1 ⟨rfl, f1⟩
  rw [HT.out]
  have hb1 := HBF.out.1.fr f1 (by simp)
  have F1 := Lib.hid (HBF.out.2.tr f1)
  obtain ⟨c0, c1, c2, c3, c4, c5, c6, c7, c8⟩ := pd_cells hb1
  have HB1 := Lib.hid hb1
  clear hb1 f1
  go_wp2_with fail
  refine (tell_Wrong d s va vs _ H2.out).mono ?_
  rintro e w2 ⟨rfl, f2⟩
  rw [HW.out]
  have hb2 := HB1.out.fr f2 (by simp)
  have F2 := Lib.hid (F1.out.tr f2)
  clear c0 c1 c2 c3 c4 c5 c6 c7 c8
  obtain ⟨c0, c1, c2, c3, c4, c5, c6, c7, c8⟩ := pd_cells hb2
  have HB2 := Lib.hid hb2
  clear hb2 f2
  go_wp2_with fail
  refine (tell_Asks d s _).mono ?_
  rintro e w3 ⟨rfl, f3⟩
  rw [HA.out]
  have hb3 := HB2.out.fr f3 (by simp)
  have F3 := Lib.hid (F2.out.tr f3)
  clear c0 c1 c2 c3 c4 c5 c6 c7 c8
  obtain ⟨c0, c1, c2, c3, c4, c5, c6, c7, c8⟩ := pd_cells hb3
  have HB3 := Lib.hid hb3
  clear hb3 f3
  rw [HPO.out] at c7
  have hF := tell_first d s vr w3 HMF.out H2.out
  unfold PD.val at hF
  rw [HPO.out] at hF
  go_wp2_with fail
  refine hF.mono ?_
  rintro e w4 ⟨rfl, f4⟩
  rw [HX.out]
  clear hF
  have hb4 := HB3.out.fr f4 (by simp)
  have F4 := Lib.hid (F3.out.tr f4)
  clear c0 c1 c2 c3 c4 c5 c6 c7 c8
  obtain ⟨c0, c1, c2, c3, c4, c5, c6, c7, c8⟩ := pd_cells hb4
  have HB4 := Lib.hid hb4
  clear hb4 f4
  go_wp2
  go_ret
  exact ⟨rfl, F4.out⟩

set_option maxHeartbeats 1000000 in
theorem evt_n1 (d : PD) (s : Sl) (st vr va vs : Int) (w : World) (hn : s.n = d.info.length) (h : typM d = 2) (h2 : d.fm ≠ 2) (h8 : ¬ st < 8) (hw : wrongM d va vs = false) (ha : asksM d = false) (hp : d.po = true) (h11 : ¬ 11 ≤ st) : Calls Tryz.prog 59 #[d.val s, .int .i64 st, .int .i64 vr, .int .i64 va, .int .i64 vs] w fun e w' => e = .returned (.int .i64 (firstM d vr)) ∧ Fr [] w w' := by
  have HS := Lib.hid hn
  clear hn
  have HT := Lib.hid h
  have HA := Lib.hid ha
  have e2 : (d.fm == 2) = false := by rw [beq_eq_false_iff_ne]; exact h2
  have d8 : decide (st < 8) = false := by simp; omega
  have d9 : decide (11 ≤ st) = false := by simpa using h11
  have H2 := Lib.hid h2
  have HW := Lib.hid hw
  have HMF := Lib.hid (may_f (typM_may h))
  obtain ⟨X, hX⟩ : ∃ X, firstM d vr = X := ⟨_, rfl⟩
  have hXr : 13 ≤ X ∧ X ≤ 25 := by
    rw [← hX]
    unfold firstM
    split
    · rename_i h1
      have := (may_f (typM_may h)).k1 h1
      obtain ⟨k, hkd⟩ : ∃ k : Nat, d.kd = k := ⟨d.kd.toNat, by omega⟩
      rw [hkd]
      obtain rfl | rfl | rfl : k = 0 ∨ k = 1 ∨ k = 2 := by omega
      all_goals simp [firstL]
    · split <;> omega
  have hx1 : IntKind.i64.wrap (X + 1) = X + 1 := IntWalk.i64_in _ (by omega)
  have hx2 : IntKind.i64.wrap (X + 2) = X + 2 := IntWalk.i64_in _ (by omega)
  rw [hX]
  have HX := Lib.hid hX
  have HPO := Lib.hid hp
  have hb := Blk.new w (d.arr s) 52
  have fa := (Fr.refl [] w).alloc (.cells (d.arr s) 52)
  have HBF := Lib.hid (And.intro hb fa)
  clear hb fa h ha h2 h8 hw hX hp h11
  go_enter Tryz.func59, Tryz.ntmps59
  go_wp2_with fail
  refine (tell_Type d s _ HS.out).mono ?_
  rintro e w1 ⟨rfl, f1⟩
  rw [HT.out]
  have hb1 := HBF.out.1.fr f1 (by simp)
  have F1 := Lib.hid (HBF.out.2.tr f1)
  obtain ⟨c0, c1, c2, c3, c4, c5, c6, c7, c8⟩ := pd_cells hb1
  have HB1 := Lib.hid hb1
  clear hb1 f1
  go_wp2_with fail
  refine (tell_Wrong d s va vs _ H2.out).mono ?_
  rintro e w2 ⟨rfl, f2⟩
  rw [HW.out]
  have hb2 := HB1.out.fr f2 (by simp)
  have F2 := Lib.hid (F1.out.tr f2)
  clear c0 c1 c2 c3 c4 c5 c6 c7 c8
  obtain ⟨c0, c1, c2, c3, c4, c5, c6, c7, c8⟩ := pd_cells hb2
  have HB2 := Lib.hid hb2
  clear hb2 f2
  go_wp2_with fail
  refine (tell_Asks d s _).mono ?_
  rintro e w3 ⟨rfl, f3⟩
  rw [HA.out]
  have hb3 := HB2.out.fr f3 (by simp)
  have F3 := Lib.hid (F2.out.tr f3)
  clear c0 c1 c2 c3 c4 c5 c6 c7 c8
  obtain ⟨c0, c1, c2, c3, c4, c5, c6, c7, c8⟩ := pd_cells hb3
  have HB3 := Lib.hid hb3
  clear hb3 f3
  rw [HPO.out] at c7
  have hF := tell_first d s vr w3 HMF.out H2.out
  unfold PD.val at hF
  rw [HPO.out] at hF
  go_wp2_with fail
  refine hF.mono ?_
  rintro e w4 ⟨rfl, f4⟩
  rw [HX.out]
  clear hF
  have hb4 := HB3.out.fr f4 (by simp)
  have F4 := Lib.hid (F3.out.tr f4)
  clear c0 c1 c2 c3 c4 c5 c6 c7 c8
  obtain ⟨c0, c1, c2, c3, c4, c5, c6, c7, c8⟩ := pd_cells hb4
  have HB4 := Lib.hid hb4
  clear hb4 f4
  go_wp2
  go_ret
  exact ⟨rfl, F4.out⟩

set_option maxHeartbeats 1000000 in
theorem evt_u (d : PD) (s : Sl) (st vr va vs : Int) (w : World) (hn : s.n = d.info.length) (h : typM d = 2) (h2 : d.fm = 2) : Calls Tryz.prog 59 #[d.val s, .int .i64 st, .int .i64 vr, .int .i64 va, .int .i64 vs] w fun e w' => e = .returned (.int .i64 (eventsL.getD d.kd.toNat 0)) ∧ Fr [] w w' := by
  have HS := Lib.hid hn
  clear hn
  have hf := may_f (typM_may h)
  obtain ⟨k, hk⟩ : ∃ k : Nat, d.kd = k := ⟨d.kd.toNat, by have := hf.k2 h2; omega⟩
  have hk8 : k < 8 := by
    have := hf.k2 h2
    have h3 := h
    unfold typM at h3
    rw [if_neg (by rw [typM_may h]; decide), if_pos h2, hk, Int.toNat_natCast] at h3
    have hc : k < 8 ∨ k = 8 ∨ k = 9 := by omega
    rcases hc with h4 | rfl | rfl
    · exact h4
    · simp [typesL] at h3
    · simp [typesL] at h3
  rw [hk, Int.toNat_natCast]
  have d2 : (k : Int) < 8 := by omega
  have HT := Lib.hid h
  have HH2 := Lib.hid h2
  have HHK := Lib.hid hk
  have hb := Blk.new w (d.arr s) 52
  have fa := (Fr.refl [] w).alloc (.cells (d.arr s) 52)
  have HBF := Lib.hid (And.intro hb fa)
  clear hb fa h h2 hf hk
  go_enter Tryz.func59, Tryz.ntmps59
  go_wp2_with fail
  refine (tell_Type d s _ HS.out).mono ?_
  rintro e w1 ⟨rfl, f1⟩
  rw [HT.out]
  have hb1 := HBF.out.1.fr f1 (by simp)
  have F1 := Lib.hid (HBF.out.2.tr f1)
  obtain ⟨c0, c1, c2, c3, c4, c5, c6, c7, c8⟩ := pd_cells hb1
  have HB1 := Lib.hid hb1
  clear hb1 f1
  rw [HH2.out] at c3
  rw [HHK.out] at c4
  clear c0 c1 c2 c5 c6 c7 c8
  have HB1' := Lib.hid c4
  go_wp2_with fail
  have hp0 : (fun x : World => x.cell? ⟨w.heap.size, 4, none⟩ = some (.int .i64 (k : Int))) w1.drew := HB1'.out
  haveI : Nonempty (Held fun x : World => x.cell? ⟨w.heap.size, 4, none⟩ = some (.int .i64 (k : Int))) := ⟨⟨_, hp0⟩⟩
  have q4 : ∀ n : Held (fun x : World => x.cell? ⟨w.heap.size, 4, none⟩ = some (.int .i64 (k : Int))), n.x.cell? ⟨w.heap.size, 4, none⟩ = some (.int .i64 (k : Int)) := fun n => n.ok
  refine wp_region_mixP (fun x => ∃ n : Held (fun x : World => x.cell? ⟨w.heap.size, 4, none⟩ = some (.int .i64 (k : Int))), x = n.x) [([1, 2], some 0), ([], some 3), ([], some 4), ([], some 5)] (by kernel_rfl) (by kernel_rfl) (by kernel_rfl) (by kernel_rfl) ⟨⟨_, hp0⟩, rfl⟩ ?_
  simp only [wpMixP, pickL, pick1, List.getElem?_toArray, List.getElem?_cons_zero, List.getElem?_cons_succ]
  repeat (go_big_quiet_step (fail))
  refine wpQuiet_nil ?_
  go_wp2_with fail
  refine (tell_events _).mono ?_
  rintro e w2 ⟨b, rfl, hbc, hbl, f2⟩
  have hp2 : w2.cell? ⟨w.heap.size, 4, none⟩ = some (.int .i64 (k : Int)) := f2.cell hp0 (by simp)
  have hck := hbc k hk8
  have HF := Lib.hid (F1.out.tr ((Fr.refl [] w1).drew.tr f2))
  clear hbc hbl f2 hp0 q4
  go_wp2_with fail
  refine ⟨⟨⟨_, hp2⟩, rfl⟩, ?_⟩
  dsimp only
  refine wpQuiet_nil ?_
  go_wp2_with fail
  refine ⟨⟨⟨_, hp2⟩, rfl⟩, ?_⟩
  dsimp only
  refine wpQuiet_nil ?_
  go_wp2_with fail
  refine ⟨⟨⟨_, hp2⟩, rfl⟩, ?_⟩
  dsimp only
  refine wpQuiet_nil ?_
  go_wp2_with fail
  refine ⟨⟨⟨_, hp2⟩, rfl⟩, ?_⟩
  dsimp only
  go_wp2
  go_ret
  exact ⟨rfl, HF.out⟩

theorem tell_Event (d : PD) (s : Sl) (st vr va vs : Int) (w : World) (hn : s.n = d.info.length) : Calls Tryz.prog 59 #[d.val s, .int .i64 st, .int .i64 vr, .int .i64 va, .int .i64 vs] w fun e w' => e = .returned (.int .i64 (evtM d st vr va vs)) ∧ Fr [] w w' := by
  unfold evtM
  by_cases h : typM d = 2
  · rw [if_neg (fun hh => hh h)]
    by_cases h2 : d.fm = 2
    · rw [if_pos h2]; exact evt_u d s st vr va vs w hn h h2
    · rw [if_neg h2]
      by_cases h8 : st < 8
      · rw [if_pos h8]
        cases ha : asksM d
        · exact evt_low0 d s st vr va vs w hn h h2 h8 ha
        · exact evt_low1 d s st vr va vs w hn h h2 h8 ha
      · rw [if_neg h8]
        cases hw : wrongM d va vs
        · rw [if_neg (by decide)]
          cases ha : asksM d
          · rw [if_neg (by decide)]
            cases hp : d.po
            · rw [if_neg (fun hh => by cases hh.1)]; exact evt_n0 d s st vr va vs w hn h h2 h8 hw ha hp
            · by_cases h11 : 11 ≤ st
              · rw [if_pos ⟨rfl, h11⟩]; exact evt_f d s st vr va vs w hn h h2 h8 hw ha hp h11
              · rw [if_neg (fun hh => h11 hh.2)]; exact evt_n1 d s st vr va vs w hn h h2 h8 hw ha hp h11
          · rw [if_pos rfl]; exact evt_p d s st vr va vs w hn h h2 h8 hw ha
        · rw [if_pos rfl]; exact evt_wrong d s st vr va vs w hn h h2 h8 hw
  · rw [if_pos h]; exact evt_none d s st vr va vs w hn h
end Go.Proofs.YtneggoonlmmjeaaGreat
namespace Go.Proofs.YtneggoonlmmjeaaGreat
open Go.RowKit Go.Shelf
set_option linter.unusedVariables false
set_option linter.unusedSimpArgs false
set_option maxRecDepth 100000

def numG (l : List Int) : Int := l.foldl (fun n c => n * 256 + c) 0
theorem numG_snoc (l : List Int) (c : Int) : numG (l ++ [c]) = numG l * 256 + c := by unfold numG; rw [List.foldl_append]; rfl
theorem numG_le : ∀ (l : List Int) (n : Int), 0 ≤ n → (∀ x ∈ l, 0 ≤ x ∧ x ≤ 255) → 0 ≤ l.foldl (fun n c => n * 256 + c) n ∧ l.foldl (fun n c => n * 256 + c) n < (n + 1) * 256 ^ l.length
  | [], n, h, _ => by simp; omega
  | c :: l, n, h, hl => by
    have hc := hl c (by simp)
    have ih := numG_le l (n * 256 + c) (by omega) (fun x hx => hl x (by simp [hx]))
    refine ⟨ih.1, Int.lt_of_lt_of_le ih.2 ?_⟩
    rw [List.length_cons, Int.pow_succ, Int.mul_comm (256 ^ l.length) 256, ← Int.mul_assoc]
    exact Int.mul_le_mul_of_nonneg_right (by omega) (Int.pow_nonneg (by omega))
theorem numG_lt (l : List Int) (h : l.length = 4) (hl : ∀ x ∈ l, 0 ≤ x ∧ x ≤ 255) : 0 ≤ numG l ∧ numG l < 4294967296 := by
  have := numG_le l 0 (by omega) hl
  rw [h] at this
  unfold numG
  omega
theorem or_byte (n c : Int) (h0 : 0 ≤ n) (h1 : n < 16777216) (hc : 0 ≤ c ∧ c ≤ 255) : bits .or .i64 (n * 256) c = n * 256 + c :=
  bits_join .i64 62 (by decide) (fun n h0 h1 => IntWalk.i64_in _ (by have : (2 : Int) ^ 62 = 4611686018427387904 := by decide
                                                                     omega)) 8 _ _ (by omega) (by omega) (by have : (2 : Int) ^ 62 = 4611686018427387904 := by decide
                                                                                                             omega) hc.1 (by omega) (by have : (2 : Int) ^ 62 = 4611686018427387904 := by decide
                                                                                                                                        omega)
set_option maxHeartbeats 1000000 in
theorem oct_Get4 (w : World) (s : Sl) (l : List Int) (h : Ints .u8 w s.v l) (h4 : l.length = 4) (hb : ∀ x ∈ l, 0 ≤ x ∧ x ≤ 255) :
    Calls Tryz.prog 104 #[.slice s.A s.n s.c] w fun e w' => e = .returned (.int .i64 (numG l)) ∧ w = w' := by
  have hn := h.n_
  rw [h4] at hn
  obtain ⟨A, nn, c⟩ := s
  simp only at hn
  subst hn
  have H := Lib.hid (And.intro h (And.intro h4 hb))
  clear h h4 hb
  go_enter Tryz.func104, Tryz.ntmps104
  go_wp2_with fail
  refine (oct_may4 w).mono ?_
  rintro e w1 ⟨rfl, rfl⟩
  go_wp2
  go_loopw [3, 12] (fun n i wr => w = wr ∧ ∃ j : Nat, i = .int .i64 j ∧ n = .int .i64 (numG (l.take j)) ∧ j ≤ 4) (fun _ i _ => 4 - (intOf i).toNat)
  case atStart => exact ⟨rfl, 0, rfl, rfl, by omega⟩
  case round =>
    obtain ⟨rfl, j, rfl, rfl, hj⟩ := hrel
    by_cases hlt : j < 4
    · have d1 : (j : Int) < 4 := by omega
      have d2 : j < 4 := hlt
      obtain ⟨hI, h4, hb⟩ := H.out
      have hjl : j < l.length := by omega
      obtain ⟨b, off, hA, hc⟩ := hI.each j hjl
      simp only at hA
      subst hA
      have hbj := hb _ (List.getElem_mem hjl)
      have htk : numG (l.take (j + 1)) = numG (l.take j) * 256 + l[j] := by rw [← List.take_append_getElem hjl, numG_snoc]
      have hle := numG_le (l.take j) 0 (by omega) (fun x hx => hb x (List.mem_of_mem_take hx))
      have hlen : (l.take j).length = j := by rw [List.length_take]; omega
      rw [hlen] at hle
      have hj3 : ((0 : Int) + 1) * 256 ^ j ≤ 16777216 := by
        obtain rfl | rfl | rfl | rfl : j = 0 ∨ j = 1 ∨ j = 2 ∨ j = 3 := by omega
        all_goals decide
      have hN : 0 ≤ numG (l.take j) ∧ numG (l.take j) < 16777216 := ⟨hle.1, Int.lt_of_lt_of_le hle.2 hj3⟩
      obtain ⟨N, hNN⟩ : ∃ N, numG (l.take j) = N := ⟨_, rfl⟩
      rw [hNN] at htk hN ⊢
      have HTK := Lib.hid htk
      clear hle hlen hj3 hI h4 hb hNN htk
      generalize l[j] = a at *
      have hor := or_byte N a hN.1 hN.2 hbj
      have hw : IntKind.i64.wrap (N * 256) = N * 256 := IntWalk.i64_in _ (by omega)
      have hwa : IntKind.i64.wrap a = a := IntWalk.i64_in _ (by omega)
      go_wp2
      go_roundw
      case rel => exact ⟨trivial, j + 1, by go_num, by rw [HTK.out], by omega⟩
      case measure => simp [intOf]; omega
    · have d1 : ¬ (j : Int) < 4 := by omega
      have hj4 : j = 4 := by omega
      subst hj4
      rw [List.take_of_length_le (by rw [H.out.2.1]; omega)]
      go_wp2
      go_ret
      exact ⟨rfl, rfl⟩
def readM (l : List Int) : Int := if l.length = 4 then numG l else 0
theorem fld_ReadNumber (w : World) (s : Sl) (l : List Int) (h : Ints .u8 w s.v l) (h4 : l.length = 4) (hb : ∀ x ∈ l, 0 ≤ x ∧ x ≤ 255) :
    Calls Tryz.prog 63 #[.slice s.A s.n s.c] w fun e w' => e = .returned (.tuple #[.int .i64 (numG l), .bool true]) ∧ w = w' := by
  have hn := h.n_
  rw [h4] at hn
  have hG := oct_Get4 w s l h h4 hb
  obtain ⟨A, nn, c⟩ := s
  simp only at hn
  subst hn
  clear h h4 hb
  go_enter Tryz.func63, Tryz.ntmps63
  go_wp2_with fail
  refine hG.mono ?_
  rintro e w1 ⟨rfl, rfl⟩
  go_wp2
  go_ret2
  exact ⟨rfl, rfl⟩
end Go.Proofs.YtneggoonlmmjeaaGreat
namespace Go.Proofs.YtneggoonlmmjeaaGreat
open Go.RowKit Go.Shelf
set_option linter.unusedVariables false
set_option linter.unusedSimpArgs false
set_option maxRecDepth 100000

def sabmeM (m : TM) (n : Int) : Bool × TM :=
  if n = m.other then
    if m.state = 2 ∨ m.state = 3 then (false, m) else if m.state = 1 ∨ m.state = 4 then (true, m)
    else if m.state = 0 ∨ m.state = 6 ∨ m.state = 5 ∨ m.state = 7 then (true, sendM m (rspD m 6)) else (true, sendM m (rspD m 5))
  else (decide (m.state = 1 ∨ m.state = 4), { m with other := n })
def numberedM (m : TM) (e n : Int) : Bool × TM :=
  if e = 8 then sabmeM m n else if e = 10 then (decide (n ≠ m.own), m) else if e = 11 then (decide ((m.state = 2 ∨ m.state = 3 ∨ m.state = 6) ∧ n ≠ m.own), m) else (false, m)
theorem mk_resp (w : World) (v : TV) (m : TM) (kind : Int) (h : IsTie w v m) (ho : 0 ≤ m.num ∧ m.num < 4294967296) (hs : m.send.length ≤ 100000) :
    Calls Tryz.prog 147 #[.pointer (some ⟨v.t, 0, none⟩), .int .i64 kind] w fun e w' => ∃ b0 b1, e = .returned (.func (.func 190) #[] #[.pointer (some ⟨b0, 0, none⟩), .pointer (some ⟨b1, 0, none⟩)]) ∧ Fr [] w w' ∧
      Calls Tryz.prog 190 #[.pointer (some ⟨b0, 0, none⟩), .pointer (some ⟨b1, 0, none⟩)] w' fun e w'' => e = .returned (.tuple #[]) ∧ TieTo w w'' v (sendM m (rspD m kind)) := by
  refine (mk_response w v.t kind).mono ?_
  rintro e w' ⟨rfl, rfl⟩
  have f1 := (Fr.refl [] w).alloc (.cells #[.pointer (some ⟨v.t, 0, none⟩)] 26)
  have f2 := f1.alloc (.cells #[.int .i64 kind] 3)
  have c0 := ((Blk.new w #[.pointer (some ⟨v.t, 0, none⟩)] 26).alloc (.cells #[.int .i64 kind] 3)).cell 0 rfl
  have c1 := (Blk.new (w.alloc (.cells #[.pointer (some ⟨v.t, 0, none⟩)] 26)) #[.int .i64 kind] 3).cell 0 rfl
  rw [World.size_alloc] at c1
  refine ⟨_, _, rfl, f2, (tie_response1 _ v m kind _ _ (h.fr0 f2) c0 c1 ho.1 ho.2 hs).mono ?_⟩
  rintro e w'' ⟨rfl, ht⟩
  exact ⟨rfl, TieTo.trans (f2.mono (by simp)) (fun x hx => .inl hx) rfl rfl ht⟩
set_option maxHeartbeats 1000000 in
theorem sabme_a0 (w : World) (v : TV) (m : TM) (n : Int) (h : IsTie w v m) (hs : m.state = 0) (hn : n = m.other) (ho : 0 ≤ m.num ∧ m.num < 4294967296) (hl : m.send.length ≤ 100000) :
    Calls Tryz.prog 105 #[.pointer (some ⟨v.t, 0, none⟩), .int .i64 n] w fun e w' => e = .returned (.bool (sabmeM m n).1) ∧ TieTo w w' v (sabmeM m n).2 := by
  have c9 := h.c9
  have c17 := h.c17
  rw [hs] at c9
  have hR : sabmeM m n = (true, sendM m (rspD m 6)) := by unfold sabmeM; rw [if_pos hn, hs]; rfl
  rw [hR]
  subst hn
  have e1 : (m.other == m.other) = true := by simp
  have H := Lib.hid h
  clear h hs hR
  go_enter Tryz.func105, Tryz.ntmps105
  go_wp2_with fail
  refine (mk_resp w v m 6 H.out ho hl).mono ?_
  rintro e w1 ⟨b0, b1, rfl, f1, hc⟩
  have HC := Lib.hid hc
  clear hc f1 c9 c17
  go_wp2_with fail
  refine HC.out.mono ?_
  rintro e w2 ⟨rfl, ht⟩
  have HT := Lib.hid ht
  clear ht
  go_wp2
  go_ret
  exact ⟨rfl, HT.out⟩
set_option maxHeartbeats 1000000 in
theorem sabme_b0 (w : World) (v : TV) (m : TM) (n : Int) (h : IsTie w v m) (hs : m.state = 0) (hn : n ≠ m.other) (ho : 0 ≤ m.num ∧ m.num < 4294967296) (hl : m.send.length ≤ 100000) :
    Calls Tryz.prog 105 #[.pointer (some ⟨v.t, 0, none⟩), .int .i64 n] w fun e w' => e = .returned (.bool (sabmeM m n).1) ∧ TieTo w w' v (sabmeM m n).2 := by
  have c9 := h.c9
  have c17 := h.c17
  rw [hs] at c9
  have hR : sabmeM m n = (false, { m with other := n }) := by unfold sabmeM; rw [if_neg hn, hs]; rfl
  rw [hR]
  have e1 : (n == m.other) = false := by rw [beq_eq_false_iff_ne]; exact hn
  have z17 := h.z 17
  obtain ⟨h1, f1⟩ := h.set1 17 (.int .i64 n) { m with other := n } rfl rfl
  have c9a := h1.c9
  rw [show ({ m with other := n } : TM).state = 0 from hs] at c9a
  have HT := Lib.hid (h1.toT f1)
  clear h h1 f1 hs hR hn
  go_enter Tryz.func105, Tryz.ntmps105
  go_wp2
  go_ret
  exact ⟨rfl, HT.out⟩
set_option maxHeartbeats 1000000 in
theorem sabme_a1 (w : World) (v : TV) (m : TM) (n : Int) (h : IsTie w v m) (hs : m.state = 1) (hn : n = m.other) (ho : 0 ≤ m.num ∧ m.num < 4294967296) (hl : m.send.length ≤ 100000) :
    Calls Tryz.prog 105 #[.pointer (some ⟨v.t, 0, none⟩), .int .i64 n] w fun e w' => e = .returned (.bool (sabmeM m n).1) ∧ TieTo w w' v (sabmeM m n).2 := by
  have c9 := h.c9
  have c17 := h.c17
  rw [hs] at c9
  have hR : sabmeM m n = (true, m) := by unfold sabmeM; rw [if_pos hn, hs]; rfl
  rw [hR]
  subst hn
  have e1 : (m.other == m.other) = true := by simp
  have H := Lib.hid h
  clear h hs hR
  go_enter Tryz.func105, Tryz.ntmps105
  go_wp2
  go_ret
  exact ⟨rfl, H.out.to (Fr.refl _ _)⟩
set_option maxHeartbeats 1000000 in
theorem sabme_b1 (w : World) (v : TV) (m : TM) (n : Int) (h : IsTie w v m) (hs : m.state = 1) (hn : n ≠ m.other) (ho : 0 ≤ m.num ∧ m.num < 4294967296) (hl : m.send.length ≤ 100000) :
    Calls Tryz.prog 105 #[.pointer (some ⟨v.t, 0, none⟩), .int .i64 n] w fun e w' => e = .returned (.bool (sabmeM m n).1) ∧ TieTo w w' v (sabmeM m n).2 := by
  have c9 := h.c9
  have c17 := h.c17
  rw [hs] at c9
  have hR : sabmeM m n = (true, { m with other := n }) := by unfold sabmeM; rw [if_neg hn, hs]; rfl
  rw [hR]
  have e1 : (n == m.other) = false := by rw [beq_eq_false_iff_ne]; exact hn
  have z17 := h.z 17
  obtain ⟨h1, f1⟩ := h.set1 17 (.int .i64 n) { m with other := n } rfl rfl
  have c9a := h1.c9
  rw [show ({ m with other := n } : TM).state = 1 from hs] at c9a
  have HT := Lib.hid (h1.toT f1)
  clear h h1 f1 hs hR hn
  go_enter Tryz.func105, Tryz.ntmps105
  go_wp2
  go_ret
  exact ⟨rfl, HT.out⟩
set_option maxHeartbeats 1000000 in
theorem sabme_a2 (w : World) (v : TV) (m : TM) (n : Int) (h : IsTie w v m) (hs : m.state = 2) (hn : n = m.other) (ho : 0 ≤ m.num ∧ m.num < 4294967296) (hl : m.send.length ≤ 100000) :
    Calls Tryz.prog 105 #[.pointer (some ⟨v.t, 0, none⟩), .int .i64 n] w fun e w' => e = .returned (.bool (sabmeM m n).1) ∧ TieTo w w' v (sabmeM m n).2 := by
  have c9 := h.c9
  have c17 := h.c17
  rw [hs] at c9
  have hR : sabmeM m n = (false, m) := by unfold sabmeM; rw [if_pos hn, hs]; rfl
  rw [hR]
  subst hn
  have e1 : (m.other == m.other) = true := by simp
  have H := Lib.hid h
  clear h hs hR
  go_enter Tryz.func105, Tryz.ntmps105
  go_wp2
  go_ret
  exact ⟨rfl, H.out.to (Fr.refl _ _)⟩
set_option maxHeartbeats 1000000 in
theorem sabme_b2 (w : World) (v : TV) (m : TM) (n : Int) (h : IsTie w v m) (hs : m.state = 2) (hn : n ≠ m.other) (ho : 0 ≤ m.num ∧ m.num < 4294967296) (hl : m.send.length ≤ 100000) :
    Calls Tryz.prog 105 #[.pointer (some ⟨v.t, 0, none⟩), .int .i64 n] w fun e w' => e = .returned (.bool (sabmeM m n).1) ∧ TieTo w w' v (sabmeM m n).2 := by
  have c9 := h.c9
  have c17 := h.c17
  rw [hs] at c9
  have hR : sabmeM m n = (false, { m with other := n }) := by unfold sabmeM; rw [if_neg hn, hs]; rfl
  rw [hR]
  have e1 : (n == m.other) = false := by rw [beq_eq_false_iff_ne]; exact hn
  have z17 := h.z 17
  obtain ⟨h1, f1⟩ := h.set1 17 (.int .i64 n) { m with other := n } rfl rfl
  have c9a := h1.c9
  rw [show ({ m with other := n } : TM).state = 2 from hs] at c9a
  have HT := Lib.hid (h1.toT f1)
  clear h h1 f1 hs hR hn
  go_enter Tryz.func105, Tryz.ntmps105
  go_wp2
  go_ret
  exact ⟨rfl, HT.out⟩
set_option maxHeartbeats 1000000 in
theorem sabme_a3 (w : World) (v : TV) (m : TM) (n : Int) (h : IsTie w v m) (hs : m.state = 3) (hn : n = m.other) (ho : 0 ≤ m.num ∧ m.num < 4294967296) (hl : m.send.length ≤ 100000) :
    Calls Tryz.prog 105 #[.pointer (some ⟨v.t, 0, none⟩), .int .i64 n] w fun e w' => e = .returned (.bool (sabmeM m n).1) ∧ TieTo w w' v (sabmeM m n).2 := by
  have c9 := h.c9
  have c17 := h.c17
  rw [hs] at c9
  have hR : sabmeM m n = (false, m) := by unfold sabmeM; rw [if_pos hn, hs]; rfl
  rw [hR]
  subst hn
  have e1 : (m.other == m.other) = true := by simp
  have H := Lib.hid h
  clear h hs hR
  go_enter Tryz.func105, Tryz.ntmps105
  go_wp2
  go_ret
  exact ⟨rfl, H.out.to (Fr.refl _ _)⟩
set_option maxHeartbeats 1000000 in
theorem sabme_b3 (w : World) (v : TV) (m : TM) (n : Int) (h : IsTie w v m) (hs : m.state = 3) (hn : n ≠ m.other) (ho : 0 ≤ m.num ∧ m.num < 4294967296) (hl : m.send.length ≤ 100000) :
    Calls Tryz.prog 105 #[.pointer (some ⟨v.t, 0, none⟩), .int .i64 n] w fun e w' => e = .returned (.bool (sabmeM m n).1) ∧ TieTo w w' v (sabmeM m n).2 := by
  have c9 := h.c9
  have c17 := h.c17
  rw [hs] at c9
  have hR : sabmeM m n = (false, { m with other := n }) := by unfold sabmeM; rw [if_neg hn, hs]; rfl
  rw [hR]
  have e1 : (n == m.other) = false := by rw [beq_eq_false_iff_ne]; exact hn
  have z17 := h.z 17
  obtain ⟨h1, f1⟩ := h.set1 17 (.int .i64 n) { m with other := n } rfl rfl
  have c9a := h1.c9
  rw [show ({ m with other := n } : TM).state = 3 from hs] at c9a
  have HT := Lib.hid (h1.toT f1)
  clear h h1 f1 hs hR hn
  go_enter Tryz.func105, Tryz.ntmps105
  go_wp2
  go_ret
  exact ⟨rfl, HT.out⟩
set_option maxHeartbeats 1000000 in
theorem sabme_a4 (w : World) (v : TV) (m : TM) (n : Int) (h : IsTie w v m) (hs : m.state = 4) (hn : n = m.other) (ho : 0 ≤ m.num ∧ m.num < 4294967296) (hl : m.send.length ≤ 100000) :
    Calls Tryz.prog 105 #[.pointer (some ⟨v.t, 0, none⟩), .int .i64 n] w fun e w' => e = .returned (.bool (sabmeM m n).1) ∧ TieTo w w' v (sabmeM m n).2 := by
  have c9 := h.c9
  have c17 := h.c17
  rw [hs] at c9
  have hR : sabmeM m n = (true, m) := by unfold sabmeM; rw [if_pos hn, hs]; rfl
  rw [hR]
  subst hn
  have e1 : (m.other == m.other) = true := by simp
  have H := Lib.hid h
  clear h hs hR
  go_enter Tryz.func105, Tryz.ntmps105
  go_wp2
  go_ret
  exact ⟨rfl, H.out.to (Fr.refl _ _)⟩
set_option maxHeartbeats 1000000 in
theorem sabme_b4 (w : World) (v : TV) (m : TM) (n : Int) (h : IsTie w v m) (hs : m.state = 4) (hn : n ≠ m.other) (ho : 0 ≤ m.num ∧ m.num < 4294967296) (hl : m.send.length ≤ 100000) :
    Calls Tryz.prog 105 #[.pointer (some ⟨v.t, 0, none⟩), .int .i64 n] w fun e w' => e = .returned (.bool (sabmeM m n).1) ∧ TieTo w w' v (sabmeM m n).2 := by
  have c9 := h.c9
  have c17 := h.c17
  rw [hs] at c9
  have hR : sabmeM m n = (true, { m with other := n }) := by unfold sabmeM; rw [if_neg hn, hs]; rfl
  rw [hR]
  have e1 : (n == m.other) = false := by rw [beq_eq_false_iff_ne]; exact hn
  have z17 := h.z 17
  obtain ⟨h1, f1⟩ := h.set1 17 (.int .i64 n) { m with other := n } rfl rfl
  have c9a := h1.c9
  rw [show ({ m with other := n } : TM).state = 4 from hs] at c9a
  have HT := Lib.hid (h1.toT f1)
  clear h h1 f1 hs hR hn
  go_enter Tryz.func105, Tryz.ntmps105
  go_wp2
  go_ret
  exact ⟨rfl, HT.out⟩
set_option maxHeartbeats 1000000 in
theorem sabme_a5 (w : World) (v : TV) (m : TM) (n : Int) (h : IsTie w v m) (hs : m.state = 5) (hn : n = m.other) (ho : 0 ≤ m.num ∧ m.num < 4294967296) (hl : m.send.length ≤ 100000) :
    Calls Tryz.prog 105 #[.pointer (some ⟨v.t, 0, none⟩), .int .i64 n] w fun e w' => e = .returned (.bool (sabmeM m n).1) ∧ TieTo w w' v (sabmeM m n).2 := by
  have c9 := h.c9
  have c17 := h.c17
  rw [hs] at c9
  have hR : sabmeM m n = (true, sendM m (rspD m 6)) := by unfold sabmeM; rw [if_pos hn, hs]; rfl
  rw [hR]
  subst hn
  have e1 : (m.other == m.other) = true := by simp
  have H := Lib.hid h
  clear h hs hR
  go_enter Tryz.func105, Tryz.ntmps105
  go_wp2_with fail
  refine (mk_resp w v m 6 H.out ho hl).mono ?_
  rintro e w1 ⟨b0, b1, rfl, f1, hc⟩
  have HC := Lib.hid hc
  clear hc f1 c9 c17
  go_wp2_with fail
  refine HC.out.mono ?_
  rintro e w2 ⟨rfl, ht⟩
  have HT := Lib.hid ht
  clear ht
  go_wp2
  go_ret
  exact ⟨rfl, HT.out⟩
set_option maxHeartbeats 1000000 in
theorem sabme_b5 (w : World) (v : TV) (m : TM) (n : Int) (h : IsTie w v m) (hs : m.state = 5) (hn : n ≠ m.other) (ho : 0 ≤ m.num ∧ m.num < 4294967296) (hl : m.send.length ≤ 100000) :
    Calls Tryz.prog 105 #[.pointer (some ⟨v.t, 0, none⟩), .int .i64 n] w fun e w' => e = .returned (.bool (sabmeM m n).1) ∧ TieTo w w' v (sabmeM m n).2 := by
  have c9 := h.c9
  have c17 := h.c17
  rw [hs] at c9
  have hR : sabmeM m n = (false, { m with other := n }) := by unfold sabmeM; rw [if_neg hn, hs]; rfl
  rw [hR]
  have e1 : (n == m.other) = false := by rw [beq_eq_false_iff_ne]; exact hn
  have z17 := h.z 17
  obtain ⟨h1, f1⟩ := h.set1 17 (.int .i64 n) { m with other := n } rfl rfl
  have c9a := h1.c9
  rw [show ({ m with other := n } : TM).state = 5 from hs] at c9a
  have HT := Lib.hid (h1.toT f1)
  clear h h1 f1 hs hR hn
  go_enter Tryz.func105, Tryz.ntmps105
  go_wp2
  go_ret
  exact ⟨rfl, HT.out⟩
set_option maxHeartbeats 1000000 in
theorem sabme_a6 (w : World) (v : TV) (m : TM) (n : Int) (h : IsTie w v m) (hs : m.state = 6) (hn : n = m.other) (ho : 0 ≤ m.num ∧ m.num < 4294967296) (hl : m.send.length ≤ 100000) :
    Calls Tryz.prog 105 #[.pointer (some ⟨v.t, 0, none⟩), .int .i64 n] w fun e w' => e = .returned (.bool (sabmeM m n).1) ∧ TieTo w w' v (sabmeM m n).2 := by
  have c9 := h.c9
  have c17 := h.c17
  rw [hs] at c9
  have hR : sabmeM m n = (true, sendM m (rspD m 6)) := by unfold sabmeM; rw [if_pos hn, hs]; rfl
  rw [hR]
  subst hn
  have e1 : (m.other == m.other) = true := by simp
  have H := Lib.hid h
  clear h hs hR
  go_enter Tryz.func105, Tryz.ntmps105
  go_wp2_with fail
  refine (mk_resp w v m 6 H.out ho hl).mono ?_
  rintro e w1 ⟨b0, b1, rfl, f1, hc⟩
  have HC := Lib.hid hc
  clear hc f1 c9 c17
  go_wp2_with fail
  refine HC.out.mono ?_
  rintro e w2 ⟨rfl, ht⟩
  have HT := Lib.hid ht
  clear ht
  go_wp2
  go_ret
  exact ⟨rfl, HT.out⟩
set_option maxHeartbeats 1000000 in
theorem sabme_b6 (w : World) (v : TV) (m : TM) (n : Int) (h : IsTie w v m) (hs : m.state = 6) (hn : n ≠ m.other) (ho : 0 ≤ m.num ∧ m.num < 4294967296) (hl : m.send.length ≤ 100000) :
    Calls Tryz.prog 105 #[.pointer (some ⟨v.t, 0, none⟩), .int .i64 n] w fun e w' => e = .returned (.bool (sabmeM m n).1) ∧ TieTo w w' v (sabmeM m n).2 := by
  have c9 := h.c9
  have c17 := h.c17
  rw [hs] at c9
  have hR : sabmeM m n = (false, { m with other := n }) := by unfold sabmeM; rw [if_neg hn, hs]; rfl
  rw [hR]
  have e1 : (n == m.other) = false := by rw [beq_eq_false_iff_ne]; exact hn
  have z17 := h.z 17
  obtain ⟨h1, f1⟩ := h.set1 17 (.int .i64 n) { m with other := n } rfl rfl
  have c9a := h1.c9
  rw [show ({ m with other := n } : TM).state = 6 from hs] at c9a
  have HT := Lib.hid (h1.toT f1)
  clear h h1 f1 hs hR hn
  go_enter Tryz.func105, Tryz.ntmps105
  go_wp2
  go_ret
  exact ⟨rfl, HT.out⟩
set_option maxHeartbeats 1000000 in
theorem sabme_a7 (w : World) (v : TV) (m : TM) (n : Int) (h : IsTie w v m) (hs : m.state = 7) (hn : n = m.other) (ho : 0 ≤ m.num ∧ m.num < 4294967296) (hl : m.send.length ≤ 100000) :
    Calls Tryz.prog 105 #[.pointer (some ⟨v.t, 0, none⟩), .int .i64 n] w fun e w' => e = .returned (.bool (sabmeM m n).1) ∧ TieTo w w' v (sabmeM m n).2 := by
  have c9 := h.c9
  have c17 := h.c17
  rw [hs] at c9
  have hR : sabmeM m n = (true, sendM m (rspD m 6)) := by unfold sabmeM; rw [if_pos hn, hs]; rfl
  rw [hR]
  subst hn
  have e1 : (m.other == m.other) = true := by simp
  have H := Lib.hid h
  clear h hs hR
  go_enter Tryz.func105, Tryz.ntmps105
  go_wp2_with fail
  refine (mk_resp w v m 6 H.out ho hl).mono ?_
  rintro e w1 ⟨b0, b1, rfl, f1, hc⟩
  have HC := Lib.hid hc
  clear hc f1 c9 c17
  go_wp2_with fail
  refine HC.out.mono ?_
  rintro e w2 ⟨rfl, ht⟩
  have HT := Lib.hid ht
  clear ht
  go_wp2
  go_ret
  exact ⟨rfl, HT.out⟩
set_option maxHeartbeats 1000000 in
theorem sabme_b7 (w : World) (v : TV) (m : TM) (n : Int) (h : IsTie w v m) (hs : m.state = 7) (hn : n ≠ m.other) (ho : 0 ≤ m.num ∧ m.num < 4294967296) (hl : m.send.length ≤ 100000) :
    Calls Tryz.prog 105 #[.pointer (some ⟨v.t, 0, none⟩), .int .i64 n] w fun e w' => e = .returned (.bool (sabmeM m n).1) ∧ TieTo w w' v (sabmeM m n).2 := by
  have c9 := h.c9
  have c17 := h.c17
  rw [hs] at c9
  have hR : sabmeM m n = (false, { m with other := n }) := by unfold sabmeM; rw [if_neg hn, hs]; rfl
  rw [hR]
  have e1 : (n == m.other) = false := by rw [beq_eq_false_iff_ne]; exact hn
  have z17 := h.z 17
  obtain ⟨h1, f1⟩ := h.set1 17 (.int .i64 n) { m with other := n } rfl rfl
  have c9a := h1.c9
  rw [show ({ m with other := n } : TM).state = 7 from hs] at c9a
  have HT := Lib.hid (h1.toT f1)
  clear h h1 f1 hs hR hn
  go_enter Tryz.func105, Tryz.ntmps105
  go_wp2
  go_ret
  exact ⟨rfl, HT.out⟩
set_option maxHeartbeats 1000000 in
theorem sabme_a8 (w : World) (v : TV) (m : TM) (n : Int) (h : IsTie w v m) (hs : m.state = 8) (hn : n = m.other) (ho : 0 ≤ m.num ∧ m.num < 4294967296) (hl : m.send.length ≤ 100000) :
    Calls Tryz.prog 105 #[.pointer (some ⟨v.t, 0, none⟩), .int .i64 n] w fun e w' => e = .returned (.bool (sabmeM m n).1) ∧ TieTo w w' v (sabmeM m n).2 := by
  have c9 := h.c9
  have c17 := h.c17
  rw [hs] at c9
  have hR : sabmeM m n = (true, sendM m (rspD m 5)) := by unfold sabmeM; rw [if_pos hn, hs]; rfl
  rw [hR]
  subst hn
  have e1 : (m.other == m.other) = true := by simp
  have H := Lib.hid h
  clear h hs hR
  go_enter Tryz.func105, Tryz.ntmps105
  go_wp2_with fail
  refine (mk_resp w v m 5 H.out ho hl).mono ?_
  rintro e w1 ⟨b0, b1, rfl, f1, hc⟩
  have HC := Lib.hid hc
  clear hc f1 c9 c17
  go_wp2_with fail
  refine HC.out.mono ?_
  rintro e w2 ⟨rfl, ht⟩
  have HT := Lib.hid ht
  clear ht
  go_wp2
  go_ret
  exact ⟨rfl, HT.out⟩
set_option maxHeartbeats 1000000 in
theorem sabme_b8 (w : World) (v : TV) (m : TM) (n : Int) (h : IsTie w v m) (hs : m.state = 8) (hn : n ≠ m.other) (ho : 0 ≤ m.num ∧ m.num < 4294967296) (hl : m.send.length ≤ 100000) :
    Calls Tryz.prog 105 #[.pointer (some ⟨v.t, 0, none⟩), .int .i64 n] w fun e w' => e = .returned (.bool (sabmeM m n).1) ∧ TieTo w w' v (sabmeM m n).2 := by
  have c9 := h.c9
  have c17 := h.c17
  rw [hs] at c9
  have hR : sabmeM m n = (false, { m with other := n }) := by unfold sabmeM; rw [if_neg hn, hs]; rfl
  rw [hR]
  have e1 : (n == m.other) = false := by rw [beq_eq_false_iff_ne]; exact hn
  have z17 := h.z 17
  obtain ⟨h1, f1⟩ := h.set1 17 (.int .i64 n) { m with other := n } rfl rfl
  have c9a := h1.c9
  rw [show ({ m with other := n } : TM).state = 8 from hs] at c9a
  have HT := Lib.hid (h1.toT f1)
  clear h h1 f1 hs hR hn
  go_enter Tryz.func105, Tryz.ntmps105
  go_wp2
  go_ret
  exact ⟨rfl, HT.out⟩
set_option maxHeartbeats 1000000 in
theorem sabme_a9 (w : World) (v : TV) (m : TM) (n : Int) (h : IsTie w v m) (hs : m.state = 9) (hn : n = m.other) (ho : 0 ≤ m.num ∧ m.num < 4294967296) (hl : m.send.length ≤ 100000) :
    Calls Tryz.prog 105 #[.pointer (some ⟨v.t, 0, none⟩), .int .i64 n] w fun e w' => e = .returned (.bool (sabmeM m n).1) ∧ TieTo w w' v (sabmeM m n).2 := by
  have c9 := h.c9
  have c17 := h.c17
  rw [hs] at c9
  have hR : sabmeM m n = (true, sendM m (rspD m 5)) := by unfold sabmeM; rw [if_pos hn, hs]; rfl
  rw [hR]
  subst hn
  have e1 : (m.other == m.other) = true := by simp
  have H := Lib.hid h
  clear h hs hR
  go_enter Tryz.func105, Tryz.ntmps105
  go_wp2_with fail
  refine (mk_resp w v m 5 H.out ho hl).mono ?_
  rintro e w1 ⟨b0, b1, rfl, f1, hc⟩
  have HC := Lib.hid hc
  clear hc f1 c9 c17
  go_wp2_with fail
  refine HC.out.mono ?_
  rintro e w2 ⟨rfl, ht⟩
  have HT := Lib.hid ht
  clear ht
  go_wp2
  go_ret
  exact ⟨rfl, HT.out⟩
set_option maxHeartbeats 1000000 in
theorem sabme_b9 (w : World) (v : TV) (m : TM) (n : Int) (h : IsTie w v m) (hs : m.state = 9) (hn : n ≠ m.other) (ho : 0 ≤ m.num ∧ m.num < 4294967296) (hl : m.send.length ≤ 100000) :
    Calls Tryz.prog 105 #[.pointer (some ⟨v.t, 0, none⟩), .int .i64 n] w fun e w' => e = .returned (.bool (sabmeM m n).1) ∧ TieTo w w' v (sabmeM m n).2 := by
  have c9 := h.c9
  have c17 := h.c17
  rw [hs] at c9
  have hR : sabmeM m n = (false, { m with other := n }) := by unfold sabmeM; rw [if_neg hn, hs]; rfl
  rw [hR]
  have e1 : (n == m.other) = false := by rw [beq_eq_false_iff_ne]; exact hn
  have z17 := h.z 17
  obtain ⟨h1, f1⟩ := h.set1 17 (.int .i64 n) { m with other := n } rfl rfl
  have c9a := h1.c9
  rw [show ({ m with other := n } : TM).state = 9 from hs] at c9a
  have HT := Lib.hid (h1.toT f1)
  clear h h1 f1 hs hR hn
  go_enter Tryz.func105, Tryz.ntmps105
  go_wp2
  go_ret
  exact ⟨rfl, HT.out⟩
set_option maxHeartbeats 1000000 in
theorem sabme_a10 (w : World) (v : TV) (m : TM) (n : Int) (h : IsTie w v m) (hs : m.state = 10) (hn : n = m.other) (ho : 0 ≤ m.num ∧ m.num < 4294967296) (hl : m.send.length ≤ 100000) :
    Calls Tryz.prog 105 #[.pointer (some ⟨v.t, 0, none⟩), .int .i64 n] w fun e w' => e = .returned (.bool (sabmeM m n).1) ∧ TieTo w w' v (sabmeM m n).2 := by
  have c9 := h.c9
  have c17 := h.c17
  rw [hs] at c9
  have hR : sabmeM m n = (true, sendM m (rspD m 5)) := by unfold sabmeM; rw [if_pos hn, hs]; rfl
  rw [hR]
  subst hn
  have e1 : (m.other == m.other) = true := by simp
  have H := Lib.hid h
  clear h hs hR
  go_enter Tryz.func105, Tryz.ntmps105
  go_wp2_with fail
  refine (mk_resp w v m 5 H.out ho hl).mono ?_
  rintro e w1 ⟨b0, b1, rfl, f1, hc⟩
  have HC := Lib.hid hc
  clear hc f1 c9 c17
  go_wp2_with fail
  refine HC.out.mono ?_
  rintro e w2 ⟨rfl, ht⟩
  have HT := Lib.hid ht
  clear ht
  go_wp2
  go_ret
  exact ⟨rfl, HT.out⟩
set_option maxHeartbeats 1000000 in
theorem sabme_b10 (w : World) (v : TV) (m : TM) (n : Int) (h : IsTie w v m) (hs : m.state = 10) (hn : n ≠ m.other) (ho : 0 ≤ m.num ∧ m.num < 4294967296) (hl : m.send.length ≤ 100000) :
    Calls Tryz.prog 105 #[.pointer (some ⟨v.t, 0, none⟩), .int .i64 n] w fun e w' => e = .returned (.bool (sabmeM m n).1) ∧ TieTo w w' v (sabmeM m n).2 := by
  have c9 := h.c9
  have c17 := h.c17
  rw [hs] at c9
  have hR : sabmeM m n = (false, { m with other := n }) := by unfold sabmeM; rw [if_neg hn, hs]; rfl
  rw [hR]
  have e1 : (n == m.other) = false := by rw [beq_eq_false_iff_ne]; exact hn
  have z17 := h.z 17
  obtain ⟨h1, f1⟩ := h.set1 17 (.int .i64 n) { m with other := n } rfl rfl
  have c9a := h1.c9
  rw [show ({ m with other := n } : TM).state = 10 from hs] at c9a
  have HT := Lib.hid (h1.toT f1)
  clear h h1 f1 hs hR hn
  go_enter Tryz.func105, Tryz.ntmps105
  go_wp2
  go_ret
  exact ⟨rfl, HT.out⟩
set_option maxHeartbeats 1000000 in
theorem sabme_a11 (w : World) (v : TV) (m : TM) (n : Int) (h : IsTie w v m) (hs : m.state = 11) (hn : n = m.other) (ho : 0 ≤ m.num ∧ m.num < 4294967296) (hl : m.send.length ≤ 100000) :
    Calls Tryz.prog 105 #[.pointer (some ⟨v.t, 0, none⟩), .int .i64 n] w fun e w' => e = .returned (.bool (sabmeM m n).1) ∧ TieTo w w' v (sabmeM m n).2 := by
  have c9 := h.c9
  have c17 := h.c17
  rw [hs] at c9
  have hR : sabmeM m n = (true, sendM m (rspD m 5)) := by unfold sabmeM; rw [if_pos hn, hs]; rfl
  rw [hR]
  subst hn
  have e1 : (m.other == m.other) = true := by simp
  have H := Lib.hid h
  clear h hs hR
  go_enter Tryz.func105, Tryz.ntmps105
  go_wp2_with fail
  refine (mk_resp w v m 5 H.out ho hl).mono ?_
  rintro e w1 ⟨b0, b1, rfl, f1, hc⟩
  have HC := Lib.hid hc
  clear hc f1 c9 c17
  go_wp2_with fail
  refine HC.out.mono ?_
  rintro e w2 ⟨rfl, ht⟩
  have HT := Lib.hid ht
  clear ht
  go_wp2
  go_ret
  exact ⟨rfl, HT.out⟩
set_option maxHeartbeats 1000000 in
theorem sabme_b11 (w : World) (v : TV) (m : TM) (n : Int) (h : IsTie w v m) (hs : m.state = 11) (hn : n ≠ m.other) (ho : 0 ≤ m.num ∧ m.num < 4294967296) (hl : m.send.length ≤ 100000) :
    Calls Tryz.prog 105 #[.pointer (some ⟨v.t, 0, none⟩), .int .i64 n] w fun e w' => e = .returned (.bool (sabmeM m n).1) ∧ TieTo w w' v (sabmeM m n).2 := by
  have c9 := h.c9
  have c17 := h.c17
  rw [hs] at c9
  have hR : sabmeM m n = (false, { m with other := n }) := by unfold sabmeM; rw [if_neg hn, hs]; rfl
  rw [hR]
  have e1 : (n == m.other) = false := by rw [beq_eq_false_iff_ne]; exact hn
  have z17 := h.z 17
  obtain ⟨h1, f1⟩ := h.set1 17 (.int .i64 n) { m with other := n } rfl rfl
  have c9a := h1.c9
  rw [show ({ m with other := n } : TM).state = 11 from hs] at c9a
  have HT := Lib.hid (h1.toT f1)
  clear h h1 f1 hs hR hn
  go_enter Tryz.func105, Tryz.ntmps105
  go_wp2
  go_ret
  exact ⟨rfl, HT.out⟩
set_option maxHeartbeats 1000000 in
theorem sabme_a12 (w : World) (v : TV) (m : TM) (n : Int) (h : IsTie w v m) (hs : m.state = 12) (hn : n = m.other) (ho : 0 ≤ m.num ∧ m.num < 4294967296) (hl : m.send.length ≤ 100000) :
    Calls Tryz.prog 105 #[.pointer (some ⟨v.t, 0, none⟩), .int .i64 n] w fun e w' => e = .returned (.bool (sabmeM m n).1) ∧ TieTo w w' v (sabmeM m n).2 := by
  have c9 := h.c9
  have c17 := h.c17
  rw [hs] at c9
  have hR : sabmeM m n = (true, sendM m (rspD m 5)) := by unfold sabmeM; rw [if_pos hn, hs]; rfl
  rw [hR]
  subst hn
  have e1 : (m.other == m.other) = true := by simp
  have H := Lib.hid h
  clear h hs hR
  go_enter Tryz.func105, Tryz.ntmps105
  go_wp2_with fail
  refine (mk_resp w v m 5 H.out ho hl).mono ?_
  rintro e w1 ⟨b0, b1, rfl, f1, hc⟩
  have HC := Lib.hid hc
  clear hc f1 c9 c17
  go_wp2_with fail
  refine HC.out.mono ?_
  rintro e w2 ⟨rfl, ht⟩
  have HT := Lib.hid ht
  clear ht
  go_wp2
  go_ret
  exact ⟨rfl, HT.out⟩
set_option maxHeartbeats 1000000 in
theorem sabme_b12 (w : World) (v : TV) (m : TM) (n : Int) (h : IsTie w v m) (hs : m.state = 12) (hn : n ≠ m.other) (ho : 0 ≤ m.num ∧ m.num < 4294967296) (hl : m.send.length ≤ 100000) :
    Calls Tryz.prog 105 #[.pointer (some ⟨v.t, 0, none⟩), .int .i64 n] w fun e w' => e = .returned (.bool (sabmeM m n).1) ∧ TieTo w w' v (sabmeM m n).2 := by
  have c9 := h.c9
  have c17 := h.c17
  rw [hs] at c9
  have hR : sabmeM m n = (false, { m with other := n }) := by unfold sabmeM; rw [if_neg hn, hs]; rfl
  rw [hR]
  have e1 : (n == m.other) = false := by rw [beq_eq_false_iff_ne]; exact hn
  have z17 := h.z 17
  obtain ⟨h1, f1⟩ := h.set1 17 (.int .i64 n) { m with other := n } rfl rfl
  have c9a := h1.c9
  rw [show ({ m with other := n } : TM).state = 12 from hs] at c9a
  have HT := Lib.hid (h1.toT f1)
  clear h h1 f1 hs hR hn
  go_enter Tryz.func105, Tryz.ntmps105
  go_wp2
  go_ret
  exact ⟨rfl, HT.out⟩
set_option maxHeartbeats 1000000 in
theorem sabme_a13 (w : World) (v : TV) (m : TM) (n : Int) (h : IsTie w v m) (hs : m.state = 13) (hn : n = m.other) (ho : 0 ≤ m.num ∧ m.num < 4294967296) (hl : m.send.length ≤ 100000) :
    Calls Tryz.prog 105 #[.pointer (some ⟨v.t, 0, none⟩), .int .i64 n] w fun e w' => e = .returned (.bool (sabmeM m n).1) ∧ TieTo w w' v (sabmeM m n).2 := by
  have c9 := h.c9
  have c17 := h.c17
  rw [hs] at c9
  have hR : sabmeM m n = (true, sendM m (rspD m 5)) := by unfold sabmeM; rw [if_pos hn, hs]; rfl
  rw [hR]
  subst hn
  have e1 : (m.other == m.other) = true := by simp
  have H := Lib.hid h
  clear h hs hR
  go_enter Tryz.func105, Tryz.ntmps105
  go_wp2_with fail
  refine (mk_resp w v m 5 H.out ho hl).mono ?_
  rintro e w1 ⟨b0, b1, rfl, f1, hc⟩
  have HC := Lib.hid hc
  clear hc f1 c9 c17
  go_wp2_with fail
  refine HC.out.mono ?_
  rintro e w2 ⟨rfl, ht⟩
  have HT := Lib.hid ht
  clear ht
  go_wp2
  go_ret
  exact ⟨rfl, HT.out⟩
set_option maxHeartbeats 1000000 in
theorem sabme_b13 (w : World) (v : TV) (m : TM) (n : Int) (h : IsTie w v m) (hs : m.state = 13) (hn : n ≠ m.other) (ho : 0 ≤ m.num ∧ m.num < 4294967296) (hl : m.send.length ≤ 100000) :
    Calls Tryz.prog 105 #[.pointer (some ⟨v.t, 0, none⟩), .int .i64 n] w fun e w' => e = .returned (.bool (sabmeM m n).1) ∧ TieTo w w' v (sabmeM m n).2 := by
  have c9 := h.c9
  have c17 := h.c17
  rw [hs] at c9
  have hR : sabmeM m n = (false, { m with other := n }) := by unfold sabmeM; rw [if_neg hn, hs]; rfl
  rw [hR]
  have e1 : (n == m.other) = false := by rw [beq_eq_false_iff_ne]; exact hn
  have z17 := h.z 17
  obtain ⟨h1, f1⟩ := h.set1 17 (.int .i64 n) { m with other := n } rfl rfl
  have c9a := h1.c9
  rw [show ({ m with other := n } : TM).state = 13 from hs] at c9a
  have HT := Lib.hid (h1.toT f1)
  clear h h1 f1 hs hR hn
  go_enter Tryz.func105, Tryz.ntmps105
  go_wp2
  go_ret
  exact ⟨rfl, HT.out⟩

theorem tie_sabme (w : World) (v : TV) (m : TM) (n : Int) (h : IsTie w v m) (hs : 0 ≤ m.state ∧ m.state < 14) (ho : 0 ≤ m.num ∧ m.num < 4294967296) (hl : m.send.length ≤ 100000) :
    Calls Tryz.prog 105 #[.pointer (some ⟨v.t, 0, none⟩), .int .i64 n] w fun e w' => e = .returned (.bool (sabmeM m n).1) ∧ TieTo w w' v (sabmeM m n).2 := by
  have hc : m.state = 0 ∨ m.state = 1 ∨ m.state = 2 ∨ m.state = 3 ∨ m.state = 4 ∨ m.state = 5 ∨ m.state = 6 ∨ m.state = 7 ∨ m.state = 8 ∨ m.state = 9 ∨ m.state = 10 ∨ m.state = 11 ∨ m.state = 12 ∨ m.state = 13 := by omega
  by_cases hn : n = m.other
  · rcases hc with hc | hc | hc | hc | hc | hc | hc | hc | hc | hc | hc | hc | hc | hc
    · exact sabme_a0 w v m n h hc hn ho hl
    · exact sabme_a1 w v m n h hc hn ho hl
    · exact sabme_a2 w v m n h hc hn ho hl
    · exact sabme_a3 w v m n h hc hn ho hl
    · exact sabme_a4 w v m n h hc hn ho hl
    · exact sabme_a5 w v m n h hc hn ho hl
    · exact sabme_a6 w v m n h hc hn ho hl
    · exact sabme_a7 w v m n h hc hn ho hl
    · exact sabme_a8 w v m n h hc hn ho hl
    · exact sabme_a9 w v m n h hc hn ho hl
    · exact sabme_a10 w v m n h hc hn ho hl
    · exact sabme_a11 w v m n h hc hn ho hl
    · exact sabme_a12 w v m n h hc hn ho hl
    · exact sabme_a13 w v m n h hc hn ho hl
  · rcases hc with hc | hc | hc | hc | hc | hc | hc | hc | hc | hc | hc | hc | hc | hc
    · exact sabme_b0 w v m n h hc hn ho hl
    · exact sabme_b1 w v m n h hc hn ho hl
    · exact sabme_b2 w v m n h hc hn ho hl
    · exact sabme_b3 w v m n h hc hn ho hl
    · exact sabme_b4 w v m n h hc hn ho hl
    · exact sabme_b5 w v m n h hc hn ho hl
    · exact sabme_b6 w v m n h hc hn ho hl
    · exact sabme_b7 w v m n h hc hn ho hl
    · exact sabme_b8 w v m n h hc hn ho hl
    · exact sabme_b9 w v m n h hc hn ho hl
    · exact sabme_b10 w v m n h hc hn ho hl
    · exact sabme_b11 w v m n h hc hn ho hl
    · exact sabme_b12 w v m n h hc hn ho hl
    · exact sabme_b13 w v m n h hc hn ho hl

set_option maxHeartbeats 1000000 in
theorem numbered_none (w : World) (v : TV) (m : TM) (e n : Int) (h : IsTie w v m) (h8 : e ≠ 8) (h10 : e ≠ 10) (h11 : e ≠ 11) :
    Calls Tryz.prog 64 #[.pointer (some ⟨v.t, 0, none⟩), .int .i64 e, .int .i64 n] w fun r w' => r = .returned (.bool (false)) ∧ w = w' := by
  have c9 := h.c9
  have c16 := h.c16
  have e8 : (e == 8) = false := by rw [beq_eq_false_iff_ne]; exact h8
  have e10 : (e == 10) = false := by rw [beq_eq_false_iff_ne]; exact h10
  have e11 : (e == 11) = false := by rw [beq_eq_false_iff_ne]; exact h11
  clear h h8 h10 h11
  go_enter Tryz.func64, Tryz.ntmps64
  go_wp2
  go_ret
  exact ⟨rfl, rfl⟩

set_option maxHeartbeats 1000000 in
theorem numbered_ua_true (w : World) (v : TV) (m : TM) (e n : Int) (h : IsTie w v m) (h10 : e = 10) (hn : n ≠ m.own) :
    Calls Tryz.prog 64 #[.pointer (some ⟨v.t, 0, none⟩), .int .i64 e, .int .i64 n] w fun r w' => r = .returned (.bool (true)) ∧ w = w' := by
  have c9 := h.c9
  have c16 := h.c16
  subst h10
  have e2 : (n != m.own) = true := bne_iff_ne.2 hn
  clear h hn
  go_enter Tryz.func64, Tryz.ntmps64
  go_wp2
  go_ret
  exact ⟨rfl, rfl⟩

set_option maxHeartbeats 1000000 in
theorem numbered_dm_2_true (w : World) (v : TV) (m : TM) (e n : Int) (h : IsTie w v m) (h11 : e = 11) (hs : m.state = 2) (hn : n ≠ m.own) :
    Calls Tryz.prog 64 #[.pointer (some ⟨v.t, 0, none⟩), .int .i64 e, .int .i64 n] w fun r w' => r = .returned (.bool (true)) ∧ w = w' := by
  have c9 := h.c9
  have c16 := h.c16
  subst h11
  rw [hs] at c9
  have e2 : (n != m.own) = true := bne_iff_ne.2 hn
  clear h hn hs
  go_enter Tryz.func64, Tryz.ntmps64
  go_wp2
  go_ret
  exact ⟨rfl, rfl⟩

set_option maxHeartbeats 1000000 in
theorem numbered_dm_3_true (w : World) (v : TV) (m : TM) (e n : Int) (h : IsTie w v m) (h11 : e = 11) (hs : m.state = 3) (hn : n ≠ m.own) :
    Calls Tryz.prog 64 #[.pointer (some ⟨v.t, 0, none⟩), .int .i64 e, .int .i64 n] w fun r w' => r = .returned (.bool (true)) ∧ w = w' := by
  have c9 := h.c9
  have c16 := h.c16
  subst h11
  rw [hs] at c9
  have e2 : (n != m.own) = true := bne_iff_ne.2 hn
  clear h hn hs
  go_enter Tryz.func64, Tryz.ntmps64
  go_wp2
  go_ret
  exact ⟨rfl, rfl⟩

set_option maxHeartbeats 1000000 in
theorem numbered_dm_6_true (w : World) (v : TV) (m : TM) (e n : Int) (h : IsTie w v m) (h11 : e = 11) (hs : m.state = 6) (hn : n ≠ m.own) :
    Calls Tryz.prog 64 #[.pointer (some ⟨v.t, 0, none⟩), .int .i64 e, .int .i64 n] w fun r w' => r = .returned (.bool (true)) ∧ w = w' := by
  have c9 := h.c9
  have c16 := h.c16
  subst h11
  rw [hs] at c9
  have e2 : (n != m.own) = true := bne_iff_ne.2 hn
  clear h hn hs
  go_enter Tryz.func64, Tryz.ntmps64
  go_wp2
  go_ret
  exact ⟨rfl, rfl⟩

set_option maxHeartbeats 1000000 in
theorem numbered_ua_false (w : World) (v : TV) (m : TM) (e n : Int) (h : IsTie w v m) (h10 : e = 10) (hn : n = m.own) :
    Calls Tryz.prog 64 #[.pointer (some ⟨v.t, 0, none⟩), .int .i64 e, .int .i64 n] w fun r w' => r = .returned (.bool (false)) ∧ w = w' := by
  have c9 := h.c9
  have c16 := h.c16
  subst h10
  subst hn
  have e2 : (m.own != m.own) = false := by simp
  clear h
  go_enter Tryz.func64, Tryz.ntmps64
  go_wp2
  go_ret
  exact ⟨rfl, rfl⟩

set_option maxHeartbeats 1000000 in
theorem numbered_dm_2_false (w : World) (v : TV) (m : TM) (e n : Int) (h : IsTie w v m) (h11 : e = 11) (hs : m.state = 2) (hn : n = m.own) :
    Calls Tryz.prog 64 #[.pointer (some ⟨v.t, 0, none⟩), .int .i64 e, .int .i64 n] w fun r w' => r = .returned (.bool (false)) ∧ w = w' := by
  have c9 := h.c9
  have c16 := h.c16
  subst h11
  rw [hs] at c9
  subst hn
  have e2 : (m.own != m.own) = false := by simp
  clear h hs
  go_enter Tryz.func64, Tryz.ntmps64
  go_wp2
  go_ret
  exact ⟨rfl, rfl⟩

set_option maxHeartbeats 1000000 in
theorem numbered_dm_3_false (w : World) (v : TV) (m : TM) (e n : Int) (h : IsTie w v m) (h11 : e = 11) (hs : m.state = 3) (hn : n = m.own) :
    Calls Tryz.prog 64 #[.pointer (some ⟨v.t, 0, none⟩), .int .i64 e, .int .i64 n] w fun r w' => r = .returned (.bool (false)) ∧ w = w' := by
  have c9 := h.c9
  have c16 := h.c16
  subst h11
  rw [hs] at c9
  subst hn
  have e2 : (m.own != m.own) = false := by simp
  clear h hs
  go_enter Tryz.func64, Tryz.ntmps64
  go_wp2
  go_ret
  exact ⟨rfl, rfl⟩

set_option maxHeartbeats 1000000 in
theorem numbered_dm_6_false (w : World) (v : TV) (m : TM) (e n : Int) (h : IsTie w v m) (h11 : e = 11) (hs : m.state = 6) (hn : n = m.own) :
    Calls Tryz.prog 64 #[.pointer (some ⟨v.t, 0, none⟩), .int .i64 e, .int .i64 n] w fun r w' => r = .returned (.bool (false)) ∧ w = w' := by
  have c9 := h.c9
  have c16 := h.c16
  subst h11
  rw [hs] at c9
  subst hn
  have e2 : (m.own != m.own) = false := by simp
  clear h hs
  go_enter Tryz.func64, Tryz.ntmps64
  go_wp2
  go_ret
  exact ⟨rfl, rfl⟩

set_option maxHeartbeats 1000000 in
theorem numbered_dm_no (w : World) (v : TV) (m : TM) (e n : Int) (h : IsTie w v m) (h11 : e = 11) (h2 : m.state ≠ 2) (h3 : m.state ≠ 3) (h6 : m.state ≠ 6) :
    Calls Tryz.prog 64 #[.pointer (some ⟨v.t, 0, none⟩), .int .i64 e, .int .i64 n] w fun r w' => r = .returned (.bool (false)) ∧ w = w' := by
  have c9 := h.c9
  have c16 := h.c16
  subst h11
  have s2 : (m.state == 2) = false := by rw [beq_eq_false_iff_ne]; exact h2
  have s3 : (m.state == 3) = false := by rw [beq_eq_false_iff_ne]; exact h3
  have s6 : (m.state == 6) = false := by rw [beq_eq_false_iff_ne]; exact h6
  clear h h2 h3 h6
  go_enter Tryz.func64, Tryz.ntmps64
  go_wp2
  go_ret
  exact ⟨rfl, rfl⟩

theorem tie_numbered (w : World) (v : TV) (m : TM) (e n : Int) (h : IsTie w v m) (hs : 0 ≤ m.state ∧ m.state < 14) (ho : 0 ≤ m.num ∧ m.num < 4294967296) (hl : m.send.length ≤ 100000) :
    Calls Tryz.prog 64 #[.pointer (some ⟨v.t, 0, none⟩), .int .i64 e, .int .i64 n] w fun r w' => r = .returned (.bool (numberedM m e n).1) ∧ TieTo w w' v (numberedM m e n).2 := by
  have nop : ∀ {b : Bool} {r : Ending} {w' : World}, (r = .returned (.bool b) ∧ w = w') → r = .returned (.bool b) ∧ TieTo w w' v m := fun hh => ⟨hh.1, hh.2 ▸ h.to (Fr.refl _ _)⟩
  unfold numberedM
  by_cases h8 : e = 8
  · rw [if_pos h8]
    subst h8
    have HS := tie_sabme w v m n h hs ho hl
    obtain ⟨R, hR⟩ : ∃ R, sabmeM m n = R := ⟨_, rfl⟩
    rw [hR] at HS ⊢
    have HS := Lib.hid HS
    clear hR h nop
    go_enter Tryz.func64, Tryz.ntmps64
    go_wp2_with fail
    refine HS.out.mono ?_
    rintro e w1 ⟨rfl, ht⟩
    have HT := Lib.hid ht
    clear ht
    go_wp2
    go_ret
    exact ⟨rfl, HT.out⟩
  · rw [if_neg h8]
    by_cases h10 : e = 10
    · rw [if_pos h10]
      by_cases hn : n = m.own
      · rw [decide_eq_false (fun hh => hh hn)]; exact (numbered_ua_false w v m e n h h10 hn).mono fun _ _ => nop
      · rw [decide_eq_true hn]; exact (numbered_ua_true w v m e n h h10 hn).mono fun _ _ => nop
    · rw [if_neg h10]
      by_cases h11 : e = 11
      · rw [if_pos h11]
        by_cases hn : n = m.own
        · rw [decide_eq_false (fun hh => hh.2 hn)]
          by_cases h2 : m.state = 2
          · exact (numbered_dm_2_false w v m e n h h11 h2 hn).mono fun _ _ => nop
          · by_cases h3 : m.state = 3
            · exact (numbered_dm_3_false w v m e n h h11 h3 hn).mono fun _ _ => nop
            · by_cases h6 : m.state = 6
              · exact (numbered_dm_6_false w v m e n h h11 h6 hn).mono fun _ _ => nop
              · exact (numbered_dm_no w v m e n h h11 h2 h3 h6).mono fun _ _ => nop
        · by_cases h2 : m.state = 2
          · rw [decide_eq_true ⟨.inl h2, hn⟩]; exact (numbered_dm_2_true w v m e n h h11 h2 hn).mono fun _ _ => nop
          · by_cases h3 : m.state = 3
            · rw [decide_eq_true ⟨.inr (.inl h3), hn⟩]; exact (numbered_dm_3_true w v m e n h h11 h3 hn).mono fun _ _ => nop
            · by_cases h6 : m.state = 6
              · rw [decide_eq_true ⟨.inr (.inr h6), hn⟩]; exact (numbered_dm_6_true w v m e n h h11 h6 hn).mono fun _ _ => nop
              · rw [decide_eq_false (fun hh => hh.1.elim h2 (fun x => x.elim h3 h6))]; exact (numbered_dm_no w v m e n h h11 h2 h3 h6).mono fun _ _ => nop
      · rw [if_neg h11]; exact (numbered_none w v m e n h h8 h10 h11).mono fun _ _ => nop
end Go.Proofs.YtneggoonlmmjeaaGreat
namespace Go.Proofs.YtneggoonlmmjeaaGreat
open Go.RowKit Go.Shelf
set_option linter.unusedVariables false
set_option linter.unusedSimpArgs false
set_option maxRecDepth 100000

/-- What a PDU is to it, and what number it bears. -/
def hearE (m : TM) (d : PD) : Int := evtM d m.state m.vr m.va m.vs
def hearN (m : TM) (d : PD) : Int := if hearE m d = 8 ∨ hearE m d = 9 ∨ hearE m d = 10 ∨ hearE m d = 11 then numG d.info else 0
def hearB (m : TM) (d : PD) : TM := beginM m (some d) d.po (if hearE m d = 8 ∨ hearE m d = 9 then hearN m d else 0)
def hearR (m : TM) (d : PD) : Bool × TM := numberedM (hearB m d) (hearE m d) (hearN m d)
def hearM (m : TM) (d : PD) : TM := if (hearR m d).1 = true then (hearR m d).2 else evM (rowsM m.state.toNat (hearE m d).toNat) (hearR m d).2
/-- It is for it. -/
def hearOk (m : TM) (d : PD) : Prop := typM d = 2 ∧ d.fr = m.there ∧ d.to = m.near
theorem evtM_u {d : PD} (h : typM d = 2) (h2 : d.fm = 2) (st vr va vs : Int) : evtM d st vr va vs = d.kd + 5 ∧ 3 ≤ d.kd ∧ d.kd ≤ 7 := by
  have hf := may_f (typM_may h)
  obtain ⟨k, hk⟩ : ∃ k : Nat, d.kd = k := ⟨d.kd.toNat, by have := hf.k2 h2; omega⟩
  have h3 := h
  unfold typM at h3
  rw [if_neg (by rw [typM_may h]; decide), if_pos h2, hk, Int.toNat_natCast] at h3
  unfold evtM
  rw [if_neg (fun hh => hh h), if_pos h2, hk, Int.toNat_natCast]
  have hc : k = 0 ∨ k = 1 ∨ k = 2 ∨ k = 3 ∨ k = 4 ∨ k = 5 ∨ k = 6 ∨ k = 7 ∨ k = 8 ∨ k = 9 := by have := hf.k2 h2; omega
  rcases hc with rfl | rfl | rfl | rfl | rfl | rfl | rfl | rfl | rfl | rfl
  all_goals first | (exfalso; simp [typesL] at h3; done) | (refine ⟨rfl, ?_, ?_⟩ <;> decide)
theorem firstM_range {d : PD} (h : MayF d) (vr : Int) (h2 : d.fm ≠ 2) : firstM d vr = 13 ∨ firstM d vr = 16 ∨ firstM d vr = 19 ∨ firstM d vr = 22 ∨ firstM d vr = 25 := by
  unfold firstM
  split
  · rename_i h1
    have := h.k1 h1
    obtain ⟨k, hkd⟩ : ∃ k : Nat, d.kd = k := ⟨d.kd.toNat, by omega⟩
    rw [hkd]
    obtain rfl | rfl | rfl : k = 0 ∨ k = 1 ∨ k = 2 := by omega
    all_goals simp [firstL]
  · split <;> simp
theorem evtM_range {d : PD} (h : typM d = 2) (st vr va vs : Int) : 8 ≤ evtM d st vr va vs ∧ evtM d st vr va vs ≤ 28 := by
  by_cases h2 : d.fm = 2
  · have := evtM_u h h2 st vr va vs; omega
  · have hr := firstM_range (may_f (typM_may h)) vr h2
    unfold evtM
    rw [if_neg (fun hh => hh h), if_neg h2]
    split
    · split <;> omega
    · split
      · omega
      · split
        · omega
        · split <;> omega
/-- A number is read of four bytes. -/
theorem evtM_four {d : PD} (h : typM d = 2) {st vr va vs : Int} (he : 8 ≤ evtM d st vr va vs ∧ evtM d st vr va vs ≤ 11) : d.info.length = 4 := by
  by_cases h2 : d.fm = 2
  · have := evtM_u h h2 st vr va vs
    exact (may_f (typM_may h)).n4 h2 (by omega) (by omega)
  · exfalso
    have hr := firstM_range (may_f (typM_may h)) vr h2
    unfold evtM at he
    rw [if_neg (fun hh => hh h), if_neg h2] at he
    revert he
    split
    · split <;> omega
    · split
      · omega
      · split
        · omega
        · split <;> omega
theorem hearN_ok {m : TM} {d : PD} (h : typM d = 2) (hb : ∀ x ∈ d.info, 0 ≤ x ∧ x ≤ 255) : 0 ≤ hearN m d ∧ hearN m d < 4294967296 := by
  unfold hearN
  split
  · rename_i hc
    exact numG_lt _ (evtM_four h (st := m.state) (vr := m.vr) (va := m.va) (vs := m.vs) (by unfold hearE at hc; omega)) hb
  · omega
theorem Inv.hearB {j k : Nat} {m : TM} {d : PD} (hi : Inv j k m) (h : typM d = 2) (hb : ∀ x ∈ d.info, 0 ≤ x ∧ x ≤ 255) : Inv j 0 (hearB m d) := by
  refine hi.beginM (fun d' e => ?_) ?_
  · cases e
    have := (may_f (typM_may h)).len
    omega
  · split
    · exact hearN_ok h hb
    · omega
theorem Inv.numberedM {j k : Nat} {m : TM} {e n : Int} (hi : Inv j k m) (hn : 0 ≤ n ∧ n < 4294967296) : Inv (j + 1) (k + 1) (numberedM m e n).2 := by
  unfold Go.Proofs.YtneggoonlmmjeaaGreat.numberedM
  split
  · unfold sabmeM
    split
    · split
      · exact hi.one
      · split
        · exact hi.one
        · split
          · exact hi.sendM _
          · exact hi.sendM _
    · exact { hi.one with other := hn }
  · split
    · exact hi.one
    · split <;> exact hi.one
theorem numberedM_p (m : TM) (e n : Int) : (numberedM m e n).2.p = m.p := by
  unfold numberedM
  split
  · unfold sabmeM
    split
    · split
      · rfl
      · split
        · rfl
        · split <;> rfl
    · rfl
  · split
    · rfl
    · split <;> rfl
theorem numberedM_state (m : TM) (e n : Int) : (numberedM m e n).2.state = m.state := by
  unfold numberedM
  split
  · unfold sabmeM
    split
    · split
      · rfl
      · split
        · rfl
        · split <;> rfl
    · rfl
  · split
    · rfl
    · split <;> rfl
theorem Inv.hearM {j k : Nat} {m : TM} {d : PD} (hi : Inv j k m) (h : typM d = 2) (hb : ∀ x ∈ d.info, 0 ≤ x ∧ x ≤ 255) (hf : rowFr m.state.toNat (hearE m d).toNat = false) : Inv (j + 11) 11 (hearM m d) := by
  have h1 := (hi.hearB h hb).numberedM (e := hearE m d) (hearN_ok (m := m) h hb)
  have hr := evtM_range h m.state m.vr m.va m.vs
  unfold Go.Proofs.YtneggoonlmmjeaaGreat.hearM
  split
  · exact h1.mono (by omega) (by omega)
  · exact (h1.evM (RowOk.of (by have := hi.st; omega) (by unfold hearE; omega) hf)).mono (by omega) (by omega)

set_option maxHeartbeats 2000000 in
theorem hear_no0 (w : World) (v : TV) (m : TM) (d : PD) (s : Sl) (y : Value) (h : IsTie w v m) (hn : s.n = d.info.length) (ht : typM d ≠ 2) :
    Calls Tryz.prog 22 #[.pointer (some ⟨v.t, 0, none⟩), d.val s, y] w fun e w' => e = .returned (.agg #[.slice none 0 0, .slice none 0 0, .slice none 0 0, .bool false]) ∧ Fr [] w w' := by
  obtain ⟨X, hX⟩ : ∃ X, typM d = X := ⟨_, rfl⟩
  rw [hX] at ht
  have e2 : (X != 2) = true := bne_iff_ne.2 ht
  have hty : ∀ wx, Calls Tryz.prog 58 #[d.val s] wx fun e w' => e = .returned (.int .i64 X) ∧ Fr [] wx w' := fun wx => by have := tell_Type d s wx hn; rw [hX] at this; exact this
  clear ht hX
  obtain ⟨w1, hw1⟩ : ∃ w1, (w.alloc (.cells (d.arr s) 52)).alloc (.cells #[.slice none 0 0, .slice none 0 0, .slice none 0 0, .bool false] 36) = w1 := ⟨_, rfl⟩
  obtain ⟨P, hP⟩ : ∃ P, w.heap.size = P := ⟨_, rfl⟩
  have hbp : Blk w1 P (d.arr s) 52 := by rw [← hw1, ← hP]; exact (Blk.new w _ _).alloc _
  have hbz : Blk w1 (P + 1) #[.slice none 0 0, .slice none 0 0, .slice none 0 0, .bool false] 36 := by
    have := Blk.new (w.alloc (.cells (d.arr s) 52)) #[.slice none 0 0, .slice none 0 0, .slice none 0 0, .bool false] 36
    rw [World.size_alloc, hw1, hP] at this
    exact this
  have f0 : Fr [] w w1 := by rw [← hw1]; exact ((Fr.refl [] w).alloc _).alloc _
  have h0 := h.fr0 f0
  have hlt : ∀ x ∈ v.foot, x < P := by rw [← hP]; exact h.lt
  have hile : v.hi ≤ P := by rw [← hP]; exact h.hile
  have HPZ := Lib.hid hP
  have k0 : ∀ wx, Fr [] w1 wx → wx.cell? ⟨P, 0, none⟩ = some (.int .i64 d.to) := fun wx hf => hf.cell (hbp.cell 0 rfl) (by simp)
  have k1 : ∀ wx, Fr [] w1 wx → wx.cell? ⟨P, 1, none⟩ = some (.int .i64 d.fr) := fun wx hf => hf.cell (hbp.cell 1 rfl) (by simp)
  have k2 : ∀ wx, Fr [] w1 wx → wx.cell? ⟨P, 2, none⟩ = some (.bool d.rs) := fun wx hf => hf.cell (hbp.cell 2 rfl) (by simp)
  have k3 : ∀ wx, Fr [] w1 wx → wx.cell? ⟨P, 3, none⟩ = some (.int .i64 d.fm) := fun wx hf => hf.cell (hbp.cell 3 rfl) (by simp)
  have k4 : ∀ wx, Fr [] w1 wx → wx.cell? ⟨P, 4, none⟩ = some (.int .i64 d.kd) := fun wx hf => hf.cell (hbp.cell 4 rfl) (by simp)
  have k5 : ∀ wx, Fr [] w1 wx → wx.cell? ⟨P, 5, none⟩ = some (.int .i64 d.ns) := fun wx hf => hf.cell (hbp.cell 5 rfl) (by simp)
  have k6 : ∀ wx, Fr [] w1 wx → wx.cell? ⟨P, 6, none⟩ = some (.int .i64 d.nr) := fun wx hf => hf.cell (hbp.cell 6 rfl) (by simp)
  have k7 : ∀ wx, Fr [] w1 wx → wx.cell? ⟨P, 7, none⟩ = some (.bool d.po) := fun wx hf => hf.cell (hbp.cell 7 rfl) (by simp)
  have k8 : ∀ wx, Fr [] w1 wx → wx.cell? ⟨P, 8, none⟩ = some (.slice s.A s.n s.c) := fun wx hf => hf.cell (hbp.cell 8 rfl) (by simp)
  have q6 : ∀ wx, Fr [] w1 wx → wx.cell? ⟨v.t, 6, none⟩ = some (.int .i64 m.near) := fun wx hf => hf.cell h0.c6 (by simp)
  have q7 : ∀ wx, Fr [] w1 wx → wx.cell? ⟨v.t, 7, none⟩ = some (.int .i64 m.there) := fun wx hf => hf.cell h0.c7 (by simp)
  have H := Lib.hid h0
  have HBZ := Lib.hid (And.intro hbz f0)
  have HS := Lib.hid hn
  clear h f0 h0 hlt hile hbp hbz hn
  have HTY := Lib.hid hty
  clear hty
  go_enter Tryz.func22, Tryz.ntmps22
  go_wp2_with fail
  clear hw1 hP
  refine wp_region_keepsC [] [false, false, false, false, false, false, false, false, false, false, false, false, false, false, false, false, false, false, false, false, false, false, false, false, false, false] [none, none, none, none, none, none, none, none, none, none, none, none, none, none, none, none, none, none, none, none, none, none, none, none, none, none] (fun _ => True) [Is (.pointer (some ⟨v.t, 0, none⟩)), Is (.bool true), Is (.bool false), Is (.bool false), Is (.agg #[.int .i64 d.to, .int .i64 d.fr, .bool d.rs, .int .i64 d.fm, .int .i64 d.kd, .int .i64 d.ns, .int .i64 d.nr, .bool d.po, .slice s.A s.n s.c]), Is (.int .i64 X), Is (.bool true), Is (.bool true), Is (.bool true), Any, Any, Any, Any, Any, Any, Any, Is (.bool true), Is (.bool true), Any, Any, Any, Any, Any, Any, Any, Is (.bool true)] 26 (by kernel_rfl) (by kernel_rfl) (by kernel_rfl) (by kernel_rfl) (by kernel_rfl) (by kernel_rfl) (by kernel_rfl) (by kernel_rfl) ?hV (fun _ _ _ h => h) trivial ?hS ?hD
  case hV =>
    repeat (first | exact trivial | exact Is.keepsN _ | exact Any.keepsN | refine And.intro ?_ ?_)
  case hS =>
    (repeat' (first | exact trivial | refine And.intro ?_ ?_))
    · intro ac wx hf hbs hs hp K hK
      simp only [zA, Region.binds, Nat.reduceAdd] at hp
      have hs0 := hs 0 (by kernel_rfl)
      simp only [Array.getD_eq_getD_getElem?, List.getElem?_toArray, List.getElem?_cons_succ, List.getElem?_cons_zero, Option.getD_some] at hs0
      clear hs
      clear hbs
      clear hp
      clear hf
      go_simp
      try dsimp only
      refine hK.out _ _ ?_ ?_
      · change Fr [] _ _
        (repeat (first | with_reducible (first | exact Fr.refl _ _ | assumption | refine Fr.drew ?_ | refine Fr.drewN ?_ _ | refine Fr.alloc ?_ _ | refine Fr.setL ?_ _ _ _ ?_) | (left; simp; done) | (right; first | (simp; done) | (simp; omega) | omega)); done)
      · simp only [nth]
        first | (unfold Is; rfl) | (unfold Any; exact trivial) | exact IsSl.new _ _ _ _ | assumption
    · intro ac wx hf hbs hs hp K hK
      simp only [zA, Region.binds, Nat.reduceAdd] at hp
      clear hs
      clear hbs
      have h0 := hp
      clear hp
      (try simp only [h0])
      go_simp
      go_at_call 45
      refine (tie_made _ v m (H.out.fr0 hf)).mono ?_
      rintro e w' ⟨rfl, rfl⟩
      try dsimp only
      refine hK.out _ _ ?_ ?_
      · change Fr [] _ _
        (repeat (first | with_reducible (first | exact Fr.refl _ _ | assumption | refine Fr.drew ?_ | refine Fr.drewN ?_ _ | refine Fr.alloc ?_ _ | refine Fr.setL ?_ _ _ _ ?_) | (left; simp; done) | (right; first | (simp; done) | (simp; omega) | omega)); done)
      · simp only [nth]
        first | (unfold Is; rfl) | (unfold Any; exact trivial) | exact IsSl.new _ _ _ _ | assumption
    · intro ac wx hf hbs hs hp K hK
      simp only [zA, Region.binds, Nat.reduceAdd] at hp
      clear hs
      clear hbs
      have h1 := hp
      clear hp
      clear hf
      (try simp only [h1])
      go_simp
      try dsimp only
      refine hK.out _ _ ?_ ?_
      · change Fr [] _ _
        (repeat (first | with_reducible (first | exact Fr.refl _ _ | assumption | refine Fr.drew ?_ | refine Fr.drewN ?_ _ | refine Fr.alloc ?_ _ | refine Fr.setL ?_ _ _ _ ?_) | (left; simp; done) | (right; first | (simp; done) | (simp; omega) | omega)); done)
      · simp only [nth]
        first | (unfold Is; rfl) | (unfold Any; exact trivial) | exact IsSl.new _ _ _ _ | assumption
    · intro ac wx hf hbs hs hp K hK
      simp only [zA, Region.binds, Nat.reduceAdd] at hp
      clear hs
      clear hbs
      obtain ⟨h2, h1⟩ := hp
      clear hf
      (try simp only [h2, h1])
      go_simp
      try dsimp only
      refine hK.out _ _ ?_ ?_
      · change Fr [] _ _
        (repeat (first | with_reducible (first | exact Fr.refl _ _ | assumption | refine Fr.drew ?_ | refine Fr.drewN ?_ _ | refine Fr.alloc ?_ _ | refine Fr.setL ?_ _ _ _ ?_) | (left; simp; done) | (right; first | (simp; done) | (simp; omega) | omega)); done)
      · simp only [nth]
        first | (unfold Is; rfl) | (unfold Any; exact trivial) | exact IsSl.new _ _ _ _ | assumption
    · intro ac wx hf hbs hs hp K hK
      simp only [zA, Region.binds, Nat.reduceAdd] at hp
      have hs4 := hs 4 (by kernel_rfl)
      simp only [Array.getD_eq_getD_getElem?, List.getElem?_toArray, List.getElem?_cons_succ, List.getElem?_cons_zero, Option.getD_some] at hs4
      clear hs
      clear hbs
      have h3 := hp
      clear hp
      have hg3 := (getD_bool _ _).1 h3
      have cx0 := k0 wx hf
      have cx1 := k1 wx hf
      have cx2 := k2 wx hf
      have cx3 := k3 wx hf
      have cx4 := k4 wx hf
      have cx5 := k5 wx hf
      have cx6 := k6 wx hf
      have cx7 := k7 wx hf
      have cx8 := k8 wx hf
      clear hf
      (try simp only [h3, hg3])
      go_simp
      try dsimp only
      refine hK.out _ _ ?_ ?_
      · change Fr [] _ _
        (repeat (first | with_reducible (first | exact Fr.refl _ _ | assumption | refine Fr.drew ?_ | refine Fr.drewN ?_ _ | refine Fr.alloc ?_ _ | refine Fr.setL ?_ _ _ _ ?_) | (left; simp; done) | (right; first | (simp; done) | (simp; omega) | omega)); done)
      · simp only [nth]
        first | (unfold Is; rfl) | (unfold Any; exact trivial) | exact IsSl.new _ _ _ _ | assumption
    · intro ac wx hf hbs hs hp K hK
      simp only [zA, Region.binds, Nat.reduceAdd] at hp
      clear hs
      clear hbs
      obtain ⟨h4, h3, h3_2⟩ := hp
      have hg3 := (getD_bool _ _).1 h3
      (try simp only [h4, h3, hg3])
      go_simp
      go_at_call 58
      refine (HTY.out wx).mono ?_
      rintro e w' ⟨rfl, fz⟩
      exact hK.out _ _ fz rfl
    · intro ac wx hf hbs hs hp K hK
      simp only [zA, Region.binds, Nat.reduceAdd] at hp
      clear hs
      clear hbs
      obtain ⟨h5, h3⟩ := hp
      have hg3 := (getD_bool _ _).1 h3
      clear hf
      (try simp only [h5, h3, hg3])
      go_simp
      try dsimp only
      refine hK.out _ _ ?_ ?_
      · change Fr [] _ _
        (repeat (first | with_reducible (first | exact Fr.refl _ _ | assumption | refine Fr.drew ?_ | refine Fr.drewN ?_ _ | refine Fr.alloc ?_ _ | refine Fr.setL ?_ _ _ _ ?_) | (left; simp; done) | (right; first | (simp; done) | (simp; omega) | omega)); done)
      · simp only [nth]
        first | (unfold Is; rfl) | (unfold Any; exact trivial) | exact IsSl.new _ _ _ _ | assumption
    · intro ac wx hf hbs hs hp K hK
      simp only [zA, Region.binds, Nat.reduceAdd] at hp
      clear hs
      clear hbs
      obtain ⟨h3, h6⟩ := hp
      clear hf
      (try simp only [h3, h6])
      go_simp
      try dsimp only
      refine hK.out _ _ ?_ ?_
      · change Fr [] _ _
        (repeat (first | with_reducible (first | exact Fr.refl _ _ | assumption | refine Fr.drew ?_ | refine Fr.drewN ?_ _ | refine Fr.alloc ?_ _ | refine Fr.setL ?_ _ _ _ ?_) | (left; simp; done) | (right; first | (simp; done) | (simp; omega) | omega)); done)
      · simp only [nth]
        first | (unfold Is; rfl) | (unfold Any; exact trivial) | exact IsSl.new _ _ _ _ | assumption
    · intro ac wx hf hbs hs hp K hK
      simp only [zA, Region.binds, Nat.reduceAdd] at hp
      clear hs
      clear hbs
      obtain ⟨h7, h5⟩ := hp
      clear hf
      (try simp only [h7, h5])
      go_simp
      try dsimp only
      refine hK.out _ _ ?_ ?_
      · change Fr [] _ _
        (repeat (first | with_reducible (first | exact Fr.refl _ _ | assumption | refine Fr.drew ?_ | refine Fr.drewN ?_ _ | refine Fr.alloc ?_ _ | refine Fr.setL ?_ _ _ _ ?_) | (left; simp; done) | (right; first | (simp; done) | (simp; omega) | omega)); done)
      · simp only [nth]
        first | (unfold Is; rfl) | (unfold Any; exact trivial) | exact IsSl.new _ _ _ _ | assumption
    · intro ac wx hf hbs hs hp K hK
      simp only [zA, Region.binds, Nat.reduceAdd] at hp
      have hs4 := hs 4 (by kernel_rfl)
      simp only [Array.getD_eq_getD_getElem?, List.getElem?_toArray, List.getElem?_cons_succ, List.getElem?_cons_zero, Option.getD_some] at hs4
      clear hs
      clear hbs
      have h8 := hp
      clear hp
      have hg8 := (getD_bool _ _).1 h8
      clear hf
      (try simp only [h8, hg8])
      go_simp
      try dsimp only
      refine hK.out _ _ ?_ ?_
      · change Fr [] _ _
        (repeat (first | with_reducible (first | exact Fr.refl _ _ | assumption | refine Fr.drew ?_ | refine Fr.drewN ?_ _ | refine Fr.alloc ?_ _ | refine Fr.setL ?_ _ _ _ ?_) | (left; simp; done) | (right; first | (simp; done) | (simp; omega) | omega)); done)
      · simp only [nth]
        first | (unfold Is; rfl) | (unfold Any; exact trivial) | exact IsSl.new _ _ _ _ | assumption
    · intro ac wx hf hbs hs hp K hK
      simp only [zA, Region.binds, Nat.reduceAdd] at hp
      clear hs
      clear hbs
      have h8 := hp
      clear hp
      have hg8 := (getD_bool _ _).1 h8
      clear hf
      (try simp only [h8, hg8])
      go_simp
      try dsimp only
      refine hK.out _ _ ?_ ?_
      · change Fr [] _ _
        (repeat (first | with_reducible (first | exact Fr.refl _ _ | assumption | refine Fr.drew ?_ | refine Fr.drewN ?_ _ | refine Fr.alloc ?_ _ | refine Fr.setL ?_ _ _ _ ?_) | (left; simp; done) | (right; first | (simp; done) | (simp; omega) | omega)); done)
      · simp only [nth]
        first | (unfold Is; rfl) | (unfold Any; exact trivial) | exact IsSl.new _ _ _ _ | assumption
    · intro ac wx hf hbs hs hp K hK
      simp only [zA, Region.binds, Nat.reduceAdd] at hp
      have hs0 := hs 0 (by kernel_rfl)
      simp only [Array.getD_eq_getD_getElem?, List.getElem?_toArray, List.getElem?_cons_succ, List.getElem?_cons_zero, Option.getD_some] at hs0
      clear hs
      clear hbs
      have h8 := hp
      clear hp
      have hg8 := (getD_bool _ _).1 h8
      clear hf
      (try simp only [h8, hg8])
      go_simp
      try dsimp only
      refine hK.out _ _ ?_ ?_
      · change Fr [] _ _
        (repeat (first | with_reducible (first | exact Fr.refl _ _ | assumption | refine Fr.drew ?_ | refine Fr.drewN ?_ _ | refine Fr.alloc ?_ _ | refine Fr.setL ?_ _ _ _ ?_) | (left; simp; done) | (right; first | (simp; done) | (simp; omega) | omega)); done)
      · simp only [nth]
        first | (unfold Is; rfl) | (unfold Any; exact trivial) | exact IsSl.new _ _ _ _ | assumption
    · intro ac wx hf hbs hs hp K hK
      simp only [zA, Region.binds, Nat.reduceAdd] at hp
      clear hs
      clear hbs
      have h8 := hp
      clear hp
      have hg8 := (getD_bool _ _).1 h8
      clear hf
      (try simp only [h8, hg8])
      go_simp
      try dsimp only
      refine hK.out _ _ ?_ ?_
      · change Fr [] _ _
        (repeat (first | with_reducible (first | exact Fr.refl _ _ | assumption | refine Fr.drew ?_ | refine Fr.drewN ?_ _ | refine Fr.alloc ?_ _ | refine Fr.setL ?_ _ _ _ ?_) | (left; simp; done) | (right; first | (simp; done) | (simp; omega) | omega)); done)
      · simp only [nth]
        first | (unfold Is; rfl) | (unfold Any; exact trivial) | exact IsSl.new _ _ _ _ | assumption
    · intro ac wx hf hbs hs hp K hK
      simp only [zA, Region.binds, Nat.reduceAdd] at hp
      clear hs
      clear hbs
      have h8 := hp
      clear hp
      have hg8 := (getD_bool _ _).1 h8
      clear hf
      (try simp only [h8, hg8])
      go_simp
      try dsimp only
      refine hK.out _ _ ?_ ?_
      · change Fr [] _ _
        (repeat (first | with_reducible (first | exact Fr.refl _ _ | assumption | refine Fr.drew ?_ | refine Fr.drewN ?_ _ | refine Fr.alloc ?_ _ | refine Fr.setL ?_ _ _ _ ?_) | (left; simp; done) | (right; first | (simp; done) | (simp; omega) | omega)); done)
      · simp only [nth]
        first | (unfold Is; rfl) | (unfold Any; exact trivial) | exact IsSl.new _ _ _ _ | assumption
    · intro ac wx hf hbs hs hp K hK
      simp only [zA, Region.binds, Nat.reduceAdd] at hp
      clear hs
      clear hbs
      have h8 := hp
      clear hp
      have hg8 := (getD_bool _ _).1 h8
      clear hf
      (try simp only [h8, hg8])
      go_simp
      try dsimp only
      refine hK.out _ _ ?_ ?_
      · change Fr [] _ _
        (repeat (first | with_reducible (first | exact Fr.refl _ _ | assumption | refine Fr.drew ?_ | refine Fr.drewN ?_ _ | refine Fr.alloc ?_ _ | refine Fr.setL ?_ _ _ _ ?_) | (left; simp; done) | (right; first | (simp; done) | (simp; omega) | omega)); done)
      · simp only [nth]
        first | (unfold Is; rfl) | (unfold Any; exact trivial) | exact IsSl.new _ _ _ _ | assumption
    · intro ac wx hf hbs hs hp K hK
      simp only [zA, Region.binds, Nat.reduceAdd] at hp
      clear hs
      clear hbs
      have h8 := hp
      clear hp
      have hg8 := (getD_bool _ _).1 h8
      clear hf
      (try simp only [h8, hg8])
      go_simp
      try dsimp only
      refine hK.out _ _ ?_ ?_
      · change Fr [] _ _
        (repeat (first | with_reducible (first | exact Fr.refl _ _ | assumption | refine Fr.drew ?_ | refine Fr.drewN ?_ _ | refine Fr.alloc ?_ _ | refine Fr.setL ?_ _ _ _ ?_) | (left; simp; done) | (right; first | (simp; done) | (simp; omega) | omega)); done)
      · simp only [nth]
        first | (unfold Is; rfl) | (unfold Any; exact trivial) | exact IsSl.new _ _ _ _ | assumption
    · intro ac wx hf hbs hs hp K hK
      simp only [zA, Region.binds, Nat.reduceAdd] at hp
      clear hs
      clear hbs
      have h8 := hp
      clear hp
      clear hf
      (try simp only [h8])
      go_simp
      try dsimp only
      refine hK.out _ _ ?_ ?_
      · change Fr [] _ _
        (repeat (first | with_reducible (first | exact Fr.refl _ _ | assumption | refine Fr.drew ?_ | refine Fr.drewN ?_ _ | refine Fr.alloc ?_ _ | refine Fr.setL ?_ _ _ _ ?_) | (left; simp; done) | (right; first | (simp; done) | (simp; omega) | omega)); done)
      · simp only [nth]
        first | (unfold Is; rfl) | (unfold Any; exact trivial) | exact IsSl.new _ _ _ _ | assumption
    · intro ac wx hf hbs hs hp K hK
      simp only [zA, Region.binds, Nat.reduceAdd] at hp
      clear hs
      clear hbs
      obtain ⟨h16, h8⟩ := hp
      clear hf
      (try simp only [h16, h8])
      go_simp
      try dsimp only
      refine hK.out _ _ ?_ ?_
      · change Fr [] _ _
        (repeat (first | with_reducible (first | exact Fr.refl _ _ | assumption | refine Fr.drew ?_ | refine Fr.drewN ?_ _ | refine Fr.alloc ?_ _ | refine Fr.setL ?_ _ _ _ ?_) | (left; simp; done) | (right; first | (simp; done) | (simp; omega) | omega)); done)
      · simp only [nth]
        first | (unfold Is; rfl) | (unfold Any; exact trivial) | exact IsSl.new _ _ _ _ | assumption
    · intro ac wx hf hbs hs hp K hK
      simp only [zA, Region.binds, Nat.reduceAdd] at hp
      have hs4 := hs 4 (by kernel_rfl)
      simp only [Array.getD_eq_getD_getElem?, List.getElem?_toArray, List.getElem?_cons_succ, List.getElem?_cons_zero, Option.getD_some] at hs4
      clear hs
      clear hbs
      have h17 := hp
      clear hp
      have hg17 := (getD_bool _ _).1 h17
      clear hf
      (try simp only [h17, hg17])
      go_simp
      try dsimp only
      refine hK.out _ _ ?_ ?_
      · change Fr [] _ _
        (repeat (first | with_reducible (first | exact Fr.refl _ _ | assumption | refine Fr.drew ?_ | refine Fr.drewN ?_ _ | refine Fr.alloc ?_ _ | refine Fr.setL ?_ _ _ _ ?_) | (left; simp; done) | (right; first | (simp; done) | (simp; omega) | omega)); done)
      · simp only [nth]
        first | (unfold Is; rfl) | (unfold Any; exact trivial) | exact IsSl.new _ _ _ _ | assumption
    · intro ac wx hf hbs hs hp K hK
      simp only [zA, Region.binds, Nat.reduceAdd] at hp
      clear hs
      clear hbs
      have h17 := hp
      clear hp
      have hg17 := (getD_bool _ _).1 h17
      clear hf
      (try simp only [h17, hg17])
      go_simp
      try dsimp only
      refine hK.out _ _ ?_ ?_
      · change Fr [] _ _
        (repeat (first | with_reducible (first | exact Fr.refl _ _ | assumption | refine Fr.drew ?_ | refine Fr.drewN ?_ _ | refine Fr.alloc ?_ _ | refine Fr.setL ?_ _ _ _ ?_) | (left; simp; done) | (right; first | (simp; done) | (simp; omega) | omega)); done)
      · simp only [nth]
        first | (unfold Is; rfl) | (unfold Any; exact trivial) | exact IsSl.new _ _ _ _ | assumption
    · intro ac wx hf hbs hs hp K hK
      simp only [zA, Region.binds, Nat.reduceAdd] at hp
      have hs0 := hs 0 (by kernel_rfl)
      simp only [Array.getD_eq_getD_getElem?, List.getElem?_toArray, List.getElem?_cons_succ, List.getElem?_cons_zero, Option.getD_some] at hs0
      clear hs
      clear hbs
      have h17 := hp
      clear hp
      have hg17 := (getD_bool _ _).1 h17
      clear hf
      (try simp only [h17, hg17])
      go_simp
      try dsimp only
      refine hK.out _ _ ?_ ?_
      · change Fr [] _ _
        (repeat (first | with_reducible (first | exact Fr.refl _ _ | assumption | refine Fr.drew ?_ | refine Fr.drewN ?_ _ | refine Fr.alloc ?_ _ | refine Fr.setL ?_ _ _ _ ?_) | (left; simp; done) | (right; first | (simp; done) | (simp; omega) | omega)); done)
      · simp only [nth]
        first | (unfold Is; rfl) | (unfold Any; exact trivial) | exact IsSl.new _ _ _ _ | assumption
    · intro ac wx hf hbs hs hp K hK
      simp only [zA, Region.binds, Nat.reduceAdd] at hp
      clear hs
      clear hbs
      have h17 := hp
      clear hp
      have hg17 := (getD_bool _ _).1 h17
      clear hf
      (try simp only [h17, hg17])
      go_simp
      try dsimp only
      refine hK.out _ _ ?_ ?_
      · change Fr [] _ _
        (repeat (first | with_reducible (first | exact Fr.refl _ _ | assumption | refine Fr.drew ?_ | refine Fr.drewN ?_ _ | refine Fr.alloc ?_ _ | refine Fr.setL ?_ _ _ _ ?_) | (left; simp; done) | (right; first | (simp; done) | (simp; omega) | omega)); done)
      · simp only [nth]
        first | (unfold Is; rfl) | (unfold Any; exact trivial) | exact IsSl.new _ _ _ _ | assumption
    · intro ac wx hf hbs hs hp K hK
      simp only [zA, Region.binds, Nat.reduceAdd] at hp
      clear hs
      clear hbs
      have h17 := hp
      clear hp
      have hg17 := (getD_bool _ _).1 h17
      clear hf
      (try simp only [h17, hg17])
      go_simp
      try dsimp only
      refine hK.out _ _ ?_ ?_
      · change Fr [] _ _
        (repeat (first | with_reducible (first | exact Fr.refl _ _ | assumption | refine Fr.drew ?_ | refine Fr.drewN ?_ _ | refine Fr.alloc ?_ _ | refine Fr.setL ?_ _ _ _ ?_) | (left; simp; done) | (right; first | (simp; done) | (simp; omega) | omega)); done)
      · simp only [nth]
        first | (unfold Is; rfl) | (unfold Any; exact trivial) | exact IsSl.new _ _ _ _ | assumption
    · intro ac wx hf hbs hs hp K hK
      simp only [zA, Region.binds, Nat.reduceAdd] at hp
      clear hs
      clear hbs
      have h17 := hp
      clear hp
      have hg17 := (getD_bool _ _).1 h17
      clear hf
      (try simp only [h17, hg17])
      go_simp
      try dsimp only
      refine hK.out _ _ ?_ ?_
      · change Fr [] _ _
        (repeat (first | with_reducible (first | exact Fr.refl _ _ | assumption | refine Fr.drew ?_ | refine Fr.drewN ?_ _ | refine Fr.alloc ?_ _ | refine Fr.setL ?_ _ _ _ ?_) | (left; simp; done) | (right; first | (simp; done) | (simp; omega) | omega)); done)
      · simp only [nth]
        first | (unfold Is; rfl) | (unfold Any; exact trivial) | exact IsSl.new _ _ _ _ | assumption
    · intro ac wx hf hbs hs hp K hK
      simp only [zA, Region.binds, Nat.reduceAdd] at hp
      clear hs
      clear hbs
      have h17 := hp
      clear hp
      have hg17 := (getD_bool _ _).1 h17
      clear hf
      (try simp only [h17, hg17])
      go_simp
      try dsimp only
      refine hK.out _ _ ?_ ?_
      · change Fr [] _ _
        (repeat (first | with_reducible (first | exact Fr.refl _ _ | assumption | refine Fr.drew ?_ | refine Fr.drewN ?_ _ | refine Fr.alloc ?_ _ | refine Fr.setL ?_ _ _ _ ?_) | (left; simp; done) | (right; first | (simp; done) | (simp; omega) | omega)); done)
      · simp only [nth]
        first | (unfold Is; rfl) | (unfold Any; exact trivial) | exact IsSl.new _ _ _ _ | assumption
    · intro ac wx hf hbs hs hp K hK
      simp only [zA, Region.binds, Nat.reduceAdd] at hp
      clear hs
      clear hbs
      have h17 := hp
      clear hp
      clear hf
      (try simp only [h17])
      go_simp
      try dsimp only
      refine hK.out _ _ ?_ ?_
      · change Fr [] _ _
        (repeat (first | with_reducible (first | exact Fr.refl _ _ | assumption | refine Fr.drew ?_ | refine Fr.drewN ?_ _ | refine Fr.alloc ?_ _ | refine Fr.setL ?_ _ _ _ ?_) | (left; simp; done) | (right; first | (simp; done) | (simp; omega) | omega)); done)
      · simp only [nth]
        first | (unfold Is; rfl) | (unfold Any; exact trivial) | exact IsSl.new _ _ _ _ | assumption
  case hD =>
    intro xv wx hf hp
    simp only [List.take_succ_cons, List.take_zero, List.drop_succ_cons, List.drop_zero, fill, List.setIfInBounds_toArray, List.set_cons_zero, List.set_cons_succ, Nat.reduceAdd, Act.put]
    rw [show live 26 (deadC [none, none, none, none, none, none, none, none, none, none, none, none, none, none, none, none, none, none, none, none, none, none, none, none, none, none]) = [0, 1, 2, 3, 4, 5, 6, 7, 8, 9, 10, 11, 12, 13, 14, 15, 16, 17, 18, 19, 20, 21, 22, 23, 24, 25] from by decide] at hp
    simp only [holds, nth, Is, Any, true_and, and_true] at hp
    obtain ⟨p0, p1, p2, p3, p4, p5, p6, p7, p8, p16, p17, p25⟩ := hp
    have hbz2 := HBZ.out.1.fr hf (by simp)
    have HF := Lib.hid (HBZ.out.2.tr hf)
    have g0 := hbz2.cell 0 rfl
    have g1 := hbz2.cell 1 rfl
    have g2 := hbz2.cell 2 rfl
    have g3 := hbz2.cell 3 rfl
    have x0 := hbz2.free 0
    have x1 := hbz2.free 1
    have x2 := hbz2.free 2
    have x3 := hbz2.free 3
    simp only [List.getElem_toArray, List.getElem_cons_zero, List.getElem_cons_succ] at g0 g1 g2 g3
    have hlz : w.heap.size ≤ P + 1 := by have := HPZ.out; omega
    have hbf : Fr [] w ((((wx.setCell ⟨P + 1, 0, none⟩ (.slice none 0 0)).setCell ⟨P + 1, 1, none⟩ (.slice none 0 0)).setCell ⟨P + 1, 2, none⟩ (.slice none 0 0)).setCell ⟨P + 1, 3, none⟩ (.bool false)) :=
      (((HF.out.setCell _ (.inr hlz)).setCell _ (.inr hlz)).setCell _ (.inr hlz)).setCell _ (.inr hlz)
    have hb5 : Blk ((((wx.setCell ⟨P + 1, 0, none⟩ (.slice none 0 0)).setCell ⟨P + 1, 1, none⟩ (.slice none 0 0)).setCell ⟨P + 1, 2, none⟩ (.slice none 0 0)).setCell ⟨P + 1, 3, none⟩ (.bool false)) (P + 1) #[.slice none 0 0, .slice none 0 0, .slice none 0 0, .bool false] 36 :=
      Blk.set (Blk.set (Blk.set (Blk.set hbz2 0 _ rfl) 1 _ rfl) 2 _ rfl) 3 _ rfl
    have HFIN := Lib.hid (And.intro hbf hb5)
    simp only [p25]
    clear hbz2 hf hbf hb5 p0 p1 p2 p3 p4 p5 p6 p7 p8 p16 p17 k0 k1 k2 k3 k4 k5 k6 k7 k8 q6 q7
    go_wp2
    have y0 := HFIN.out.2.cell 0 rfl
    have y1 := HFIN.out.2.cell 1 rfl
    have y2 := HFIN.out.2.cell 2 rfl
    have y3 := HFIN.out.2.cell 3 rfl
    simp only [List.getElem_toArray, List.getElem_cons_zero, List.getElem_cons_succ] at y0 y1 y2 y3
    exact bodyPost_ret (v := .agg #[.slice none 0 0, .slice none 0 0, .slice none 0 0, .bool false]) (by simp [results, Tryz.results22, go_sem, y0, y1, y2, y3]) rfl ⟨rfl, HFIN.out.1⟩

set_option maxHeartbeats 2000000 in
theorem hear_no1 (w : World) (v : TV) (m : TM) (d : PD) (s : Sl) (y : Value) (h : IsTie w v m) (hn : s.n = d.info.length) (ht : typM d = 2) (hfr : d.fr ≠ m.there) :
    Calls Tryz.prog 22 #[.pointer (some ⟨v.t, 0, none⟩), d.val s, y] w fun e w' => e = .returned (.agg #[.slice none 0 0, .slice none 0 0, .slice none 0 0, .bool false]) ∧ Fr [] w w' := by
  have hty : ∀ wx, Calls Tryz.prog 58 #[d.val s] wx fun e w' => e = .returned (.int .i64 2) ∧ Fr [] wx w' := fun wx => by have := tell_Type d s wx hn; rw [ht] at this; exact this
  clear ht
  have efr : (d.fr != m.there) = true := bne_iff_ne.2 hfr
  clear hfr
  obtain ⟨w1, hw1⟩ : ∃ w1, (w.alloc (.cells (d.arr s) 52)).alloc (.cells #[.slice none 0 0, .slice none 0 0, .slice none 0 0, .bool false] 36) = w1 := ⟨_, rfl⟩
  obtain ⟨P, hP⟩ : ∃ P, w.heap.size = P := ⟨_, rfl⟩
  have hbp : Blk w1 P (d.arr s) 52 := by rw [← hw1, ← hP]; exact (Blk.new w _ _).alloc _
  have hbz : Blk w1 (P + 1) #[.slice none 0 0, .slice none 0 0, .slice none 0 0, .bool false] 36 := by
    have := Blk.new (w.alloc (.cells (d.arr s) 52)) #[.slice none 0 0, .slice none 0 0, .slice none 0 0, .bool false] 36
    rw [World.size_alloc, hw1, hP] at this
    exact this
  have f0 : Fr [] w w1 := by rw [← hw1]; exact ((Fr.refl [] w).alloc _).alloc _
  have h0 := h.fr0 f0
  have hlt : ∀ x ∈ v.foot, x < P := by rw [← hP]; exact h.lt
  have hile : v.hi ≤ P := by rw [← hP]; exact h.hile
  have HPZ := Lib.hid hP
  have k0 : ∀ wx, Fr [] w1 wx → wx.cell? ⟨P, 0, none⟩ = some (.int .i64 d.to) := fun wx hf => hf.cell (hbp.cell 0 rfl) (by simp)
  have k1 : ∀ wx, Fr [] w1 wx → wx.cell? ⟨P, 1, none⟩ = some (.int .i64 d.fr) := fun wx hf => hf.cell (hbp.cell 1 rfl) (by simp)
  have k2 : ∀ wx, Fr [] w1 wx → wx.cell? ⟨P, 2, none⟩ = some (.bool d.rs) := fun wx hf => hf.cell (hbp.cell 2 rfl) (by simp)
  have k3 : ∀ wx, Fr [] w1 wx → wx.cell? ⟨P, 3, none⟩ = some (.int .i64 d.fm) := fun wx hf => hf.cell (hbp.cell 3 rfl) (by simp)
  have k4 : ∀ wx, Fr [] w1 wx → wx.cell? ⟨P, 4, none⟩ = some (.int .i64 d.kd) := fun wx hf => hf.cell (hbp.cell 4 rfl) (by simp)
  have k5 : ∀ wx, Fr [] w1 wx → wx.cell? ⟨P, 5, none⟩ = some (.int .i64 d.ns) := fun wx hf => hf.cell (hbp.cell 5 rfl) (by simp)
  have k6 : ∀ wx, Fr [] w1 wx → wx.cell? ⟨P, 6, none⟩ = some (.int .i64 d.nr) := fun wx hf => hf.cell (hbp.cell 6 rfl) (by simp)
  have k7 : ∀ wx, Fr [] w1 wx → wx.cell? ⟨P, 7, none⟩ = some (.bool d.po) := fun wx hf => hf.cell (hbp.cell 7 rfl) (by simp)
  have k8 : ∀ wx, Fr [] w1 wx → wx.cell? ⟨P, 8, none⟩ = some (.slice s.A s.n s.c) := fun wx hf => hf.cell (hbp.cell 8 rfl) (by simp)
  have q6 : ∀ wx, Fr [] w1 wx → wx.cell? ⟨v.t, 6, none⟩ = some (.int .i64 m.near) := fun wx hf => hf.cell h0.c6 (by simp)
  have q7 : ∀ wx, Fr [] w1 wx → wx.cell? ⟨v.t, 7, none⟩ = some (.int .i64 m.there) := fun wx hf => hf.cell h0.c7 (by simp)
  have H := Lib.hid h0
  have HBZ := Lib.hid (And.intro hbz f0)
  have HS := Lib.hid hn
  clear h f0 h0 hlt hile hbp hbz hn
  have HTY := Lib.hid hty
  clear hty
  go_enter Tryz.func22, Tryz.ntmps22
  go_wp2_with fail
  clear hw1 hP
  refine wp_region_keepsC [] [false, false, false, false, false, false, false, false, false, false, false, false, false, false, false, false, false, false, false, false, false, false, false, false, false, false] [none, none, none, none, none, none, none, none, none, none, none, none, none, none, none, none, none, none, none, none, none, none, none, none, none, none] (fun _ => True) [Is (.pointer (some ⟨v.t, 0, none⟩)), Is (.bool true), Is (.bool false), Is (.bool false), Is (.agg #[.int .i64 d.to, .int .i64 d.fr, .bool d.rs, .int .i64 d.fm, .int .i64 d.kd, .int .i64 d.ns, .int .i64 d.nr, .bool d.po, .slice s.A s.n s.c]), Is (.int .i64 2), Is (.bool false), Is (.bool false), Is (.bool false), Is (.pointer (some ⟨P, 1, none⟩)), Is (.int .i64 d.fr), Is (.pointer (some ⟨v.t, 0, none⟩)), Is (.pointer (some ⟨v.t, 0, none⟩)), Is (.pointer (some ⟨v.t, 7, none⟩)), Is (.int .i64 m.there), Is (.bool true), Is (.bool true), Is (.bool true), Any, Any, Any, Any, Any, Any, Any, Is (.bool true)] 26 (by kernel_rfl) (by kernel_rfl) (by kernel_rfl) (by kernel_rfl) (by kernel_rfl) (by kernel_rfl) (by kernel_rfl) (by kernel_rfl) ?hV (fun _ _ _ h => h) trivial ?hS ?hD
  case hV =>
    repeat (first | exact trivial | exact Is.keepsN _ | exact Any.keepsN | refine And.intro ?_ ?_)
  case hS =>
    (repeat' (first | exact trivial | refine And.intro ?_ ?_))
    · intro ac wx hf hbs hs hp K hK
      simp only [zA, Region.binds, Nat.reduceAdd] at hp
      have hs0 := hs 0 (by kernel_rfl)
      simp only [Array.getD_eq_getD_getElem?, List.getElem?_toArray, List.getElem?_cons_succ, List.getElem?_cons_zero, Option.getD_some] at hs0
      clear hs
      clear hbs
      clear hp
      clear hf
      go_simp
      try dsimp only
      refine hK.out _ _ ?_ ?_
      · change Fr [] _ _
        (repeat (first | with_reducible (first | exact Fr.refl _ _ | assumption | refine Fr.drew ?_ | refine Fr.drewN ?_ _ | refine Fr.alloc ?_ _ | refine Fr.setL ?_ _ _ _ ?_) | (left; simp; done) | (right; first | (simp; done) | (simp; omega) | omega)); done)
      · simp only [nth]
        first | (unfold Is; rfl) | (unfold Any; exact trivial) | exact IsSl.new _ _ _ _ | assumption
    · intro ac wx hf hbs hs hp K hK
      simp only [zA, Region.binds, Nat.reduceAdd] at hp
      clear hs
      clear hbs
      have h0 := hp
      clear hp
      (try simp only [h0])
      go_simp
      go_at_call 45
      refine (tie_made _ v m (H.out.fr0 hf)).mono ?_
      rintro e w' ⟨rfl, rfl⟩
      try dsimp only
      refine hK.out _ _ ?_ ?_
      · change Fr [] _ _
        (repeat (first | with_reducible (first | exact Fr.refl _ _ | assumption | refine Fr.drew ?_ | refine Fr.drewN ?_ _ | refine Fr.alloc ?_ _ | refine Fr.setL ?_ _ _ _ ?_) | (left; simp; done) | (right; first | (simp; done) | (simp; omega) | omega)); done)
      · simp only [nth]
        first | (unfold Is; rfl) | (unfold Any; exact trivial) | exact IsSl.new _ _ _ _ | assumption
    · intro ac wx hf hbs hs hp K hK
      simp only [zA, Region.binds, Nat.reduceAdd] at hp
      clear hs
      clear hbs
      have h1 := hp
      clear hp
      clear hf
      (try simp only [h1])
      go_simp
      try dsimp only
      refine hK.out _ _ ?_ ?_
      · change Fr [] _ _
        (repeat (first | with_reducible (first | exact Fr.refl _ _ | assumption | refine Fr.drew ?_ | refine Fr.drewN ?_ _ | refine Fr.alloc ?_ _ | refine Fr.setL ?_ _ _ _ ?_) | (left; simp; done) | (right; first | (simp; done) | (simp; omega) | omega)); done)
      · simp only [nth]
        first | (unfold Is; rfl) | (unfold Any; exact trivial) | exact IsSl.new _ _ _ _ | assumption
    · intro ac wx hf hbs hs hp K hK
      simp only [zA, Region.binds, Nat.reduceAdd] at hp
      clear hs
      clear hbs
      obtain ⟨h2, h1⟩ := hp
      clear hf
      (try simp only [h2, h1])
      go_simp
      try dsimp only
      refine hK.out _ _ ?_ ?_
      · change Fr [] _ _
        (repeat (first | with_reducible (first | exact Fr.refl _ _ | assumption | refine Fr.drew ?_ | refine Fr.drewN ?_ _ | refine Fr.alloc ?_ _ | refine Fr.setL ?_ _ _ _ ?_) | (left; simp; done) | (right; first | (simp; done) | (simp; omega) | omega)); done)
      · simp only [nth]
        first | (unfold Is; rfl) | (unfold Any; exact trivial) | exact IsSl.new _ _ _ _ | assumption
    · intro ac wx hf hbs hs hp K hK
      simp only [zA, Region.binds, Nat.reduceAdd] at hp
      have hs4 := hs 4 (by kernel_rfl)
      simp only [Array.getD_eq_getD_getElem?, List.getElem?_toArray, List.getElem?_cons_succ, List.getElem?_cons_zero, Option.getD_some] at hs4
      clear hs
      clear hbs
      have h3 := hp
      clear hp
      have hg3 := (getD_bool _ _).1 h3
      have cx0 := k0 wx hf
      have cx1 := k1 wx hf
      have cx2 := k2 wx hf
      have cx3 := k3 wx hf
      have cx4 := k4 wx hf
      have cx5 := k5 wx hf
      have cx6 := k6 wx hf
      have cx7 := k7 wx hf
      have cx8 := k8 wx hf
      clear hf
      (try simp only [h3, hg3])
      go_simp
      try dsimp only
      refine hK.out _ _ ?_ ?_
      · change Fr [] _ _
        (repeat (first | with_reducible (first | exact Fr.refl _ _ | assumption | refine Fr.drew ?_ | refine Fr.drewN ?_ _ | refine Fr.alloc ?_ _ | refine Fr.setL ?_ _ _ _ ?_) | (left; simp; done) | (right; first | (simp; done) | (simp; omega) | omega)); done)
      · simp only [nth]
        first | (unfold Is; rfl) | (unfold Any; exact trivial) | exact IsSl.new _ _ _ _ | assumption
    · intro ac wx hf hbs hs hp K hK
      simp only [zA, Region.binds, Nat.reduceAdd] at hp
      clear hs
      clear hbs
      obtain ⟨h4, h3, h3_2⟩ := hp
      have hg3 := (getD_bool _ _).1 h3
      (try simp only [h4, h3, hg3])
      go_simp
      go_at_call 58
      refine (HTY.out wx).mono ?_
      rintro e w' ⟨rfl, fz⟩
      exact hK.out _ _ fz rfl
    · intro ac wx hf hbs hs hp K hK
      simp only [zA, Region.binds, Nat.reduceAdd] at hp
      clear hs
      clear hbs
      obtain ⟨h5, h3⟩ := hp
      have hg3 := (getD_bool _ _).1 h3
      clear hf
      (try simp only [h5, h3, hg3])
      go_simp
      try dsimp only
      refine hK.out _ _ ?_ ?_
      · change Fr [] _ _
        (repeat (first | with_reducible (first | exact Fr.refl _ _ | assumption | refine Fr.drew ?_ | refine Fr.drewN ?_ _ | refine Fr.alloc ?_ _ | refine Fr.setL ?_ _ _ _ ?_) | (left; simp; done) | (right; first | (simp; done) | (simp; omega) | omega)); done)
      · simp only [nth]
        first | (unfold Is; rfl) | (unfold Any; exact trivial) | exact IsSl.new _ _ _ _ | assumption
    · intro ac wx hf hbs hs hp K hK
      simp only [zA, Region.binds, Nat.reduceAdd] at hp
      clear hs
      clear hbs
      obtain ⟨h3, h6⟩ := hp
      clear hf
      (try simp only [h3, h6])
      go_simp
      try dsimp only
      refine hK.out _ _ ?_ ?_
      · change Fr [] _ _
        (repeat (first | with_reducible (first | exact Fr.refl _ _ | assumption | refine Fr.drew ?_ | refine Fr.drewN ?_ _ | refine Fr.alloc ?_ _ | refine Fr.setL ?_ _ _ _ ?_) | (left; simp; done) | (right; first | (simp; done) | (simp; omega) | omega)); done)
      · simp only [nth]
        first | (unfold Is; rfl) | (unfold Any; exact trivial) | exact IsSl.new _ _ _ _ | assumption
    · intro ac wx hf hbs hs hp K hK
      simp only [zA, Region.binds, Nat.reduceAdd] at hp
      clear hs
      clear hbs
      obtain ⟨h7, h5⟩ := hp
      clear hf
      (try simp only [h7, h5])
      go_simp
      try dsimp only
      refine hK.out _ _ ?_ ?_
      · change Fr [] _ _
        (repeat (first | with_reducible (first | exact Fr.refl _ _ | assumption | refine Fr.drew ?_ | refine Fr.drewN ?_ _ | refine Fr.alloc ?_ _ | refine Fr.setL ?_ _ _ _ ?_) | (left; simp; done) | (right; first | (simp; done) | (simp; omega) | omega)); done)
      · simp only [nth]
        first | (unfold Is; rfl) | (unfold Any; exact trivial) | exact IsSl.new _ _ _ _ | assumption
    · intro ac wx hf hbs hs hp K hK
      simp only [zA, Region.binds, Nat.reduceAdd] at hp
      have hs4 := hs 4 (by kernel_rfl)
      simp only [Array.getD_eq_getD_getElem?, List.getElem?_toArray, List.getElem?_cons_succ, List.getElem?_cons_zero, Option.getD_some] at hs4
      clear hs
      clear hbs
      have h8 := hp
      clear hp
      have hg8 := (getD_bool _ _).1 h8
      clear hf
      (try simp only [h8, hg8])
      go_simp
      try dsimp only
      refine hK.out _ _ ?_ ?_
      · change Fr [] _ _
        (repeat (first | with_reducible (first | exact Fr.refl _ _ | assumption | refine Fr.drew ?_ | refine Fr.drewN ?_ _ | refine Fr.alloc ?_ _ | refine Fr.setL ?_ _ _ _ ?_) | (left; simp; done) | (right; first | (simp; done) | (simp; omega) | omega)); done)
      · simp only [nth]
        first | (unfold Is; rfl) | (unfold Any; exact trivial) | exact IsSl.new _ _ _ _ | assumption
    · intro ac wx hf hbs hs hp K hK
      simp only [zA, Region.binds, Nat.reduceAdd] at hp
      clear hs
      clear hbs
      obtain ⟨h9, h8⟩ := hp
      have hg8 := (getD_bool _ _).1 h8
      have cx := k1 wx hf
      clear hf
      (try simp only [h9, h8, hg8])
      go_simp
      try dsimp only
      refine hK.out _ _ ?_ ?_
      · change Fr [] _ _
        (repeat (first | with_reducible (first | exact Fr.refl _ _ | assumption | refine Fr.drew ?_ | refine Fr.drewN ?_ _ | refine Fr.alloc ?_ _ | refine Fr.setL ?_ _ _ _ ?_) | (left; simp; done) | (right; first | (simp; done) | (simp; omega) | omega)); done)
      · simp only [nth]
        first | (unfold Is; rfl) | (unfold Any; exact trivial) | exact IsSl.new _ _ _ _ | assumption
    · intro ac wx hf hbs hs hp K hK
      simp only [zA, Region.binds, Nat.reduceAdd] at hp
      have hs0 := hs 0 (by kernel_rfl)
      simp only [Array.getD_eq_getD_getElem?, List.getElem?_toArray, List.getElem?_cons_succ, List.getElem?_cons_zero, Option.getD_some] at hs0
      clear hs
      clear hbs
      have h8 := hp
      clear hp
      have hg8 := (getD_bool _ _).1 h8
      clear hf
      (try simp only [h8, hg8])
      go_simp
      try dsimp only
      refine hK.out _ _ ?_ ?_
      · change Fr [] _ _
        (repeat (first | with_reducible (first | exact Fr.refl _ _ | assumption | refine Fr.drew ?_ | refine Fr.drewN ?_ _ | refine Fr.alloc ?_ _ | refine Fr.setL ?_ _ _ _ ?_) | (left; simp; done) | (right; first | (simp; done) | (simp; omega) | omega)); done)
      · simp only [nth]
        first | (unfold Is; rfl) | (unfold Any; exact trivial) | exact IsSl.new _ _ _ _ | assumption
    · intro ac wx hf hbs hs hp K hK
      simp only [zA, Region.binds, Nat.reduceAdd] at hp
      clear hs
      clear hbs
      obtain ⟨h11, h8⟩ := hp
      have hg8 := (getD_bool _ _).1 h8
      clear hf
      (try simp only [h11, h8, hg8])
      go_simp
      try dsimp only
      refine hK.out _ _ ?_ ?_
      · change Fr [] _ _
        (repeat (first | with_reducible (first | exact Fr.refl _ _ | assumption | refine Fr.drew ?_ | refine Fr.drewN ?_ _ | refine Fr.alloc ?_ _ | refine Fr.setL ?_ _ _ _ ?_) | (left; simp; done) | (right; first | (simp; done) | (simp; omega) | omega)); done)
      · simp only [nth]
        first | (unfold Is; rfl) | (unfold Any; exact trivial) | exact IsSl.new _ _ _ _ | assumption
    · intro ac wx hf hbs hs hp K hK
      simp only [zA, Region.binds, Nat.reduceAdd] at hp
      clear hs
      clear hbs
      obtain ⟨h12, h8⟩ := hp
      have hg8 := (getD_bool _ _).1 h8
      clear hf
      (try simp only [h12, h8, hg8])
      go_simp
      try dsimp only
      refine hK.out _ _ ?_ ?_
      · change Fr [] _ _
        (repeat (first | with_reducible (first | exact Fr.refl _ _ | assumption | refine Fr.drew ?_ | refine Fr.drewN ?_ _ | refine Fr.alloc ?_ _ | refine Fr.setL ?_ _ _ _ ?_) | (left; simp; done) | (right; first | (simp; done) | (simp; omega) | omega)); done)
      · simp only [nth]
        first | (unfold Is; rfl) | (unfold Any; exact trivial) | exact IsSl.new _ _ _ _ | assumption
    · intro ac wx hf hbs hs hp K hK
      simp only [zA, Region.binds, Nat.reduceAdd] at hp
      clear hs
      clear hbs
      obtain ⟨h13, h8⟩ := hp
      have hg8 := (getD_bool _ _).1 h8
      have cx := q7 wx hf
      clear hf
      (try simp only [h13, h8, hg8])
      go_simp
      try dsimp only
      refine hK.out _ _ ?_ ?_
      · change Fr [] _ _
        (repeat (first | with_reducible (first | exact Fr.refl _ _ | assumption | refine Fr.drew ?_ | refine Fr.drewN ?_ _ | refine Fr.alloc ?_ _ | refine Fr.setL ?_ _ _ _ ?_) | (left; simp; done) | (right; first | (simp; done) | (simp; omega) | omega)); done)
      · simp only [nth]
        first | (unfold Is; rfl) | (unfold Any; exact trivial) | exact IsSl.new _ _ _ _ | assumption
    · intro ac wx hf hbs hs hp K hK
      simp only [zA, Region.binds, Nat.reduceAdd] at hp
      clear hs
      clear hbs
      obtain ⟨h10, h14, h8⟩ := hp
      have hg8 := (getD_bool _ _).1 h8
      clear hf
      (try simp only [h10, h14, h8, hg8])
      go_simp
      try dsimp only
      refine hK.out _ _ ?_ ?_
      · change Fr [] _ _
        (repeat (first | with_reducible (first | exact Fr.refl _ _ | assumption | refine Fr.drew ?_ | refine Fr.drewN ?_ _ | refine Fr.alloc ?_ _ | refine Fr.setL ?_ _ _ _ ?_) | (left; simp; done) | (right; first | (simp; done) | (simp; omega) | omega)); done)
      · simp only [nth]
        first | (unfold Is; rfl) | (unfold Any; exact trivial) | exact IsSl.new _ _ _ _ | assumption
    · intro ac wx hf hbs hs hp K hK
      simp only [zA, Region.binds, Nat.reduceAdd] at hp
      clear hs
      clear hbs
      obtain ⟨h8, h15⟩ := hp
      clear hf
      (try simp only [h8, h15])
      go_simp
      try dsimp only
      refine hK.out _ _ ?_ ?_
      · change Fr [] _ _
        (repeat (first | with_reducible (first | exact Fr.refl _ _ | assumption | refine Fr.drew ?_ | refine Fr.drewN ?_ _ | refine Fr.alloc ?_ _ | refine Fr.setL ?_ _ _ _ ?_) | (left; simp; done) | (right; first | (simp; done) | (simp; omega) | omega)); done)
      · simp only [nth]
        first | (unfold Is; rfl) | (unfold Any; exact trivial) | exact IsSl.new _ _ _ _ | assumption
    · intro ac wx hf hbs hs hp K hK
      simp only [zA, Region.binds, Nat.reduceAdd] at hp
      clear hs
      clear hbs
      obtain ⟨h16, h8⟩ := hp
      clear hf
      (try simp only [h16, h8])
      go_simp
      try dsimp only
      refine hK.out _ _ ?_ ?_
      · change Fr [] _ _
        (repeat (first | with_reducible (first | exact Fr.refl _ _ | assumption | refine Fr.drew ?_ | refine Fr.drewN ?_ _ | refine Fr.alloc ?_ _ | refine Fr.setL ?_ _ _ _ ?_) | (left; simp; done) | (right; first | (simp; done) | (simp; omega) | omega)); done)
      · simp only [nth]
        first | (unfold Is; rfl) | (unfold Any; exact trivial) | exact IsSl.new _ _ _ _ | assumption
    · intro ac wx hf hbs hs hp K hK
      simp only [zA, Region.binds, Nat.reduceAdd] at hp
      have hs4 := hs 4 (by kernel_rfl)
      simp only [Array.getD_eq_getD_getElem?, List.getElem?_toArray, List.getElem?_cons_succ, List.getElem?_cons_zero, Option.getD_some] at hs4
      clear hs
      clear hbs
      have h17 := hp
      clear hp
      have hg17 := (getD_bool _ _).1 h17
      clear hf
      (try simp only [h17, hg17])
      go_simp
      try dsimp only
      refine hK.out _ _ ?_ ?_
      · change Fr [] _ _
        (repeat (first | with_reducible (first | exact Fr.refl _ _ | assumption | refine Fr.drew ?_ | refine Fr.drewN ?_ _ | refine Fr.alloc ?_ _ | refine Fr.setL ?_ _ _ _ ?_) | (left; simp; done) | (right; first | (simp; done) | (simp; omega) | omega)); done)
      · simp only [nth]
        first | (unfold Is; rfl) | (unfold Any; exact trivial) | exact IsSl.new _ _ _ _ | assumption
    · intro ac wx hf hbs hs hp K hK
      simp only [zA, Region.binds, Nat.reduceAdd] at hp
      clear hs
      clear hbs
      have h17 := hp
      clear hp
      have hg17 := (getD_bool _ _).1 h17
      clear hf
      (try simp only [h17, hg17])
      go_simp
      try dsimp only
      refine hK.out _ _ ?_ ?_
      · change Fr [] _ _
        (repeat (first | with_reducible (first | exact Fr.refl _ _ | assumption | refine Fr.drew ?_ | refine Fr.drewN ?_ _ | refine Fr.alloc ?_ _ | refine Fr.setL ?_ _ _ _ ?_) | (left; simp; done) | (right; first | (simp; done) | (simp; omega) | omega)); done)
      · simp only [nth]
        first | (unfold Is; rfl) | (unfold Any; exact trivial) | exact IsSl.new _ _ _ _ | assumption
    · intro ac wx hf hbs hs hp K hK
      simp only [zA, Region.binds, Nat.reduceAdd] at hp
      have hs0 := hs 0 (by kernel_rfl)
      simp only [Array.getD_eq_getD_getElem?, List.getElem?_toArray, List.getElem?_cons_succ, List.getElem?_cons_zero, Option.getD_some] at hs0
      clear hs
      clear hbs
      have h17 := hp
      clear hp
      have hg17 := (getD_bool _ _).1 h17
      clear hf
      (try simp only [h17, hg17])
      go_simp
      try dsimp only
      refine hK.out _ _ ?_ ?_
      · change Fr [] _ _
        (repeat (first | with_reducible (first | exact Fr.refl _ _ | assumption | refine Fr.drew ?_ | refine Fr.drewN ?_ _ | refine Fr.alloc ?_ _ | refine Fr.setL ?_ _ _ _ ?_) | (left; simp; done) | (right; first | (simp; done) | (simp; omega) | omega)); done)
      · simp only [nth]
        first | (unfold Is; rfl) | (unfold Any; exact trivial) | exact IsSl.new _ _ _ _ | assumption
    · intro ac wx hf hbs hs hp K hK
      simp only [zA, Region.binds, Nat.reduceAdd] at hp
      clear hs
      clear hbs
      have h17 := hp
      clear hp
      have hg17 := (getD_bool _ _).1 h17
      clear hf
      (try simp only [h17, hg17])
      go_simp
      try dsimp only
      refine hK.out _ _ ?_ ?_
      · change Fr [] _ _
        (repeat (first | with_reducible (first | exact Fr.refl _ _ | assumption | refine Fr.drew ?_ | refine Fr.drewN ?_ _ | refine Fr.alloc ?_ _ | refine Fr.setL ?_ _ _ _ ?_) | (left; simp; done) | (right; first | (simp; done) | (simp; omega) | omega)); done)
      · simp only [nth]
        first | (unfold Is; rfl) | (unfold Any; exact trivial) | exact IsSl.new _ _ _ _ | assumption
    · intro ac wx hf hbs hs hp K hK
      simp only [zA, Region.binds, Nat.reduceAdd] at hp
      clear hs
      clear hbs
      have h17 := hp
      clear hp
      have hg17 := (getD_bool _ _).1 h17
      clear hf
      (try simp only [h17, hg17])
      go_simp
      try dsimp only
      refine hK.out _ _ ?_ ?_
      · change Fr [] _ _
        (repeat (first | with_reducible (first | exact Fr.refl _ _ | assumption | refine Fr.drew ?_ | refine Fr.drewN ?_ _ | refine Fr.alloc ?_ _ | refine Fr.setL ?_ _ _ _ ?_) | (left; simp; done) | (right; first | (simp; done) | (simp; omega) | omega)); done)
      · simp only [nth]
        first | (unfold Is; rfl) | (unfold Any; exact trivial) | exact IsSl.new _ _ _ _ | assumption
    · intro ac wx hf hbs hs hp K hK
      simp only [zA, Region.binds, Nat.reduceAdd] at hp
      clear hs
      clear hbs
      have h17 := hp
      clear hp
      have hg17 := (getD_bool _ _).1 h17
      clear hf
      (try simp only [h17, hg17])
      go_simp
      try dsimp only
      refine hK.out _ _ ?_ ?_
      · change Fr [] _ _
        (repeat (first | with_reducible (first | exact Fr.refl _ _ | assumption | refine Fr.drew ?_ | refine Fr.drewN ?_ _ | refine Fr.alloc ?_ _ | refine Fr.setL ?_ _ _ _ ?_) | (left; simp; done) | (right; first | (simp; done) | (simp; omega) | omega)); done)
      · simp only [nth]
        first | (unfold Is; rfl) | (unfold Any; exact trivial) | exact IsSl.new _ _ _ _ | assumption
    · intro ac wx hf hbs hs hp K hK
      simp only [zA, Region.binds, Nat.reduceAdd] at hp
      clear hs
      clear hbs
      have h17 := hp
      clear hp
      have hg17 := (getD_bool _ _).1 h17
      clear hf
      (try simp only [h17, hg17])
      go_simp
      try dsimp only
      refine hK.out _ _ ?_ ?_
      · change Fr [] _ _
        (repeat (first | with_reducible (first | exact Fr.refl _ _ | assumption | refine Fr.drew ?_ | refine Fr.drewN ?_ _ | refine Fr.alloc ?_ _ | refine Fr.setL ?_ _ _ _ ?_) | (left; simp; done) | (right; first | (simp; done) | (simp; omega) | omega)); done)
      · simp only [nth]
        first | (unfold Is; rfl) | (unfold Any; exact trivial) | exact IsSl.new _ _ _ _ | assumption
    · intro ac wx hf hbs hs hp K hK
      simp only [zA, Region.binds, Nat.reduceAdd] at hp
      clear hs
      clear hbs
      have h17 := hp
      clear hp
      clear hf
      (try simp only [h17])
      go_simp
      try dsimp only
      refine hK.out _ _ ?_ ?_
      · change Fr [] _ _
        (repeat (first | with_reducible (first | exact Fr.refl _ _ | assumption | refine Fr.drew ?_ | refine Fr.drewN ?_ _ | refine Fr.alloc ?_ _ | refine Fr.setL ?_ _ _ _ ?_) | (left; simp; done) | (right; first | (simp; done) | (simp; omega) | omega)); done)
      · simp only [nth]
        first | (unfold Is; rfl) | (unfold Any; exact trivial) | exact IsSl.new _ _ _ _ | assumption
  case hD =>
    intro xv wx hf hp
    simp only [List.take_succ_cons, List.take_zero, List.drop_succ_cons, List.drop_zero, fill, List.setIfInBounds_toArray, List.set_cons_zero, List.set_cons_succ, Nat.reduceAdd, Act.put]
    rw [show live 26 (deadC [none, none, none, none, none, none, none, none, none, none, none, none, none, none, none, none, none, none, none, none, none, none, none, none, none, none]) = [0, 1, 2, 3, 4, 5, 6, 7, 8, 9, 10, 11, 12, 13, 14, 15, 16, 17, 18, 19, 20, 21, 22, 23, 24, 25] from by decide] at hp
    simp only [holds, nth, Is, Any, true_and, and_true] at hp
    obtain ⟨p0, p1, p2, p3, p4, p5, p6, p7, p8, p9, p10, p11, p12, p13, p14, p15, p16, p17, p25⟩ := hp
    have hbz2 := HBZ.out.1.fr hf (by simp)
    have HF := Lib.hid (HBZ.out.2.tr hf)
    have g0 := hbz2.cell 0 rfl
    have g1 := hbz2.cell 1 rfl
    have g2 := hbz2.cell 2 rfl
    have g3 := hbz2.cell 3 rfl
    have x0 := hbz2.free 0
    have x1 := hbz2.free 1
    have x2 := hbz2.free 2
    have x3 := hbz2.free 3
    simp only [List.getElem_toArray, List.getElem_cons_zero, List.getElem_cons_succ] at g0 g1 g2 g3
    have hlz : w.heap.size ≤ P + 1 := by have := HPZ.out; omega
    have hbf : Fr [] w ((((wx.setCell ⟨P + 1, 0, none⟩ (.slice none 0 0)).setCell ⟨P + 1, 1, none⟩ (.slice none 0 0)).setCell ⟨P + 1, 2, none⟩ (.slice none 0 0)).setCell ⟨P + 1, 3, none⟩ (.bool false)) :=
      (((HF.out.setCell _ (.inr hlz)).setCell _ (.inr hlz)).setCell _ (.inr hlz)).setCell _ (.inr hlz)
    have hb5 : Blk ((((wx.setCell ⟨P + 1, 0, none⟩ (.slice none 0 0)).setCell ⟨P + 1, 1, none⟩ (.slice none 0 0)).setCell ⟨P + 1, 2, none⟩ (.slice none 0 0)).setCell ⟨P + 1, 3, none⟩ (.bool false)) (P + 1) #[.slice none 0 0, .slice none 0 0, .slice none 0 0, .bool false] 36 :=
      Blk.set (Blk.set (Blk.set (Blk.set hbz2 0 _ rfl) 1 _ rfl) 2 _ rfl) 3 _ rfl
    have HFIN := Lib.hid (And.intro hbf hb5)
    simp only [p25]
    clear hbz2 hf hbf hb5 p0 p1 p2 p3 p4 p5 p6 p7 p8 p9 p10 p11 p12 p13 p14 p15 p16 p17 k0 k1 k2 k3 k4 k5 k6 k7 k8 q6 q7
    go_wp2
    have y0 := HFIN.out.2.cell 0 rfl
    have y1 := HFIN.out.2.cell 1 rfl
    have y2 := HFIN.out.2.cell 2 rfl
    have y3 := HFIN.out.2.cell 3 rfl
    simp only [List.getElem_toArray, List.getElem_cons_zero, List.getElem_cons_succ] at y0 y1 y2 y3
    exact bodyPost_ret (v := .agg #[.slice none 0 0, .slice none 0 0, .slice none 0 0, .bool false]) (by simp [results, Tryz.results22, go_sem, y0, y1, y2, y3]) rfl ⟨rfl, HFIN.out.1⟩

set_option maxHeartbeats 2000000 in
theorem hear_no2 (w : World) (v : TV) (m : TM) (d : PD) (s : Sl) (y : Value) (h : IsTie w v m) (hn : s.n = d.info.length) (ht : typM d = 2) (hfr : d.fr = m.there) (hto : d.to ≠ m.near) :
    Calls Tryz.prog 22 #[.pointer (some ⟨v.t, 0, none⟩), d.val s, y] w fun e w' => e = .returned (.agg #[.slice none 0 0, .slice none 0 0, .slice none 0 0, .bool false]) ∧ Fr [] w w' := by
  have hty : ∀ wx, Calls Tryz.prog 58 #[d.val s] wx fun e w' => e = .returned (.int .i64 2) ∧ Fr [] wx w' := fun wx => by have := tell_Type d s wx hn; rw [ht] at this; exact this
  clear ht
  have efr : (d.fr != m.there) = false := by simp [bne, hfr]
  have eto : (d.to != m.near) = true := bne_iff_ne.2 hto
  clear hfr hto
  obtain ⟨w1, hw1⟩ : ∃ w1, (w.alloc (.cells (d.arr s) 52)).alloc (.cells #[.slice none 0 0, .slice none 0 0, .slice none 0 0, .bool false] 36) = w1 := ⟨_, rfl⟩
  obtain ⟨P, hP⟩ : ∃ P, w.heap.size = P := ⟨_, rfl⟩
  have hbp : Blk w1 P (d.arr s) 52 := by rw [← hw1, ← hP]; exact (Blk.new w _ _).alloc _
  have hbz : Blk w1 (P + 1) #[.slice none 0 0, .slice none 0 0, .slice none 0 0, .bool false] 36 := by
    have := Blk.new (w.alloc (.cells (d.arr s) 52)) #[.slice none 0 0, .slice none 0 0, .slice none 0 0, .bool false] 36
    rw [World.size_alloc, hw1, hP] at this
    exact this
  have f0 : Fr [] w w1 := by rw [← hw1]; exact ((Fr.refl [] w).alloc _).alloc _
  have h0 := h.fr0 f0
  have hlt : ∀ x ∈ v.foot, x < P := by rw [← hP]; exact h.lt
  have hile : v.hi ≤ P := by rw [← hP]; exact h.hile
  have HPZ := Lib.hid hP
  have k0 : ∀ wx, Fr [] w1 wx → wx.cell? ⟨P, 0, none⟩ = some (.int .i64 d.to) := fun wx hf => hf.cell (hbp.cell 0 rfl) (by simp)
  have k1 : ∀ wx, Fr [] w1 wx → wx.cell? ⟨P, 1, none⟩ = some (.int .i64 d.fr) := fun wx hf => hf.cell (hbp.cell 1 rfl) (by simp)
  have k2 : ∀ wx, Fr [] w1 wx → wx.cell? ⟨P, 2, none⟩ = some (.bool d.rs) := fun wx hf => hf.cell (hbp.cell 2 rfl) (by simp)
  have k3 : ∀ wx, Fr [] w1 wx → wx.cell? ⟨P, 3, none⟩ = some (.int .i64 d.fm) := fun wx hf => hf.cell (hbp.cell 3 rfl) (by simp)
  have k4 : ∀ wx, Fr [] w1 wx → wx.cell? ⟨P, 4, none⟩ = some (.int .i64 d.kd) := fun wx hf => hf.cell (hbp.cell 4 rfl) (by simp)
  have k5 : ∀ wx, Fr [] w1 wx → wx.cell? ⟨P, 5, none⟩ = some (.int .i64 d.ns) := fun wx hf => hf.cell (hbp.cell 5 rfl) (by simp)
  have k6 : ∀ wx, Fr [] w1 wx → wx.cell? ⟨P, 6, none⟩ = some (.int .i64 d.nr) := fun wx hf => hf.cell (hbp.cell 6 rfl) (by simp)
  have k7 : ∀ wx, Fr [] w1 wx → wx.cell? ⟨P, 7, none⟩ = some (.bool d.po) := fun wx hf => hf.cell (hbp.cell 7 rfl) (by simp)
  have k8 : ∀ wx, Fr [] w1 wx → wx.cell? ⟨P, 8, none⟩ = some (.slice s.A s.n s.c) := fun wx hf => hf.cell (hbp.cell 8 rfl) (by simp)
  have q6 : ∀ wx, Fr [] w1 wx → wx.cell? ⟨v.t, 6, none⟩ = some (.int .i64 m.near) := fun wx hf => hf.cell h0.c6 (by simp)
  have q7 : ∀ wx, Fr [] w1 wx → wx.cell? ⟨v.t, 7, none⟩ = some (.int .i64 m.there) := fun wx hf => hf.cell h0.c7 (by simp)
  have H := Lib.hid h0
  have HBZ := Lib.hid (And.intro hbz f0)
  have HS := Lib.hid hn
  clear h f0 h0 hlt hile hbp hbz hn
  have HTY := Lib.hid hty
  clear hty
  go_enter Tryz.func22, Tryz.ntmps22
  go_wp2_with fail
  clear hw1 hP
  refine wp_region_keepsC [] [false, false, false, false, false, false, false, false, false, false, false, false, false, false, false, false, false, false, false, false, false, false, false, false, false, false] [none, none, none, none, none, none, none, none, none, none, none, none, none, none, none, none, none, none, none, none, none, none, none, none, none, none] (fun _ => True) [Is (.pointer (some ⟨v.t, 0, none⟩)), Is (.bool true), Is (.bool false), Is (.bool false), Is (.agg #[.int .i64 d.to, .int .i64 d.fr, .bool d.rs, .int .i64 d.fm, .int .i64 d.kd, .int .i64 d.ns, .int .i64 d.nr, .bool d.po, .slice s.A s.n s.c]), Is (.int .i64 2), Is (.bool false), Is (.bool false), Is (.bool false), Is (.pointer (some ⟨P, 1, none⟩)), Is (.int .i64 d.fr), Is (.pointer (some ⟨v.t, 0, none⟩)), Is (.pointer (some ⟨v.t, 0, none⟩)), Is (.pointer (some ⟨v.t, 7, none⟩)), Is (.int .i64 m.there), Is (.bool false), Is (.bool false), Is (.bool false), Is (.pointer (some ⟨P, 0, none⟩)), Is (.int .i64 d.to), Is (.pointer (some ⟨v.t, 0, none⟩)), Is (.pointer (some ⟨v.t, 0, none⟩)), Is (.pointer (some ⟨v.t, 6, none⟩)), Is (.int .i64 m.near), Is (.bool true), Is (.bool true)] 26 (by kernel_rfl) (by kernel_rfl) (by kernel_rfl) (by kernel_rfl) (by kernel_rfl) (by kernel_rfl) (by kernel_rfl) (by kernel_rfl) ?hV (fun _ _ _ h => h) trivial ?hS ?hD
  case hV =>
    repeat (first | exact trivial | exact Is.keepsN _ | exact Any.keepsN | refine And.intro ?_ ?_)
  case hS =>
    (repeat' (first | exact trivial | refine And.intro ?_ ?_))
    · intro ac wx hf hbs hs hp K hK
      simp only [zA, Region.binds, Nat.reduceAdd] at hp
      have hs0 := hs 0 (by kernel_rfl)
      simp only [Array.getD_eq_getD_getElem?, List.getElem?_toArray, List.getElem?_cons_succ, List.getElem?_cons_zero, Option.getD_some] at hs0
      clear hs
      clear hbs
      clear hp
      clear hf
      go_simp
      try dsimp only
      refine hK.out _ _ ?_ ?_
      · change Fr [] _ _
        (repeat (first | with_reducible (first | exact Fr.refl _ _ | assumption | refine Fr.drew ?_ | refine Fr.drewN ?_ _ | refine Fr.alloc ?_ _ | refine Fr.setL ?_ _ _ _ ?_) | (left; simp; done) | (right; first | (simp; done) | (simp; omega) | omega)); done)
      · simp only [nth]
        first | (unfold Is; rfl) | (unfold Any; exact trivial) | exact IsSl.new _ _ _ _ | assumption
    · intro ac wx hf hbs hs hp K hK
      simp only [zA, Region.binds, Nat.reduceAdd] at hp
      clear hs
      clear hbs
      have h0 := hp
      clear hp
      (try simp only [h0])
      go_simp
      go_at_call 45
      refine (tie_made _ v m (H.out.fr0 hf)).mono ?_
      rintro e w' ⟨rfl, rfl⟩
      try dsimp only
      refine hK.out _ _ ?_ ?_
      · change Fr [] _ _
        (repeat (first | with_reducible (first | exact Fr.refl _ _ | assumption | refine Fr.drew ?_ | refine Fr.drewN ?_ _ | refine Fr.alloc ?_ _ | refine Fr.setL ?_ _ _ _ ?_) | (left; simp; done) | (right; first | (simp; done) | (simp; omega) | omega)); done)
      · simp only [nth]
        first | (unfold Is; rfl) | (unfold Any; exact trivial) | exact IsSl.new _ _ _ _ | assumption
    · intro ac wx hf hbs hs hp K hK
      simp only [zA, Region.binds, Nat.reduceAdd] at hp
      clear hs
      clear hbs
      have h1 := hp
      clear hp
      clear hf
      (try simp only [h1])
      go_simp
      try dsimp only
      refine hK.out _ _ ?_ ?_
      · change Fr [] _ _
        (repeat (first | with_reducible (first | exact Fr.refl _ _ | assumption | refine Fr.drew ?_ | refine Fr.drewN ?_ _ | refine Fr.alloc ?_ _ | refine Fr.setL ?_ _ _ _ ?_) | (left; simp; done) | (right; first | (simp; done) | (simp; omega) | omega)); done)
      · simp only [nth]
        first | (unfold Is; rfl) | (unfold Any; exact trivial) | exact IsSl.new _ _ _ _ | assumption
    · intro ac wx hf hbs hs hp K hK
      simp only [zA, Region.binds, Nat.reduceAdd] at hp
      clear hs
      clear hbs
      obtain ⟨h2, h1⟩ := hp
      clear hf
      (try simp only [h2, h1])
      go_simp
      try dsimp only
      refine hK.out _ _ ?_ ?_
      · change Fr [] _ _
        (repeat (first | with_reducible (first | exact Fr.refl _ _ | assumption | refine Fr.drew ?_ | refine Fr.drewN ?_ _ | refine Fr.alloc ?_ _ | refine Fr.setL ?_ _ _ _ ?_) | (left; simp; done) | (right; first | (simp; done) | (simp; omega) | omega)); done)
      · simp only [nth]
        first | (unfold Is; rfl) | (unfold Any; exact trivial) | exact IsSl.new _ _ _ _ | assumption
    · intro ac wx hf hbs hs hp K hK
      simp only [zA, Region.binds, Nat.reduceAdd] at hp
      have hs4 := hs 4 (by kernel_rfl)
      simp only [Array.getD_eq_getD_getElem?, List.getElem?_toArray, List.getElem?_cons_succ, List.getElem?_cons_zero, Option.getD_some] at hs4
      clear hs
      clear hbs
      have h3 := hp
      clear hp
      have hg3 := (getD_bool _ _).1 h3
      have cx0 := k0 wx hf
      have cx1 := k1 wx hf
      have cx2 := k2 wx hf
      have cx3 := k3 wx hf
      have cx4 := k4 wx hf
      have cx5 := k5 wx hf
      have cx6 := k6 wx hf
      have cx7 := k7 wx hf
      have cx8 := k8 wx hf
      clear hf
      (try simp only [h3, hg3])
      go_simp
      try dsimp only
      refine hK.out _ _ ?_ ?_
      · change Fr [] _ _
        (repeat (first | with_reducible (first | exact Fr.refl _ _ | assumption | refine Fr.drew ?_ | refine Fr.drewN ?_ _ | refine Fr.alloc ?_ _ | refine Fr.setL ?_ _ _ _ ?_) | (left; simp; done) | (right; first | (simp; done) | (simp; omega) | omega)); done)
      · simp only [nth]
        first | (unfold Is; rfl) | (unfold Any; exact trivial) | exact IsSl.new _ _ _ _ | assumption
    · intro ac wx hf hbs hs hp K hK
      simp only [zA, Region.binds, Nat.reduceAdd] at hp
      clear hs
      clear hbs
      obtain ⟨h4, h3, h3_2⟩ := hp
      have hg3 := (getD_bool _ _).1 h3
      (try simp only [h4, h3, hg3])
      go_simp
      go_at_call 58
      refine (HTY.out wx).mono ?_
      rintro e w' ⟨rfl, fz⟩
      exact hK.out _ _ fz rfl
    · intro ac wx hf hbs hs hp K hK
      simp only [zA, Region.binds, Nat.reduceAdd] at hp
      clear hs
      clear hbs
      obtain ⟨h5, h3⟩ := hp
      have hg3 := (getD_bool _ _).1 h3
      clear hf
      (try simp only [h5, h3, hg3])
      go_simp
      try dsimp only
      refine hK.out _ _ ?_ ?_
      · change Fr [] _ _
        (repeat (first | with_reducible (first | exact Fr.refl _ _ | assumption | refine Fr.drew ?_ | refine Fr.drewN ?_ _ | refine Fr.alloc ?_ _ | refine Fr.setL ?_ _ _ _ ?_) | (left; simp; done) | (right; first | (simp; done) | (simp; omega) | omega)); done)
      · simp only [nth]
        first | (unfold Is; rfl) | (unfold Any; exact trivial) | exact IsSl.new _ _ _ _ | assumption
    · intro ac wx hf hbs hs hp K hK
      simp only [zA, Region.binds, Nat.reduceAdd] at hp
      clear hs
      clear hbs
      obtain ⟨h3, h6⟩ := hp
      clear hf
      (try simp only [h3, h6])
      go_simp
      try dsimp only
      refine hK.out _ _ ?_ ?_
      · change Fr [] _ _
        (repeat (first | with_reducible (first | exact Fr.refl _ _ | assumption | refine Fr.drew ?_ | refine Fr.drewN ?_ _ | refine Fr.alloc ?_ _ | refine Fr.setL ?_ _ _ _ ?_) | (left; simp; done) | (right; first | (simp; done) | (simp; omega) | omega)); done)
      · simp only [nth]
        first | (unfold Is; rfl) | (unfold Any; exact trivial) | exact IsSl.new _ _ _ _ | assumption
    · intro ac wx hf hbs hs hp K hK
      simp only [zA, Region.binds, Nat.reduceAdd] at hp
      clear hs
      clear hbs
      obtain ⟨h7, h5⟩ := hp
      clear hf
      (try simp only [h7, h5])
      go_simp
      try dsimp only
      refine hK.out _ _ ?_ ?_
      · change Fr [] _ _
        (repeat (first | with_reducible (first | exact Fr.refl _ _ | assumption | refine Fr.drew ?_ | refine Fr.drewN ?_ _ | refine Fr.alloc ?_ _ | refine Fr.setL ?_ _ _ _ ?_) | (left; simp; done) | (right; first | (simp; done) | (simp; omega) | omega)); done)
      · simp only [nth]
        first | (unfold Is; rfl) | (unfold Any; exact trivial) | exact IsSl.new _ _ _ _ | assumption
    · intro ac wx hf hbs hs hp K hK
      simp only [zA, Region.binds, Nat.reduceAdd] at hp
      have hs4 := hs 4 (by kernel_rfl)
      simp only [Array.getD_eq_getD_getElem?, List.getElem?_toArray, List.getElem?_cons_succ, List.getElem?_cons_zero, Option.getD_some] at hs4
      clear hs
      clear hbs
      have h8 := hp
      clear hp
      have hg8 := (getD_bool _ _).1 h8
      clear hf
      (try simp only [h8, hg8])
      go_simp
      try dsimp only
      refine hK.out _ _ ?_ ?_
      · change Fr [] _ _
        (repeat (first | with_reducible (first | exact Fr.refl _ _ | assumption | refine Fr.drew ?_ | refine Fr.drewN ?_ _ | refine Fr.alloc ?_ _ | refine Fr.setL ?_ _ _ _ ?_) | (left; simp; done) | (right; first | (simp; done) | (simp; omega) | omega)); done)
      · simp only [nth]
        first | (unfold Is; rfl) | (unfold Any; exact trivial) | exact IsSl.new _ _ _ _ | assumption
    · intro ac wx hf hbs hs hp K hK
      simp only [zA, Region.binds, Nat.reduceAdd] at hp
      clear hs
      clear hbs
      obtain ⟨h9, h8⟩ := hp
      have hg8 := (getD_bool _ _).1 h8
      have cx := k1 wx hf
      clear hf
      (try simp only [h9, h8, hg8])
      go_simp
      try dsimp only
      refine hK.out _ _ ?_ ?_
      · change Fr [] _ _
        (repeat (first | with_reducible (first | exact Fr.refl _ _ | assumption | refine Fr.drew ?_ | refine Fr.drewN ?_ _ | refine Fr.alloc ?_ _ | refine Fr.setL ?_ _ _ _ ?_) | (left; simp; done) | (right; first | (simp; done) | (simp; omega) | omega)); done)
      · simp only [nth]
        first | (unfold Is; rfl) | (unfold Any; exact trivial) | exact IsSl.new _ _ _ _ | assumption
    · intro ac wx hf hbs hs hp K hK
      simp only [zA, Region.binds, Nat.reduceAdd] at hp
      have hs0 := hs 0 (by kernel_rfl)
      simp only [Array.getD_eq_getD_getElem?, List.getElem?_toArray, List.getElem?_cons_succ, List.getElem?_cons_zero, Option.getD_some] at hs0
      clear hs
      clear hbs
      have h8 := hp
      clear hp
      have hg8 := (getD_bool _ _).1 h8
      clear hf
      (try simp only [h8, hg8])
      go_simp
      try dsimp only
      refine hK.out _ _ ?_ ?_
      · change Fr [] _ _
        (repeat (first | with_reducible (first | exact Fr.refl _ _ | assumption | refine Fr.drew ?_ | refine Fr.drewN ?_ _ | refine Fr.alloc ?_ _ | refine Fr.setL ?_ _ _ _ ?_) | (left; simp; done) | (right; first | (simp; done) | (simp; omega) | omega)); done)
      · simp only [nth]
        first | (unfold Is; rfl) | (unfold Any; exact trivial) | exact IsSl.new _ _ _ _ | assumption
    · intro ac wx hf hbs hs hp K hK
      simp only [zA, Region.binds, Nat.reduceAdd] at hp
      clear hs
      clear hbs
      obtain ⟨h11, h8⟩ := hp
      have hg8 := (getD_bool _ _).1 h8
      clear hf
      (try simp only [h11, h8, hg8])
      go_simp
      try dsimp only
      refine hK.out _ _ ?_ ?_
      · change Fr [] _ _
        (repeat (first | with_reducible (first | exact Fr.refl _ _ | assumption | refine Fr.drew ?_ | refine Fr.drewN ?_ _ | refine Fr.alloc ?_ _ | refine Fr.setL ?_ _ _ _ ?_) | (left; simp; done) | (right; first | (simp; done) | (simp; omega) | omega)); done)
      · simp only [nth]
        first | (unfold Is; rfl) | (unfold Any; exact trivial) | exact IsSl.new _ _ _ _ | assumption
    · intro ac wx hf hbs hs hp K hK
      simp only [zA, Region.binds, Nat.reduceAdd] at hp
      clear hs
      clear hbs
      obtain ⟨h12, h8⟩ := hp
      have hg8 := (getD_bool _ _).1 h8
      clear hf
      (try simp only [h12, h8, hg8])
      go_simp
      try dsimp only
      refine hK.out _ _ ?_ ?_
      · change Fr [] _ _
        (repeat (first | with_reducible (first | exact Fr.refl _ _ | assumption | refine Fr.drew ?_ | refine Fr.drewN ?_ _ | refine Fr.alloc ?_ _ | refine Fr.setL ?_ _ _ _ ?_) | (left; simp; done) | (right; first | (simp; done) | (simp; omega) | omega)); done)
      · simp only [nth]
        first | (unfold Is; rfl) | (unfold Any; exact trivial) | exact IsSl.new _ _ _ _ | assumption
    · intro ac wx hf hbs hs hp K hK
      simp only [zA, Region.binds, Nat.reduceAdd] at hp
      clear hs
      clear hbs
      obtain ⟨h13, h8⟩ := hp
      have hg8 := (getD_bool _ _).1 h8
      have cx := q7 wx hf
      clear hf
      (try simp only [h13, h8, hg8])
      go_simp
      try dsimp only
      refine hK.out _ _ ?_ ?_
      · change Fr [] _ _
        (repeat (first | with_reducible (first | exact Fr.refl _ _ | assumption | refine Fr.drew ?_ | refine Fr.drewN ?_ _ | refine Fr.alloc ?_ _ | refine Fr.setL ?_ _ _ _ ?_) | (left; simp; done) | (right; first | (simp; done) | (simp; omega) | omega)); done)
      · simp only [nth]
        first | (unfold Is; rfl) | (unfold Any; exact trivial) | exact IsSl.new _ _ _ _ | assumption
    · intro ac wx hf hbs hs hp K hK
      simp only [zA, Region.binds, Nat.reduceAdd] at hp
      clear hs
      clear hbs
      obtain ⟨h10, h14, h8⟩ := hp
      have hg8 := (getD_bool _ _).1 h8
      clear hf
      (try simp only [h10, h14, h8, hg8])
      go_simp
      try dsimp only
      refine hK.out _ _ ?_ ?_
      · change Fr [] _ _
        (repeat (first | with_reducible (first | exact Fr.refl _ _ | assumption | refine Fr.drew ?_ | refine Fr.drewN ?_ _ | refine Fr.alloc ?_ _ | refine Fr.setL ?_ _ _ _ ?_) | (left; simp; done) | (right; first | (simp; done) | (simp; omega) | omega)); done)
      · simp only [nth]
        first | (unfold Is; rfl) | (unfold Any; exact trivial) | exact IsSl.new _ _ _ _ | assumption
    · intro ac wx hf hbs hs hp K hK
      simp only [zA, Region.binds, Nat.reduceAdd] at hp
      clear hs
      clear hbs
      obtain ⟨h8, h15⟩ := hp
      clear hf
      (try simp only [h8, h15])
      go_simp
      try dsimp only
      refine hK.out _ _ ?_ ?_
      · change Fr [] _ _
        (repeat (first | with_reducible (first | exact Fr.refl _ _ | assumption | refine Fr.drew ?_ | refine Fr.drewN ?_ _ | refine Fr.alloc ?_ _ | refine Fr.setL ?_ _ _ _ ?_) | (left; simp; done) | (right; first | (simp; done) | (simp; omega) | omega)); done)
      · simp only [nth]
        first | (unfold Is; rfl) | (unfold Any; exact trivial) | exact IsSl.new _ _ _ _ | assumption
    · intro ac wx hf hbs hs hp K hK
      simp only [zA, Region.binds, Nat.reduceAdd] at hp
      clear hs
      clear hbs
      obtain ⟨h16, h8⟩ := hp
      clear hf
      (try simp only [h16, h8])
      go_simp
      try dsimp only
      refine hK.out _ _ ?_ ?_
      · change Fr [] _ _
        (repeat (first | with_reducible (first | exact Fr.refl _ _ | assumption | refine Fr.drew ?_ | refine Fr.drewN ?_ _ | refine Fr.alloc ?_ _ | refine Fr.setL ?_ _ _ _ ?_) | (left; simp; done) | (right; first | (simp; done) | (simp; omega) | omega)); done)
      · simp only [nth]
        first | (unfold Is; rfl) | (unfold Any; exact trivial) | exact IsSl.new _ _ _ _ | assumption
    · intro ac wx hf hbs hs hp K hK
      simp only [zA, Region.binds, Nat.reduceAdd] at hp
      have hs4 := hs 4 (by kernel_rfl)
      simp only [Array.getD_eq_getD_getElem?, List.getElem?_toArray, List.getElem?_cons_succ, List.getElem?_cons_zero, Option.getD_some] at hs4
      clear hs
      clear hbs
      have h17 := hp
      clear hp
      have hg17 := (getD_bool _ _).1 h17
      clear hf
      (try simp only [h17, hg17])
      go_simp
      try dsimp only
      refine hK.out _ _ ?_ ?_
      · change Fr [] _ _
        (repeat (first | with_reducible (first | exact Fr.refl _ _ | assumption | refine Fr.drew ?_ | refine Fr.drewN ?_ _ | refine Fr.alloc ?_ _ | refine Fr.setL ?_ _ _ _ ?_) | (left; simp; done) | (right; first | (simp; done) | (simp; omega) | omega)); done)
      · simp only [nth]
        first | (unfold Is; rfl) | (unfold Any; exact trivial) | exact IsSl.new _ _ _ _ | assumption
    · intro ac wx hf hbs hs hp K hK
      simp only [zA, Region.binds, Nat.reduceAdd] at hp
      clear hs
      clear hbs
      obtain ⟨h18, h17⟩ := hp
      have hg17 := (getD_bool _ _).1 h17
      have cx := k0 wx hf
      clear hf
      (try simp only [h18, h17, hg17])
      go_simp
      try dsimp only
      refine hK.out _ _ ?_ ?_
      · change Fr [] _ _
        (repeat (first | with_reducible (first | exact Fr.refl _ _ | assumption | refine Fr.drew ?_ | refine Fr.drewN ?_ _ | refine Fr.alloc ?_ _ | refine Fr.setL ?_ _ _ _ ?_) | (left; simp; done) | (right; first | (simp; done) | (simp; omega) | omega)); done)
      · simp only [nth]
        first | (unfold Is; rfl) | (unfold Any; exact trivial) | exact IsSl.new _ _ _ _ | assumption
    · intro ac wx hf hbs hs hp K hK
      simp only [zA, Region.binds, Nat.reduceAdd] at hp
      have hs0 := hs 0 (by kernel_rfl)
      simp only [Array.getD_eq_getD_getElem?, List.getElem?_toArray, List.getElem?_cons_succ, List.getElem?_cons_zero, Option.getD_some] at hs0
      clear hs
      clear hbs
      have h17 := hp
      clear hp
      have hg17 := (getD_bool _ _).1 h17
      clear hf
      (try simp only [h17, hg17])
      go_simp
      try dsimp only
      refine hK.out _ _ ?_ ?_
      · change Fr [] _ _
        (repeat (first | with_reducible (first | exact Fr.refl _ _ | assumption | refine Fr.drew ?_ | refine Fr.drewN ?_ _ | refine Fr.alloc ?_ _ | refine Fr.setL ?_ _ _ _ ?_) | (left; simp; done) | (right; first | (simp; done) | (simp; omega) | omega)); done)
      · simp only [nth]
        first | (unfold Is; rfl) | (unfold Any; exact trivial) | exact IsSl.new _ _ _ _ | assumption
    · intro ac wx hf hbs hs hp K hK
      simp only [zA, Region.binds, Nat.reduceAdd] at hp
      clear hs
      clear hbs
      obtain ⟨h20, h17⟩ := hp
      have hg17 := (getD_bool _ _).1 h17
      clear hf
      (try simp only [h20, h17, hg17])
      go_simp
      try dsimp only
      refine hK.out _ _ ?_ ?_
      · change Fr [] _ _
        (repeat (first | with_reducible (first | exact Fr.refl _ _ | assumption | refine Fr.drew ?_ | refine Fr.drewN ?_ _ | refine Fr.alloc ?_ _ | refine Fr.setL ?_ _ _ _ ?_) | (left; simp; done) | (right; first | (simp; done) | (simp; omega) | omega)); done)
      · simp only [nth]
        first | (unfold Is; rfl) | (unfold Any; exact trivial) | exact IsSl.new _ _ _ _ | assumption
    · intro ac wx hf hbs hs hp K hK
      simp only [zA, Region.binds, Nat.reduceAdd] at hp
      clear hs
      clear hbs
      obtain ⟨h21, h17⟩ := hp
      have hg17 := (getD_bool _ _).1 h17
      clear hf
      (try simp only [h21, h17, hg17])
      go_simp
      try dsimp only
      refine hK.out _ _ ?_ ?_
      · change Fr [] _ _
        (repeat (first | with_reducible (first | exact Fr.refl _ _ | assumption | refine Fr.drew ?_ | refine Fr.drewN ?_ _ | refine Fr.alloc ?_ _ | refine Fr.setL ?_ _ _ _ ?_) | (left; simp; done) | (right; first | (simp; done) | (simp; omega) | omega)); done)
      · simp only [nth]
        first | (unfold Is; rfl) | (unfold Any; exact trivial) | exact IsSl.new _ _ _ _ | assumption
    · intro ac wx hf hbs hs hp K hK
      simp only [zA, Region.binds, Nat.reduceAdd] at hp
      clear hs
      clear hbs
      obtain ⟨h22, h17⟩ := hp
      have hg17 := (getD_bool _ _).1 h17
      have cx := q6 wx hf
      clear hf
      (try simp only [h22, h17, hg17])
      go_simp
      try dsimp only
      refine hK.out _ _ ?_ ?_
      · change Fr [] _ _
        (repeat (first | with_reducible (first | exact Fr.refl _ _ | assumption | refine Fr.drew ?_ | refine Fr.drewN ?_ _ | refine Fr.alloc ?_ _ | refine Fr.setL ?_ _ _ _ ?_) | (left; simp; done) | (right; first | (simp; done) | (simp; omega) | omega)); done)
      · simp only [nth]
        first | (unfold Is; rfl) | (unfold Any; exact trivial) | exact IsSl.new _ _ _ _ | assumption
    · intro ac wx hf hbs hs hp K hK
      simp only [zA, Region.binds, Nat.reduceAdd] at hp
      clear hs
      clear hbs
      obtain ⟨h19, h23, h17⟩ := hp
      have hg17 := (getD_bool _ _).1 h17
      clear hf
      (try simp only [h19, h23, h17, hg17])
      go_simp
      try dsimp only
      refine hK.out _ _ ?_ ?_
      · change Fr [] _ _
        (repeat (first | with_reducible (first | exact Fr.refl _ _ | assumption | refine Fr.drew ?_ | refine Fr.drewN ?_ _ | refine Fr.alloc ?_ _ | refine Fr.setL ?_ _ _ _ ?_) | (left; simp; done) | (right; first | (simp; done) | (simp; omega) | omega)); done)
      · simp only [nth]
        first | (unfold Is; rfl) | (unfold Any; exact trivial) | exact IsSl.new _ _ _ _ | assumption
    · intro ac wx hf hbs hs hp K hK
      simp only [zA, Region.binds, Nat.reduceAdd] at hp
      clear hs
      clear hbs
      obtain ⟨h17, h24⟩ := hp
      clear hf
      (try simp only [h17, h24])
      go_simp
      try dsimp only
      refine hK.out _ _ ?_ ?_
      · change Fr [] _ _
        (repeat (first | with_reducible (first | exact Fr.refl _ _ | assumption | refine Fr.drew ?_ | refine Fr.drewN ?_ _ | refine Fr.alloc ?_ _ | refine Fr.setL ?_ _ _ _ ?_) | (left; simp; done) | (right; first | (simp; done) | (simp; omega) | omega)); done)
      · simp only [nth]
        first | (unfold Is; rfl) | (unfold Any; exact trivial) | exact IsSl.new _ _ _ _ | assumption
  case hD =>
    intro xv wx hf hp
    simp only [List.take_succ_cons, List.take_zero, List.drop_succ_cons, List.drop_zero, fill, List.setIfInBounds_toArray, List.set_cons_zero, List.set_cons_succ, Nat.reduceAdd, Act.put]
    rw [show live 26 (deadC [none, none, none, none, none, none, none, none, none, none, none, none, none, none, none, none, none, none, none, none, none, none, none, none, none, none]) = [0, 1, 2, 3, 4, 5, 6, 7, 8, 9, 10, 11, 12, 13, 14, 15, 16, 17, 18, 19, 20, 21, 22, 23, 24, 25] from by decide] at hp
    simp only [holds, nth, Is, Any, true_and, and_true] at hp
    obtain ⟨p0, p1, p2, p3, p4, p5, p6, p7, p8, p9, p10, p11, p12, p13, p14, p15, p16, p17, p18, p19, p20, p21, p22, p23, p24, p25⟩ := hp
    have hbz2 := HBZ.out.1.fr hf (by simp)
    have HF := Lib.hid (HBZ.out.2.tr hf)
    have g0 := hbz2.cell 0 rfl
    have g1 := hbz2.cell 1 rfl
    have g2 := hbz2.cell 2 rfl
    have g3 := hbz2.cell 3 rfl
    have x0 := hbz2.free 0
    have x1 := hbz2.free 1
    have x2 := hbz2.free 2
    have x3 := hbz2.free 3
    simp only [List.getElem_toArray, List.getElem_cons_zero, List.getElem_cons_succ] at g0 g1 g2 g3
    have hlz : w.heap.size ≤ P + 1 := by have := HPZ.out; omega
    have hbf : Fr [] w ((((wx.setCell ⟨P + 1, 0, none⟩ (.slice none 0 0)).setCell ⟨P + 1, 1, none⟩ (.slice none 0 0)).setCell ⟨P + 1, 2, none⟩ (.slice none 0 0)).setCell ⟨P + 1, 3, none⟩ (.bool false)) :=
      (((HF.out.setCell _ (.inr hlz)).setCell _ (.inr hlz)).setCell _ (.inr hlz)).setCell _ (.inr hlz)
    have hb5 : Blk ((((wx.setCell ⟨P + 1, 0, none⟩ (.slice none 0 0)).setCell ⟨P + 1, 1, none⟩ (.slice none 0 0)).setCell ⟨P + 1, 2, none⟩ (.slice none 0 0)).setCell ⟨P + 1, 3, none⟩ (.bool false)) (P + 1) #[.slice none 0 0, .slice none 0 0, .slice none 0 0, .bool false] 36 :=
      Blk.set (Blk.set (Blk.set (Blk.set hbz2 0 _ rfl) 1 _ rfl) 2 _ rfl) 3 _ rfl
    have HFIN := Lib.hid (And.intro hbf hb5)
    simp only [p25]
    clear hbz2 hf hbf hb5 p0 p1 p2 p3 p4 p5 p6 p7 p8 p9 p10 p11 p12 p13 p14 p15 p16 p17 p18 p19 p20 p21 p22 p23 p24 k0 k1 k2 k3 k4 k5 k6 k7 k8 q6 q7
    go_wp2
    have y0 := HFIN.out.2.cell 0 rfl
    have y1 := HFIN.out.2.cell 1 rfl
    have y2 := HFIN.out.2.cell 2 rfl
    have y3 := HFIN.out.2.cell 3 rfl
    simp only [List.getElem_toArray, List.getElem_cons_zero, List.getElem_cons_succ] at y0 y1 y2 y3
    exact bodyPost_ret (v := .agg #[.slice none 0 0, .slice none 0 0, .slice none 0 0, .bool false]) (by simp [results, Tryz.results22, go_sem, y0, y1, y2, y3]) rfl ⟨rfl, HFIN.out.1⟩

theorem hear_no (w : World) (v : TV) (m : TM) (d : PD) (s : Sl) (y : Value) (h : IsTie w v m) (hn : s.n = d.info.length) (ho : ¬ hearOk m d) :
    Calls Tryz.prog 22 #[.pointer (some ⟨v.t, 0, none⟩), d.val s, y] w fun e w' => e = .returned (.agg #[.slice none 0 0, .slice none 0 0, .slice none 0 0, .bool false]) ∧ Fr [] w w' := by
  by_cases h1 : typM d = 2
  · by_cases h2 : d.fr = m.there
    · by_cases h3 : d.to = m.near
      · exact absurd ⟨h1, h2, h3⟩ ho
      · exact hear_no2 w v m d s y h hn h1 h2 h3
    · exact hear_no1 w v m d s y h hn h1 h2
  · exact hear_no0 w v m d s y h hn h1
end Go.Proofs.YtneggoonlmmjeaaGreat
namespace Go.Proofs.YtneggoonlmmjeaaGreat
open Go.RowKit Go.Shelf
set_option linter.unusedVariables false
set_option linter.unusedSimpArgs false
set_option maxRecDepth 100000

/-- Like gives_end, where what is heard lies beside. -/
theorem gives_endP {w w1 w5 w6 w7 : World} {v v6 : TV} {m M : TM} {pv : Value} {P : Nat} {os oy ok : Sl} (h0 : IsTie w1 v m) (f0 : Fr [] w w1) (hlt : ∀ x ∈ v.foot, x < P) (hile : v.hi ≤ P) (hP : w.heap.size = P) (hb : Blk w1 (P + 1) #[.slice none 0 0, .slice none 0 0, .slice none 0 0, .bool false] 36)
    (W : Went w1 w5 (v.begun pv) v6) (ho : OutV w6 M (v6.begun (.pointer none)).foot (.agg #[.slice os.A M.send.length os.c, .slice oy.A M.say.length oy.c, .slice ok.A M.took.length ok.c, .bool M.used])) (h7 : IsTie w6 (v6.begun (.pointer none)) (clearO M)) (f7 : Fr [v.t] w5 w6)
    (hw : w7 = (((w6.setCell ⟨P + 1, 0, none⟩ (.slice os.A M.send.length os.c)).setCell ⟨P + 1, 1, none⟩ (.slice oy.A M.say.length oy.c)).setCell ⟨P + 1, 2, none⟩ (.slice ok.A M.took.length ok.c)).setCell ⟨P + 1, 3, none⟩ (.bool M.used)) :
    Blk w7 (P + 1) #[.slice os.A M.send.length os.c, .slice oy.A M.say.length oy.c, .slice ok.A M.took.length ok.c, .bool M.used] 36 ∧ Gives w v M (.returned (.agg #[.slice os.A M.send.length os.c, .slice oy.A M.say.length oy.c, .slice ok.A M.took.length ok.c, .bool M.used])) w7 := by
  have hlt1 : P + 1 < w1.heap.size := hb.lt
  have hbz5 := hb.fr W.fr (fun hm => by have := hlt _ (v.begun_foot _ _ hm); omega)
  have hbz := hbz5.fr f7 (fun hm => by simp at hm; have := hlt v.t v.t_foot; omega)
  have hf6 : ∀ x ∈ v6.foot, x ∈ v.foot ∨ w1.heap.size ≤ x := fun x hx => (W.new x hx).imp (v.begun_foot _ x) id
  have ehi : v6.hi = v.hi := by have := W.fix; simp only [TV.fix, Prod.mk.injEq] at this; exact this.2.2.2.2.2.2.1
  obtain ⟨h8, b8, f8⟩ := h7.retW (Z := P + 1) (fun hm => by
    rcases hf6 _ (v6.begun_foot _ _ hm) with h1 | h1
    · have := hlt _ h1; omega
    · omega) (by show v6.hi ≤ P + 1; omega) hbz hw
  refine ⟨b8, _, _, rfl, ho.frZ f8 hbz, h8, W.t, (TV.fix_n0 W.fix).trans rfl, rfl, ?_, ?_, by have a := W.fix; simp only [TV.fix, Prod.mk.injEq] at a; exact a.2.2.2.2.2.2.1⟩
  · have a : Fr v.foot w w1 := f0.mono (by simp)
    have b : Fr v.foot w w5 := a.trans W.fr (fun x hx => .inl (v.begun_foot _ x hx))
    have c : Fr v.foot w w6 := b.trans f7 (fun x hx => .inl (by simp at hx; subst hx; exact v.t_foot))
    exact c.trans f8 (fun x hx => .inr (by simp at hx; subst hx; omega))
  · intro x hx
    rcases hf6 x (v6.begun_foot _ x hx) with h1 | h1
    · exact .inl h1
    · exact .inr (by have := f0.size; omega)

set_option maxHeartbeats 8000000 in
theorem tie_Hear (w : World) (v : TV) (m : TM) (d : PD) (s : Sl) (y : Value) (j k : Nat) (h : IsTie w v m) (hi : Inv j k m) (ho : hearOk m d) (hs : Bts v.n0 w s d.info) (hby : ∀ x ∈ d.info, 0 ≤ x ∧ x ≤ 255) (hf : rowFr m.state.toNat (hearE m d).toNat = false) (hj : j + 20 ≤ 1000000) :
    Calls Tryz.prog 22 #[.pointer (some ⟨v.t, 0, none⟩), d.val s, y] w (Gives w v (hearM m d)) := by
  have hn := hs.n
  have ht := ho.1
  obtain ⟨w1, hw1⟩ : ∃ w1, (w.alloc (.cells (d.arr s) 52)).alloc (.cells #[.slice none 0 0, .slice none 0 0, .slice none 0 0, .bool false] 36) = w1 := ⟨_, rfl⟩
  obtain ⟨P, hP⟩ : ∃ P, w.heap.size = P := ⟨_, rfl⟩
  have hbp : Blk w1 P (d.arr s) 52 := by rw [← hw1, ← hP]; exact (Blk.new w _ _).alloc _
  have hbz : Blk w1 (P + 1) #[.slice none 0 0, .slice none 0 0, .slice none 0 0, .bool false] 36 := by
    have := Blk.new (w.alloc (.cells (d.arr s) 52)) #[.slice none 0 0, .slice none 0 0, .slice none 0 0, .bool false] 36
    rw [World.size_alloc, hw1, hP] at this
    exact this
  have f0 : Fr [] w w1 := by rw [← hw1]; exact ((Fr.refl [] w).alloc _).alloc _
  have h0 := h.fr0 f0
  have hlt : ∀ x ∈ v.foot, x < P := by rw [← hP]; exact h.lt
  have hile : v.hi ≤ P := by rw [← hP]; exact h.hile
  have hs0 := hs.fr f0
  have HPZ := Lib.hid hP
  have hty : ∀ wx, Calls Tryz.prog 58 #[d.val s] wx fun e w' => e = .returned (.int .i64 2) ∧ Fr [] wx w' := fun wx => by have := tell_Type d s wx hn; rw [ht] at this; exact this
  have efr : (d.fr != m.there) = false := by simp [bne, ho.2.1]
  have eto : (d.to != m.near) = false := by simp [bne, ho.2.2]
  have k0 : ∀ wx, Fr [] w1 wx → wx.cell? ⟨P, 0, none⟩ = some (.int .i64 d.to) := fun wx hf => hf.cell (hbp.cell 0 rfl) (by simp)
  have k1 : ∀ wx, Fr [] w1 wx → wx.cell? ⟨P, 1, none⟩ = some (.int .i64 d.fr) := fun wx hf => hf.cell (hbp.cell 1 rfl) (by simp)
  have k2 : ∀ wx, Fr [] w1 wx → wx.cell? ⟨P, 2, none⟩ = some (.bool d.rs) := fun wx hf => hf.cell (hbp.cell 2 rfl) (by simp)
  have k3 : ∀ wx, Fr [] w1 wx → wx.cell? ⟨P, 3, none⟩ = some (.int .i64 d.fm) := fun wx hf => hf.cell (hbp.cell 3 rfl) (by simp)
  have k4 : ∀ wx, Fr [] w1 wx → wx.cell? ⟨P, 4, none⟩ = some (.int .i64 d.kd) := fun wx hf => hf.cell (hbp.cell 4 rfl) (by simp)
  have k5 : ∀ wx, Fr [] w1 wx → wx.cell? ⟨P, 5, none⟩ = some (.int .i64 d.ns) := fun wx hf => hf.cell (hbp.cell 5 rfl) (by simp)
  have k6 : ∀ wx, Fr [] w1 wx → wx.cell? ⟨P, 6, none⟩ = some (.int .i64 d.nr) := fun wx hf => hf.cell (hbp.cell 6 rfl) (by simp)
  have k7 : ∀ wx, Fr [] w1 wx → wx.cell? ⟨P, 7, none⟩ = some (.bool d.po) := fun wx hf => hf.cell (hbp.cell 7 rfl) (by simp)
  have k8 : ∀ wx, Fr [] w1 wx → wx.cell? ⟨P, 8, none⟩ = some (.slice s.A s.n s.c) := fun wx hf => hf.cell (hbp.cell 8 rfl) (by simp)
  have q6 : ∀ wx, Fr [] w1 wx → wx.cell? ⟨v.t, 6, none⟩ = some (.int .i64 m.near) := fun wx hf => hf.cell h0.c6 (by simp)
  have q7 : ∀ wx, Fr [] w1 wx → wx.cell? ⟨v.t, 7, none⟩ = some (.int .i64 m.there) := fun wx hf => hf.cell h0.c7 (by simp)
  have q9 : ∀ wx, Fr [] w1 wx → wx.cell? ⟨v.t, 9, none⟩ = some (.int .i64 m.state) := fun wx hf => hf.cell h0.c9 (by simp)
  have hvr : ∀ wx, Fr [] w1 wx → Calls Tryz.prog 60 #[.pointer (some ⟨v.t, 10, none⟩)] wx fun e w' => e = .returned (.int .i64 m.vr) ∧ Fr [] wx w' := fun wx hf => vars_Vr v.t (m.cells v) m.vs m.vr m.va wx (h0.fr0 hf).v3
  have hva : ∀ wx, Fr [] w1 wx → Calls Tryz.prog 61 #[.pointer (some ⟨v.t, 10, none⟩)] wx fun e w' => e = .returned (.int .i64 m.va) ∧ Fr [] wx w' := fun wx hf => vars_Va v.t (m.cells v) m.vs m.vr m.va wx (h0.fr0 hf).v3
  have hvs : ∀ wx, Fr [] w1 wx → Calls Tryz.prog 62 #[.pointer (some ⟨v.t, 10, none⟩)] wx fun e w' => e = .returned (.int .i64 m.vs) ∧ Fr [] wx w' := fun wx hf => vars_Vs v.t (m.cells v) m.vs m.vr m.va wx (h0.fr0 hf).v3
  have hrg := evtM_range ht m.state m.vr m.va m.vs
  obtain ⟨e, he⟩ : ∃ e : Nat, hearE m d = (e : Int) := ⟨(hearE m d).toNat, by unfold hearE; omega⟩
  have hev : ∀ wx, Calls Tryz.prog 59 #[d.val s, .int .i64 m.state, .int .i64 m.vr, .int .i64 m.va, .int .i64 m.vs] wx fun r w' => r = .returned (.int .i64 (e : Int)) ∧ Fr [] wx w' := fun wx => by
    have := tell_Event d s m.state m.vr m.va m.vs wx hn
    rw [show evtM d m.state m.vr m.va m.vs = (e : Int) from he] at this
    exact this
  have he8 : 8 ≤ e ∧ e ≤ 28 := by unfold hearE at he; omega
  obtain ⟨s0, hst⟩ : ∃ s0 : Nat, m.state = s0 := ⟨m.state.toNat, by have := hi.st; omega⟩
  have HST := Lib.hid (And.intro hst (show s0 < 14 by have := hi.st; omega))
  have HE := Lib.hid (And.intro he he8)
  have HEV := Lib.hid hev
  have HVR := Lib.hid hvr
  have HVA := Lib.hid hva
  have HVS := Lib.hid hvs
  have HTY := Lib.hid hty
  have H := Lib.hid h0
  have H0 := Lib.hid (And.intro h0 (And.intro f0 (And.intro hlt hile)))
  have HBZ := Lib.hid hbz
  have HBP := Lib.hid (And.intro hbp hs0)
  have HI := Lib.hid hi
  have HO := Lib.hid ho
  have HBY := Lib.hid hby
  have HF := Lib.hid hf
  clear h f0 h0 hlt hile hbp hbz hn ht hty ho hs hs0 hi hby hf hst he he8 hev hvr hva hvs hrg
  go_enter Tryz.func22, Tryz.ntmps22
  go_wp2_with fail
  clear hw1 hP
  refine wp_region_keepsC [] [false, false, false, false, false, false, false, false, false, false, false, false, false, false, false, false, false, false, false, false, false, false, false, false, false, false] [none, none, none, none, none, none, none, none, none, none, none, none, none, none, none, none, none, none, none, none, none, none, none, none, none, none] (fun _ => True) [Is (.pointer (some ⟨v.t, 0, none⟩)), Is (.bool true), Is (.bool false), Is (.bool false), Is (.agg #[.int .i64 d.to, .int .i64 d.fr, .bool d.rs, .int .i64 d.fm, .int .i64 d.kd, .int .i64 d.ns, .int .i64 d.nr, .bool d.po, .slice s.A s.n s.c]), Is (.int .i64 2), Is (.bool false), Is (.bool false), Is (.bool false), Is (.pointer (some ⟨P, 1, none⟩)), Is (.int .i64 d.fr), Is (.pointer (some ⟨v.t, 0, none⟩)), Is (.pointer (some ⟨v.t, 0, none⟩)), Is (.pointer (some ⟨v.t, 7, none⟩)), Is (.int .i64 m.there), Is (.bool false), Is (.bool false), Is (.bool false), Is (.pointer (some ⟨P, 0, none⟩)), Is (.int .i64 d.to), Is (.pointer (some ⟨v.t, 0, none⟩)), Is (.pointer (some ⟨v.t, 0, none⟩)), Is (.pointer (some ⟨v.t, 6, none⟩)), Is (.int .i64 m.near), Is (.bool false), Is (.bool false)] 26 (by kernel_rfl) (by kernel_rfl) (by kernel_rfl) (by kernel_rfl) (by kernel_rfl) (by kernel_rfl) (by kernel_rfl) (by kernel_rfl) ?hV (fun _ _ _ h => h) trivial ?hS ?hD
  case hV =>
    repeat (first | exact trivial | exact Is.keepsN _ | exact Any.keepsN | refine And.intro ?_ ?_)
  case hS =>
    (repeat' (first | exact trivial | refine And.intro ?_ ?_))
    · intro ac wx hf hbs hs hp K hK
      simp only [zA, Region.binds, Nat.reduceAdd] at hp
      have hs0 := hs 0 (by kernel_rfl)
      simp only [Array.getD_eq_getD_getElem?, List.getElem?_toArray, List.getElem?_cons_succ, List.getElem?_cons_zero, Option.getD_some] at hs0
      clear hs
      clear hbs
      clear hp
      clear hf
      go_simp
      try dsimp only
      refine hK.out _ _ ?_ ?_
      · change Fr [] _ _
        (repeat (first | with_reducible (first | exact Fr.refl _ _ | assumption | refine Fr.drew ?_ | refine Fr.drewN ?_ _ | refine Fr.alloc ?_ _ | refine Fr.setL ?_ _ _ _ ?_) | (left; simp; done) | (right; first | (simp; done) | (simp; omega) | omega)); done)
      · simp only [nth]
        first | (unfold Is; rfl) | (unfold Any; exact trivial) | exact IsSl.new _ _ _ _ | assumption
    · intro ac wx hf hbs hs hp K hK
      simp only [zA, Region.binds, Nat.reduceAdd] at hp
      clear hs
      clear hbs
      have h0 := hp
      clear hp
      (try simp only [h0])
      go_simp
      go_at_call 45
      refine (tie_made _ v m (H.out.fr0 hf)).mono ?_
      rintro e w' ⟨rfl, rfl⟩
      try dsimp only
      refine hK.out _ _ ?_ ?_
      · change Fr [] _ _
        (repeat (first | with_reducible (first | exact Fr.refl _ _ | assumption | refine Fr.drew ?_ | refine Fr.drewN ?_ _ | refine Fr.alloc ?_ _ | refine Fr.setL ?_ _ _ _ ?_) | (left; simp; done) | (right; first | (simp; done) | (simp; omega) | omega)); done)
      · simp only [nth]
        first | (unfold Is; rfl) | (unfold Any; exact trivial) | exact IsSl.new _ _ _ _ | assumption
    · intro ac wx hf hbs hs hp K hK
      simp only [zA, Region.binds, Nat.reduceAdd] at hp
      clear hs
      clear hbs
      have h1 := hp
      clear hp
      clear hf
      (try simp only [h1])
      go_simp
      try dsimp only
      refine hK.out _ _ ?_ ?_
      · change Fr [] _ _
        (repeat (first | with_reducible (first | exact Fr.refl _ _ | assumption | refine Fr.drew ?_ | refine Fr.drewN ?_ _ | refine Fr.alloc ?_ _ | refine Fr.setL ?_ _ _ _ ?_) | (left; simp; done) | (right; first | (simp; done) | (simp; omega) | omega)); done)
      · simp only [nth]
        first | (unfold Is; rfl) | (unfold Any; exact trivial) | exact IsSl.new _ _ _ _ | assumption
    · intro ac wx hf hbs hs hp K hK
      simp only [zA, Region.binds, Nat.reduceAdd] at hp
      clear hs
      clear hbs
      obtain ⟨h2, h1⟩ := hp
      clear hf
      (try simp only [h2, h1])
      go_simp
      try dsimp only
      refine hK.out _ _ ?_ ?_
      · change Fr [] _ _
        (repeat (first | with_reducible (first | exact Fr.refl _ _ | assumption | refine Fr.drew ?_ | refine Fr.drewN ?_ _ | refine Fr.alloc ?_ _ | refine Fr.setL ?_ _ _ _ ?_) | (left; simp; done) | (right; first | (simp; done) | (simp; omega) | omega)); done)
      · simp only [nth]
        first | (unfold Is; rfl) | (unfold Any; exact trivial) | exact IsSl.new _ _ _ _ | assumption
    · intro ac wx hf hbs hs hp K hK
      simp only [zA, Region.binds, Nat.reduceAdd] at hp
      have hs4 := hs 4 (by kernel_rfl)
      simp only [Array.getD_eq_getD_getElem?, List.getElem?_toArray, List.getElem?_cons_succ, List.getElem?_cons_zero, Option.getD_some] at hs4
      clear hs
      clear hbs
      have h3 := hp
      clear hp
      have hg3 := (getD_bool _ _).1 h3
      have cx0 := k0 wx hf
      have cx1 := k1 wx hf
      have cx2 := k2 wx hf
      have cx3 := k3 wx hf
      have cx4 := k4 wx hf
      have cx5 := k5 wx hf
      have cx6 := k6 wx hf
      have cx7 := k7 wx hf
      have cx8 := k8 wx hf
      clear hf
      (try simp only [h3, hg3])
      go_simp
      try dsimp only
      refine hK.out _ _ ?_ ?_
      · change Fr [] _ _
        (repeat (first | with_reducible (first | exact Fr.refl _ _ | assumption | refine Fr.drew ?_ | refine Fr.drewN ?_ _ | refine Fr.alloc ?_ _ | refine Fr.setL ?_ _ _ _ ?_) | (left; simp; done) | (right; first | (simp; done) | (simp; omega) | omega)); done)
      · simp only [nth]
        first | (unfold Is; rfl) | (unfold Any; exact trivial) | exact IsSl.new _ _ _ _ | assumption
    · intro ac wx hf hbs hs hp K hK
      simp only [zA, Region.binds, Nat.reduceAdd] at hp
      clear hs
      clear hbs
      obtain ⟨h4, h3, h3_2⟩ := hp
      have hg3 := (getD_bool _ _).1 h3
      (try simp only [h4, h3, hg3])
      go_simp
      go_at_call 58
      refine (HTY.out wx).mono ?_
      rintro e w' ⟨rfl, fz⟩
      exact hK.out _ _ fz rfl
    · intro ac wx hf hbs hs hp K hK
      simp only [zA, Region.binds, Nat.reduceAdd] at hp
      clear hs
      clear hbs
      obtain ⟨h5, h3⟩ := hp
      have hg3 := (getD_bool _ _).1 h3
      clear hf
      (try simp only [h5, h3, hg3])
      go_simp
      try dsimp only
      refine hK.out _ _ ?_ ?_
      · change Fr [] _ _
        (repeat (first | with_reducible (first | exact Fr.refl _ _ | assumption | refine Fr.drew ?_ | refine Fr.drewN ?_ _ | refine Fr.alloc ?_ _ | refine Fr.setL ?_ _ _ _ ?_) | (left; simp; done) | (right; first | (simp; done) | (simp; omega) | omega)); done)
      · simp only [nth]
        first | (unfold Is; rfl) | (unfold Any; exact trivial) | exact IsSl.new _ _ _ _ | assumption
    · intro ac wx hf hbs hs hp K hK
      simp only [zA, Region.binds, Nat.reduceAdd] at hp
      clear hs
      clear hbs
      obtain ⟨h3, h6⟩ := hp
      clear hf
      (try simp only [h3, h6])
      go_simp
      try dsimp only
      refine hK.out _ _ ?_ ?_
      · change Fr [] _ _
        (repeat (first | with_reducible (first | exact Fr.refl _ _ | assumption | refine Fr.drew ?_ | refine Fr.drewN ?_ _ | refine Fr.alloc ?_ _ | refine Fr.setL ?_ _ _ _ ?_) | (left; simp; done) | (right; first | (simp; done) | (simp; omega) | omega)); done)
      · simp only [nth]
        first | (unfold Is; rfl) | (unfold Any; exact trivial) | exact IsSl.new _ _ _ _ | assumption
    · intro ac wx hf hbs hs hp K hK
      simp only [zA, Region.binds, Nat.reduceAdd] at hp
      clear hs
      clear hbs
      obtain ⟨h7, h5⟩ := hp
      clear hf
      (try simp only [h7, h5])
      go_simp
      try dsimp only
      refine hK.out _ _ ?_ ?_
      · change Fr [] _ _
        (repeat (first | with_reducible (first | exact Fr.refl _ _ | assumption | refine Fr.drew ?_ | refine Fr.drewN ?_ _ | refine Fr.alloc ?_ _ | refine Fr.setL ?_ _ _ _ ?_) | (left; simp; done) | (right; first | (simp; done) | (simp; omega) | omega)); done)
      · simp only [nth]
        first | (unfold Is; rfl) | (unfold Any; exact trivial) | exact IsSl.new _ _ _ _ | assumption
    · intro ac wx hf hbs hs hp K hK
      simp only [zA, Region.binds, Nat.reduceAdd] at hp
      have hs4 := hs 4 (by kernel_rfl)
      simp only [Array.getD_eq_getD_getElem?, List.getElem?_toArray, List.getElem?_cons_succ, List.getElem?_cons_zero, Option.getD_some] at hs4
      clear hs
      clear hbs
      have h8 := hp
      clear hp
      have hg8 := (getD_bool _ _).1 h8
      clear hf
      (try simp only [h8, hg8])
      go_simp
      try dsimp only
      refine hK.out _ _ ?_ ?_
      · change Fr [] _ _
        (repeat (first | with_reducible (first | exact Fr.refl _ _ | assumption | refine Fr.drew ?_ | refine Fr.drewN ?_ _ | refine Fr.alloc ?_ _ | refine Fr.setL ?_ _ _ _ ?_) | (left; simp; done) | (right; first | (simp; done) | (simp; omega) | omega)); done)
      · simp only [nth]
        first | (unfold Is; rfl) | (unfold Any; exact trivial) | exact IsSl.new _ _ _ _ | assumption
    · intro ac wx hf hbs hs hp K hK
      simp only [zA, Region.binds, Nat.reduceAdd] at hp
      clear hs
      clear hbs
      obtain ⟨h9, h8⟩ := hp
      have hg8 := (getD_bool _ _).1 h8
      have cx := k1 wx hf
      clear hf
      (try simp only [h9, h8, hg8])
      go_simp
      try dsimp only
      refine hK.out _ _ ?_ ?_
      · change Fr [] _ _
        (repeat (first | with_reducible (first | exact Fr.refl _ _ | assumption | refine Fr.drew ?_ | refine Fr.drewN ?_ _ | refine Fr.alloc ?_ _ | refine Fr.setL ?_ _ _ _ ?_) | (left; simp; done) | (right; first | (simp; done) | (simp; omega) | omega)); done)
      · simp only [nth]
        first | (unfold Is; rfl) | (unfold Any; exact trivial) | exact IsSl.new _ _ _ _ | assumption
    · intro ac wx hf hbs hs hp K hK
      simp only [zA, Region.binds, Nat.reduceAdd] at hp
      have hs0 := hs 0 (by kernel_rfl)
      simp only [Array.getD_eq_getD_getElem?, List.getElem?_toArray, List.getElem?_cons_succ, List.getElem?_cons_zero, Option.getD_some] at hs0
      clear hs
      clear hbs
      have h8 := hp
      clear hp
      have hg8 := (getD_bool _ _).1 h8
      clear hf
      (try simp only [h8, hg8])
      go_simp
      try dsimp only
      refine hK.out _ _ ?_ ?_
      · change Fr [] _ _
        (repeat (first | with_reducible (first | exact Fr.refl _ _ | assumption | refine Fr.drew ?_ | refine Fr.drewN ?_ _ | refine Fr.alloc ?_ _ | refine Fr.setL ?_ _ _ _ ?_) | (left; simp; done) | (right; first | (simp; done) | (simp; omega) | omega)); done)
      · simp only [nth]
        first | (unfold Is; rfl) | (unfold Any; exact trivial) | exact IsSl.new _ _ _ _ | assumption
    · intro ac wx hf hbs hs hp K hK
      simp only [zA, Region.binds, Nat.reduceAdd] at hp
      clear hs
      clear hbs
      obtain ⟨h11, h8⟩ := hp
      have hg8 := (getD_bool _ _).1 h8
      clear hf
      (try simp only [h11, h8, hg8])
      go_simp
      try dsimp only
      refine hK.out _ _ ?_ ?_
      · change Fr [] _ _
        (repeat (first | with_reducible (first | exact Fr.refl _ _ | assumption | refine Fr.drew ?_ | refine Fr.drewN ?_ _ | refine Fr.alloc ?_ _ | refine Fr.setL ?_ _ _ _ ?_) | (left; simp; done) | (right; first | (simp; done) | (simp; omega) | omega)); done)
      · simp only [nth]
        first | (unfold Is; rfl) | (unfold Any; exact trivial) | exact IsSl.new _ _ _ _ | assumption
    · intro ac wx hf hbs hs hp K hK
      simp only [zA, Region.binds, Nat.reduceAdd] at hp
      clear hs
      clear hbs
      obtain ⟨h12, h8⟩ := hp
      have hg8 := (getD_bool _ _).1 h8
      clear hf
      (try simp only [h12, h8, hg8])
      go_simp
      try dsimp only
      refine hK.out _ _ ?_ ?_
      · change Fr [] _ _
        (repeat (first | with_reducible (first | exact Fr.refl _ _ | assumption | refine Fr.drew ?_ | refine Fr.drewN ?_ _ | refine Fr.alloc ?_ _ | refine Fr.setL ?_ _ _ _ ?_) | (left; simp; done) | (right; first | (simp; done) | (simp; omega) | omega)); done)
      · simp only [nth]
        first | (unfold Is; rfl) | (unfold Any; exact trivial) | exact IsSl.new _ _ _ _ | assumption
    · intro ac wx hf hbs hs hp K hK
      simp only [zA, Region.binds, Nat.reduceAdd] at hp
      clear hs
      clear hbs
      obtain ⟨h13, h8⟩ := hp
      have hg8 := (getD_bool _ _).1 h8
      have cx := q7 wx hf
      clear hf
      (try simp only [h13, h8, hg8])
      go_simp
      try dsimp only
      refine hK.out _ _ ?_ ?_
      · change Fr [] _ _
        (repeat (first | with_reducible (first | exact Fr.refl _ _ | assumption | refine Fr.drew ?_ | refine Fr.drewN ?_ _ | refine Fr.alloc ?_ _ | refine Fr.setL ?_ _ _ _ ?_) | (left; simp; done) | (right; first | (simp; done) | (simp; omega) | omega)); done)
      · simp only [nth]
        first | (unfold Is; rfl) | (unfold Any; exact trivial) | exact IsSl.new _ _ _ _ | assumption
    · intro ac wx hf hbs hs hp K hK
      simp only [zA, Region.binds, Nat.reduceAdd] at hp
      clear hs
      clear hbs
      obtain ⟨h10, h14, h8⟩ := hp
      have hg8 := (getD_bool _ _).1 h8
      clear hf
      (try simp only [h10, h14, h8, hg8])
      go_simp
      try dsimp only
      refine hK.out _ _ ?_ ?_
      · change Fr [] _ _
        (repeat (first | with_reducible (first | exact Fr.refl _ _ | assumption | refine Fr.drew ?_ | refine Fr.drewN ?_ _ | refine Fr.alloc ?_ _ | refine Fr.setL ?_ _ _ _ ?_) | (left; simp; done) | (right; first | (simp; done) | (simp; omega) | omega)); done)
      · simp only [nth]
        first | (unfold Is; rfl) | (unfold Any; exact trivial) | exact IsSl.new _ _ _ _ | assumption
    · intro ac wx hf hbs hs hp K hK
      simp only [zA, Region.binds, Nat.reduceAdd] at hp
      clear hs
      clear hbs
      obtain ⟨h8, h15⟩ := hp
      clear hf
      (try simp only [h8, h15])
      go_simp
      try dsimp only
      refine hK.out _ _ ?_ ?_
      · change Fr [] _ _
        (repeat (first | with_reducible (first | exact Fr.refl _ _ | assumption | refine Fr.drew ?_ | refine Fr.drewN ?_ _ | refine Fr.alloc ?_ _ | refine Fr.setL ?_ _ _ _ ?_) | (left; simp; done) | (right; first | (simp; done) | (simp; omega) | omega)); done)
      · simp only [nth]
        first | (unfold Is; rfl) | (unfold Any; exact trivial) | exact IsSl.new _ _ _ _ | assumption
    · intro ac wx hf hbs hs hp K hK
      simp only [zA, Region.binds, Nat.reduceAdd] at hp
      clear hs
      clear hbs
      obtain ⟨h16, h8⟩ := hp
      clear hf
      (try simp only [h16, h8])
      go_simp
      try dsimp only
      refine hK.out _ _ ?_ ?_
      · change Fr [] _ _
        (repeat (first | with_reducible (first | exact Fr.refl _ _ | assumption | refine Fr.drew ?_ | refine Fr.drewN ?_ _ | refine Fr.alloc ?_ _ | refine Fr.setL ?_ _ _ _ ?_) | (left; simp; done) | (right; first | (simp; done) | (simp; omega) | omega)); done)
      · simp only [nth]
        first | (unfold Is; rfl) | (unfold Any; exact trivial) | exact IsSl.new _ _ _ _ | assumption
    · intro ac wx hf hbs hs hp K hK
      simp only [zA, Region.binds, Nat.reduceAdd] at hp
      have hs4 := hs 4 (by kernel_rfl)
      simp only [Array.getD_eq_getD_getElem?, List.getElem?_toArray, List.getElem?_cons_succ, List.getElem?_cons_zero, Option.getD_some] at hs4
      clear hs
      clear hbs
      have h17 := hp
      clear hp
      have hg17 := (getD_bool _ _).1 h17
      clear hf
      (try simp only [h17, hg17])
      go_simp
      try dsimp only
      refine hK.out _ _ ?_ ?_
      · change Fr [] _ _
        (repeat (first | with_reducible (first | exact Fr.refl _ _ | assumption | refine Fr.drew ?_ | refine Fr.drewN ?_ _ | refine Fr.alloc ?_ _ | refine Fr.setL ?_ _ _ _ ?_) | (left; simp; done) | (right; first | (simp; done) | (simp; omega) | omega)); done)
      · simp only [nth]
        first | (unfold Is; rfl) | (unfold Any; exact trivial) | exact IsSl.new _ _ _ _ | assumption
    · intro ac wx hf hbs hs hp K hK
      simp only [zA, Region.binds, Nat.reduceAdd] at hp
      clear hs
      clear hbs
      obtain ⟨h18, h17⟩ := hp
      have hg17 := (getD_bool _ _).1 h17
      have cx := k0 wx hf
      clear hf
      (try simp only [h18, h17, hg17])
      go_simp
      try dsimp only
      refine hK.out _ _ ?_ ?_
      · change Fr [] _ _
        (repeat (first | with_reducible (first | exact Fr.refl _ _ | assumption | refine Fr.drew ?_ | refine Fr.drewN ?_ _ | refine Fr.alloc ?_ _ | refine Fr.setL ?_ _ _ _ ?_) | (left; simp; done) | (right; first | (simp; done) | (simp; omega) | omega)); done)
      · simp only [nth]
        first | (unfold Is; rfl) | (unfold Any; exact trivial) | exact IsSl.new _ _ _ _ | assumption
    · intro ac wx hf hbs hs hp K hK
      simp only [zA, Region.binds, Nat.reduceAdd] at hp
      have hs0 := hs 0 (by kernel_rfl)
      simp only [Array.getD_eq_getD_getElem?, List.getElem?_toArray, List.getElem?_cons_succ, List.getElem?_cons_zero, Option.getD_some] at hs0
      clear hs
      clear hbs
      have h17 := hp
      clear hp
      have hg17 := (getD_bool _ _).1 h17
      clear hf
      (try simp only [h17, hg17])
      go_simp
      try dsimp only
      refine hK.out _ _ ?_ ?_
      · change Fr [] _ _
        (repeat (first | with_reducible (first | exact Fr.refl _ _ | assumption | refine Fr.drew ?_ | refine Fr.drewN ?_ _ | refine Fr.alloc ?_ _ | refine Fr.setL ?_ _ _ _ ?_) | (left; simp; done) | (right; first | (simp; done) | (simp; omega) | omega)); done)
      · simp only [nth]
        first | (unfold Is; rfl) | (unfold Any; exact trivial) | exact IsSl.new _ _ _ _ | assumption
    · intro ac wx hf hbs hs hp K hK
      simp only [zA, Region.binds, Nat.reduceAdd] at hp
      clear hs
      clear hbs
      obtain ⟨h20, h17⟩ := hp
      have hg17 := (getD_bool _ _).1 h17
      clear hf
      (try simp only [h20, h17, hg17])
      go_simp
      try dsimp only
      refine hK.out _ _ ?_ ?_
      · change Fr [] _ _
        (repeat (first | with_reducible (first | exact Fr.refl _ _ | assumption | refine Fr.drew ?_ | refine Fr.drewN ?_ _ | refine Fr.alloc ?_ _ | refine Fr.setL ?_ _ _ _ ?_) | (left; simp; done) | (right; first | (simp; done) | (simp; omega) | omega)); done)
      · simp only [nth]
        first | (unfold Is; rfl) | (unfold Any; exact trivial) | exact IsSl.new _ _ _ _ | assumption
    · intro ac wx hf hbs hs hp K hK
      simp only [zA, Region.binds, Nat.reduceAdd] at hp
      clear hs
      clear hbs
      obtain ⟨h21, h17⟩ := hp
      have hg17 := (getD_bool _ _).1 h17
      clear hf
      (try simp only [h21, h17, hg17])
      go_simp
      try dsimp only
      refine hK.out _ _ ?_ ?_
      · change Fr [] _ _
        (repeat (first | with_reducible (first | exact Fr.refl _ _ | assumption | refine Fr.drew ?_ | refine Fr.drewN ?_ _ | refine Fr.alloc ?_ _ | refine Fr.setL ?_ _ _ _ ?_) | (left; simp; done) | (right; first | (simp; done) | (simp; omega) | omega)); done)
      · simp only [nth]
        first | (unfold Is; rfl) | (unfold Any; exact trivial) | exact IsSl.new _ _ _ _ | assumption
    · intro ac wx hf hbs hs hp K hK
      simp only [zA, Region.binds, Nat.reduceAdd] at hp
      clear hs
      clear hbs
      obtain ⟨h22, h17⟩ := hp
      have hg17 := (getD_bool _ _).1 h17
      have cx := q6 wx hf
      clear hf
      (try simp only [h22, h17, hg17])
      go_simp
      try dsimp only
      refine hK.out _ _ ?_ ?_
      · change Fr [] _ _
        (repeat (first | with_reducible (first | exact Fr.refl _ _ | assumption | refine Fr.drew ?_ | refine Fr.drewN ?_ _ | refine Fr.alloc ?_ _ | refine Fr.setL ?_ _ _ _ ?_) | (left; simp; done) | (right; first | (simp; done) | (simp; omega) | omega)); done)
      · simp only [nth]
        first | (unfold Is; rfl) | (unfold Any; exact trivial) | exact IsSl.new _ _ _ _ | assumption
    · intro ac wx hf hbs hs hp K hK
      simp only [zA, Region.binds, Nat.reduceAdd] at hp
      clear hs
      clear hbs
      obtain ⟨h19, h23, h17⟩ := hp
      have hg17 := (getD_bool _ _).1 h17
      clear hf
      (try simp only [h19, h23, h17, hg17])
      go_simp
      try dsimp only
      refine hK.out _ _ ?_ ?_
      · change Fr [] _ _
        (repeat (first | with_reducible (first | exact Fr.refl _ _ | assumption | refine Fr.drew ?_ | refine Fr.drewN ?_ _ | refine Fr.alloc ?_ _ | refine Fr.setL ?_ _ _ _ ?_) | (left; simp; done) | (right; first | (simp; done) | (simp; omega) | omega)); done)
      · simp only [nth]
        first | (unfold Is; rfl) | (unfold Any; exact trivial) | exact IsSl.new _ _ _ _ | assumption
    · intro ac wx hf hbs hs hp K hK
      simp only [zA, Region.binds, Nat.reduceAdd] at hp
      clear hs
      clear hbs
      obtain ⟨h17, h24⟩ := hp
      clear hf
      (try simp only [h17, h24])
      go_simp
      try dsimp only
      refine hK.out _ _ ?_ ?_
      · change Fr [] _ _
        (repeat (first | with_reducible (first | exact Fr.refl _ _ | assumption | refine Fr.drew ?_ | refine Fr.drewN ?_ _ | refine Fr.alloc ?_ _ | refine Fr.setL ?_ _ _ _ ?_) | (left; simp; done) | (right; first | (simp; done) | (simp; omega) | omega)); done)
      · simp only [nth]
        first | (unfold Is; rfl) | (unfold Any; exact trivial) | exact IsSl.new _ _ _ _ | assumption
  case hD =>
    intro xv wx hf hp
    simp only [List.take_succ_cons, List.take_zero, List.drop_succ_cons, List.drop_zero, fill, List.setIfInBounds_toArray, List.set_cons_zero, List.set_cons_succ, Nat.reduceAdd, Act.put]
    rw [show live 26 (deadC [none, none, none, none, none, none, none, none, none, none, none, none, none, none, none, none, none, none, none, none, none, none, none, none, none, none]) = [0, 1, 2, 3, 4, 5, 6, 7, 8, 9, 10, 11, 12, 13, 14, 15, 16, 17, 18, 19, 20, 21, 22, 23, 24, 25] from by decide] at hp
    simp only [holds, nth, Is, Any, true_and, and_true] at hp
    obtain ⟨p0, p1, p2, p3, p4, p5, p6, p7, p8, p9, p10, p11, p12, p13, p14, p15, p16, p17, p18, p19, p20, p21, p22, p23, p24, p25⟩ := hp
    simp only [p25]
    have HF2 := Lib.hid hf
    clear hf p0 p1 p2 p3 p4 p5 p6 p7 p8 p9 p10 p11 p12 p13 p14 p15 p16 p17 p18 p19 p20 p21 p22 p23 p24
    go_wp2_with fail
    obtain ⟨w2, hw2⟩ : ∃ w2, w2 = wx := ⟨_, rfl⟩
    subst hw2
    have k0 : ∀ wx, Fr [] w2 wx → wx.cell? ⟨P, 0, none⟩ = some (.int .i64 d.to) := fun wx hf => k0 wx (HF2.out.tr hf)
    have k1 : ∀ wx, Fr [] w2 wx → wx.cell? ⟨P, 1, none⟩ = some (.int .i64 d.fr) := fun wx hf => k1 wx (HF2.out.tr hf)
    have k2 : ∀ wx, Fr [] w2 wx → wx.cell? ⟨P, 2, none⟩ = some (.bool d.rs) := fun wx hf => k2 wx (HF2.out.tr hf)
    have k3 : ∀ wx, Fr [] w2 wx → wx.cell? ⟨P, 3, none⟩ = some (.int .i64 d.fm) := fun wx hf => k3 wx (HF2.out.tr hf)
    have k4 : ∀ wx, Fr [] w2 wx → wx.cell? ⟨P, 4, none⟩ = some (.int .i64 d.kd) := fun wx hf => k4 wx (HF2.out.tr hf)
    have k5 : ∀ wx, Fr [] w2 wx → wx.cell? ⟨P, 5, none⟩ = some (.int .i64 d.ns) := fun wx hf => k5 wx (HF2.out.tr hf)
    have k6 : ∀ wx, Fr [] w2 wx → wx.cell? ⟨P, 6, none⟩ = some (.int .i64 d.nr) := fun wx hf => k6 wx (HF2.out.tr hf)
    have k7 : ∀ wx, Fr [] w2 wx → wx.cell? ⟨P, 7, none⟩ = some (.bool d.po) := fun wx hf => k7 wx (HF2.out.tr hf)
    have k8 : ∀ wx, Fr [] w2 wx → wx.cell? ⟨P, 8, none⟩ = some (.slice s.A s.n s.c) := fun wx hf => k8 wx (HF2.out.tr hf)
    have q9 : ∀ wx, Fr [] w2 wx → wx.cell? ⟨v.t, 9, none⟩ = some (.int .i64 m.state) := fun wx hf => q9 wx (HF2.out.tr hf)
    have HVR : Hid (∀ wx, Fr [] w2 wx → Calls Tryz.prog 60 #[.pointer (some ⟨v.t, 10, none⟩)] wx fun e w' => e = .returned (.int .i64 m.vr) ∧ Fr [] wx w') := Lib.hid fun wx hf => HVR.out wx (HF2.out.tr hf)
    have HVA : Hid (∀ wx, Fr [] w2 wx → Calls Tryz.prog 61 #[.pointer (some ⟨v.t, 10, none⟩)] wx fun e w' => e = .returned (.int .i64 m.va) ∧ Fr [] wx w') := Lib.hid fun wx hf => HVA.out wx (HF2.out.tr hf)
    have HVS : Hid (∀ wx, Fr [] w2 wx → Calls Tryz.prog 62 #[.pointer (some ⟨v.t, 10, none⟩)] wx fun e w' => e = .returned (.int .i64 m.vs) ∧ Fr [] wx w') := Lib.hid fun wx hf => HVS.out wx (HF2.out.tr hf)
    refine wp_region_keepsC [] [false, false, false, false, false, false, false, false, false, false, false, false, false, false, false, false, false, false, false] [none, none, none, none, none, none, none, none, none, none, none, none, none, none, none, none, none, none, none] (fun _ => True) [Is (.agg #[.int .i64 d.to, .int .i64 d.fr, .bool d.rs, .int .i64 d.fm, .int .i64 d.kd, .int .i64 d.ns, .int .i64 d.nr, .bool d.po, .slice s.A s.n s.c]), Is (.pointer (some ⟨v.t, 0, none⟩)), Is (.pointer (some ⟨v.t, 0, none⟩)), Is (.pointer (some ⟨v.t, 9, none⟩)), Is (.int .i64 m.state), Is (.pointer (some ⟨v.t, 0, none⟩)), Is (.pointer (some ⟨v.t, 0, none⟩)), Is (.pointer (some ⟨v.t, 10, none⟩)), Is (.int .i64 m.vr), Is (.pointer (some ⟨v.t, 0, none⟩)), Is (.pointer (some ⟨v.t, 0, none⟩)), Is (.pointer (some ⟨v.t, 10, none⟩)), Is (.int .i64 m.va), Is (.pointer (some ⟨v.t, 0, none⟩)), Is (.pointer (some ⟨v.t, 0, none⟩)), Is (.pointer (some ⟨v.t, 10, none⟩)), Is (.int .i64 m.vs), Is (.int .i64 (e : Int)), Is (.int .i64 (e : Int))] 19 (by kernel_rfl) (by kernel_rfl) (by kernel_rfl) (by kernel_rfl) (by kernel_rfl) (by kernel_rfl) (by kernel_rfl) (by kernel_rfl) ?hV (fun _ _ _ h => h) trivial ?hS ?hD
    case hV =>
      repeat (first | exact trivial | exact Is.keepsN _ | exact Any.keepsN | refine And.intro ?_ ?_)
    case hS =>
      (repeat' (first | exact trivial | refine And.intro ?_ ?_))
      · intro ac wx hf hbs hs hp K hK
        simp only [zA, Region.binds, Nat.reduceAdd] at hp
        have hs4 := hs 4 (by kernel_rfl)
        simp only [Array.getD_eq_getD_getElem?, List.getElem?_toArray, List.getElem?_cons_succ, List.getElem?_cons_zero, Option.getD_some] at hs4
        clear hs
        clear hbs
        clear hp
        have cx0 := k0 wx hf
        have cx1 := k1 wx hf
        have cx2 := k2 wx hf
        have cx3 := k3 wx hf
        have cx4 := k4 wx hf
        have cx5 := k5 wx hf
        have cx6 := k6 wx hf
        have cx7 := k7 wx hf
        have cx8 := k8 wx hf
        clear hf
        go_simp
        try dsimp only
        refine hK.out _ _ ?_ ?_
        · change Fr [] _ _
          (repeat (first | with_reducible (first | exact Fr.refl _ _ | assumption | refine Fr.drew ?_ | refine Fr.drewN ?_ _ | refine Fr.alloc ?_ _ | refine Fr.setL ?_ _ _ _ ?_) | (left; simp; done) | (right; first | (simp; done) | (simp; omega) | omega)); done)
        · simp only [nth]
          first | (unfold Is; rfl) | (unfold Any; exact trivial) | exact IsSl.new _ _ _ _ | assumption
      · intro ac wx hf hbs hs hp K hK
        simp only [zA, Region.binds, Nat.reduceAdd] at hp
        have hs0 := hs 0 (by kernel_rfl)
        simp only [Array.getD_eq_getD_getElem?, List.getElem?_toArray, List.getElem?_cons_succ, List.getElem?_cons_zero, Option.getD_some] at hs0
        clear hs
        clear hbs
        clear hp
        clear hf
        go_simp
        try dsimp only
        refine hK.out _ _ ?_ ?_
        · change Fr [] _ _
          (repeat (first | with_reducible (first | exact Fr.refl _ _ | assumption | refine Fr.drew ?_ | refine Fr.drewN ?_ _ | refine Fr.alloc ?_ _ | refine Fr.setL ?_ _ _ _ ?_) | (left; simp; done) | (right; first | (simp; done) | (simp; omega) | omega)); done)
        · simp only [nth]
          first | (unfold Is; rfl) | (unfold Any; exact trivial) | exact IsSl.new _ _ _ _ | assumption
      · intro ac wx hf hbs hs hp K hK
        simp only [zA, Region.binds, Nat.reduceAdd] at hp
        clear hs
        clear hbs
        have h1 := hp
        clear hp
        clear hf
        (try simp only [h1])
        go_simp
        try dsimp only
        refine hK.out _ _ ?_ ?_
        · change Fr [] _ _
          (repeat (first | with_reducible (first | exact Fr.refl _ _ | assumption | refine Fr.drew ?_ | refine Fr.drewN ?_ _ | refine Fr.alloc ?_ _ | refine Fr.setL ?_ _ _ _ ?_) | (left; simp; done) | (right; first | (simp; done) | (simp; omega) | omega)); done)
        · simp only [nth]
          first | (unfold Is; rfl) | (unfold Any; exact trivial) | exact IsSl.new _ _ _ _ | assumption
      · intro ac wx hf hbs hs hp K hK
        simp only [zA, Region.binds, Nat.reduceAdd] at hp
        clear hs
        clear hbs
        have h2 := hp
        clear hp
        clear hf
        (try simp only [h2])
        go_simp
        try dsimp only
        refine hK.out _ _ ?_ ?_
        · change Fr [] _ _
          (repeat (first | with_reducible (first | exact Fr.refl _ _ | assumption | refine Fr.drew ?_ | refine Fr.drewN ?_ _ | refine Fr.alloc ?_ _ | refine Fr.setL ?_ _ _ _ ?_) | (left; simp; done) | (right; first | (simp; done) | (simp; omega) | omega)); done)
        · simp only [nth]
          first | (unfold Is; rfl) | (unfold Any; exact trivial) | exact IsSl.new _ _ _ _ | assumption
      · intro ac wx hf hbs hs hp K hK
        simp only [zA, Region.binds, Nat.reduceAdd] at hp
        clear hs
        clear hbs
        have h3 := hp
        clear hp
        have cx := q9 wx hf
        clear hf
        (try simp only [h3])
        go_simp
        try dsimp only
        refine hK.out _ _ ?_ ?_
        · change Fr [] _ _
          (repeat (first | with_reducible (first | exact Fr.refl _ _ | assumption | refine Fr.drew ?_ | refine Fr.drewN ?_ _ | refine Fr.alloc ?_ _ | refine Fr.setL ?_ _ _ _ ?_) | (left; simp; done) | (right; first | (simp; done) | (simp; omega) | omega)); done)
        · simp only [nth]
          first | (unfold Is; rfl) | (unfold Any; exact trivial) | exact IsSl.new _ _ _ _ | assumption
      · intro ac wx hf hbs hs hp K hK
        simp only [zA, Region.binds, Nat.reduceAdd] at hp
        have hs0 := hs 0 (by kernel_rfl)
        simp only [Array.getD_eq_getD_getElem?, List.getElem?_toArray, List.getElem?_cons_succ, List.getElem?_cons_zero, Option.getD_some] at hs0
        clear hs
        clear hbs
        clear hp
        clear hf
        go_simp
        try dsimp only
        refine hK.out _ _ ?_ ?_
        · change Fr [] _ _
          (repeat (first | with_reducible (first | exact Fr.refl _ _ | assumption | refine Fr.drew ?_ | refine Fr.drewN ?_ _ | refine Fr.alloc ?_ _ | refine Fr.setL ?_ _ _ _ ?_) | (left; simp; done) | (right; first | (simp; done) | (simp; omega) | omega)); done)
        · simp only [nth]
          first | (unfold Is; rfl) | (unfold Any; exact trivial) | exact IsSl.new _ _ _ _ | assumption
      · intro ac wx hf hbs hs hp K hK
        simp only [zA, Region.binds, Nat.reduceAdd] at hp
        clear hs
        clear hbs
        have h5 := hp
        clear hp
        clear hf
        (try simp only [h5])
        go_simp
        try dsimp only
        refine hK.out _ _ ?_ ?_
        · change Fr [] _ _
          (repeat (first | with_reducible (first | exact Fr.refl _ _ | assumption | refine Fr.drew ?_ | refine Fr.drewN ?_ _ | refine Fr.alloc ?_ _ | refine Fr.setL ?_ _ _ _ ?_) | (left; simp; done) | (right; first | (simp; done) | (simp; omega) | omega)); done)
        · simp only [nth]
          first | (unfold Is; rfl) | (unfold Any; exact trivial) | exact IsSl.new _ _ _ _ | assumption
      · intro ac wx hf hbs hs hp K hK
        simp only [zA, Region.binds, Nat.reduceAdd] at hp
        clear hs
        clear hbs
        have h6 := hp
        clear hp
        clear hf
        (try simp only [h6])
        go_simp
        try dsimp only
        refine hK.out _ _ ?_ ?_
        · change Fr [] _ _
          (repeat (first | with_reducible (first | exact Fr.refl _ _ | assumption | refine Fr.drew ?_ | refine Fr.drewN ?_ _ | refine Fr.alloc ?_ _ | refine Fr.setL ?_ _ _ _ ?_) | (left; simp; done) | (right; first | (simp; done) | (simp; omega) | omega)); done)
        · simp only [nth]
          first | (unfold Is; rfl) | (unfold Any; exact trivial) | exact IsSl.new _ _ _ _ | assumption
      · intro ac wx hf hbs hs hp K hK
        simp only [zA, Region.binds, Nat.reduceAdd] at hp
        clear hs
        clear hbs
        have h7 := hp
        clear hp
        (try simp only [h7])
        go_simp
        go_at_call 60
        refine (HVR.out wx hf).mono ?_
        rintro e w' ⟨rfl, fz⟩
        exact hK.out _ _ fz rfl
      · intro ac wx hf hbs hs hp K hK
        simp only [zA, Region.binds, Nat.reduceAdd] at hp
        have hs0 := hs 0 (by kernel_rfl)
        simp only [Array.getD_eq_getD_getElem?, List.getElem?_toArray, List.getElem?_cons_succ, List.getElem?_cons_zero, Option.getD_some] at hs0
        clear hs
        clear hbs
        clear hp
        clear hf
        go_simp
        try dsimp only
        refine hK.out _ _ ?_ ?_
        · change Fr [] _ _
          (repeat (first | with_reducible (first | exact Fr.refl _ _ | assumption | refine Fr.drew ?_ | refine Fr.drewN ?_ _ | refine Fr.alloc ?_ _ | refine Fr.setL ?_ _ _ _ ?_) | (left; simp; done) | (right; first | (simp; done) | (simp; omega) | omega)); done)
        · simp only [nth]
          first | (unfold Is; rfl) | (unfold Any; exact trivial) | exact IsSl.new _ _ _ _ | assumption
      · intro ac wx hf hbs hs hp K hK
        simp only [zA, Region.binds, Nat.reduceAdd] at hp
        clear hs
        clear hbs
        have h9 := hp
        clear hp
        clear hf
        (try simp only [h9])
        go_simp
        try dsimp only
        refine hK.out _ _ ?_ ?_
        · change Fr [] _ _
          (repeat (first | with_reducible (first | exact Fr.refl _ _ | assumption | refine Fr.drew ?_ | refine Fr.drewN ?_ _ | refine Fr.alloc ?_ _ | refine Fr.setL ?_ _ _ _ ?_) | (left; simp; done) | (right; first | (simp; done) | (simp; omega) | omega)); done)
        · simp only [nth]
          first | (unfold Is; rfl) | (unfold Any; exact trivial) | exact IsSl.new _ _ _ _ | assumption
      · intro ac wx hf hbs hs hp K hK
        simp only [zA, Region.binds, Nat.reduceAdd] at hp
        clear hs
        clear hbs
        have h10 := hp
        clear hp
        clear hf
        (try simp only [h10])
        go_simp
        try dsimp only
        refine hK.out _ _ ?_ ?_
        · change Fr [] _ _
          (repeat (first | with_reducible (first | exact Fr.refl _ _ | assumption | refine Fr.drew ?_ | refine Fr.drewN ?_ _ | refine Fr.alloc ?_ _ | refine Fr.setL ?_ _ _ _ ?_) | (left; simp; done) | (right; first | (simp; done) | (simp; omega) | omega)); done)
        · simp only [nth]
          first | (unfold Is; rfl) | (unfold Any; exact trivial) | exact IsSl.new _ _ _ _ | assumption
      · intro ac wx hf hbs hs hp K hK
        simp only [zA, Region.binds, Nat.reduceAdd] at hp
        clear hs
        clear hbs
        obtain ⟨h11, h8⟩ := hp
        (try simp only [h11, h8])
        go_simp
        go_at_call 61
        refine (HVA.out wx hf).mono ?_
        rintro e w' ⟨rfl, fz⟩
        exact hK.out _ _ fz rfl
      · intro ac wx hf hbs hs hp K hK
        simp only [zA, Region.binds, Nat.reduceAdd] at hp
        have hs0 := hs 0 (by kernel_rfl)
        simp only [Array.getD_eq_getD_getElem?, List.getElem?_toArray, List.getElem?_cons_succ, List.getElem?_cons_zero, Option.getD_some] at hs0
        clear hs
        clear hbs
        clear hp
        clear hf
        go_simp
        try dsimp only
        refine hK.out _ _ ?_ ?_
        · change Fr [] _ _
          (repeat (first | with_reducible (first | exact Fr.refl _ _ | assumption | refine Fr.drew ?_ | refine Fr.drewN ?_ _ | refine Fr.alloc ?_ _ | refine Fr.setL ?_ _ _ _ ?_) | (left; simp; done) | (right; first | (simp; done) | (simp; omega) | omega)); done)
        · simp only [nth]
          first | (unfold Is; rfl) | (unfold Any; exact trivial) | exact IsSl.new _ _ _ _ | assumption
      · intro ac wx hf hbs hs hp K hK
        simp only [zA, Region.binds, Nat.reduceAdd] at hp
        clear hs
        clear hbs
        have h13 := hp
        clear hp
        clear hf
        (try simp only [h13])
        go_simp
        try dsimp only
        refine hK.out _ _ ?_ ?_
        · change Fr [] _ _
          (repeat (first | with_reducible (first | exact Fr.refl _ _ | assumption | refine Fr.drew ?_ | refine Fr.drewN ?_ _ | refine Fr.alloc ?_ _ | refine Fr.setL ?_ _ _ _ ?_) | (left; simp; done) | (right; first | (simp; done) | (simp; omega) | omega)); done)
        · simp only [nth]
          first | (unfold Is; rfl) | (unfold Any; exact trivial) | exact IsSl.new _ _ _ _ | assumption
      · intro ac wx hf hbs hs hp K hK
        simp only [zA, Region.binds, Nat.reduceAdd] at hp
        clear hs
        clear hbs
        have h14 := hp
        clear hp
        clear hf
        (try simp only [h14])
        go_simp
        try dsimp only
        refine hK.out _ _ ?_ ?_
        · change Fr [] _ _
          (repeat (first | with_reducible (first | exact Fr.refl _ _ | assumption | refine Fr.drew ?_ | refine Fr.drewN ?_ _ | refine Fr.alloc ?_ _ | refine Fr.setL ?_ _ _ _ ?_) | (left; simp; done) | (right; first | (simp; done) | (simp; omega) | omega)); done)
        · simp only [nth]
          first | (unfold Is; rfl) | (unfold Any; exact trivial) | exact IsSl.new _ _ _ _ | assumption
      · intro ac wx hf hbs hs hp K hK
        simp only [zA, Region.binds, Nat.reduceAdd] at hp
        clear hs
        clear hbs
        obtain ⟨h15, h12⟩ := hp
        (try simp only [h15, h12])
        go_simp
        go_at_call 62
        refine (HVS.out wx hf).mono ?_
        rintro e w' ⟨rfl, fz⟩
        exact hK.out _ _ fz rfl
      · intro ac wx hf hbs hs hp K hK
        simp only [zA, Region.binds, Nat.reduceAdd] at hp
        clear hs
        clear hbs
        obtain ⟨h0, h4, h8, h12, h16, h16_2⟩ := hp
        (try simp only [h0, h4, h8, h12, h16])
        go_simp
        go_at_call 59
        refine (HEV.out wx).mono ?_
        rintro e w' ⟨rfl, fz⟩
        exact hK.out _ _ fz rfl
      · intro ac wx hf hbs hs hp K hK
        simp only [zA, Region.binds, Nat.reduceAdd] at hp
        clear hs
        clear hbs
        obtain ⟨h17, h17_2, h0, h1, h2, h3, h4, h5, h6, h7, h8, h9, h10, h11, h12, h13, h14, h15, h16, h17_3⟩ := hp
        clear hf
        (try simp only [h17, h0, h1, h2, h3, h4, h5, h6, h7, h8, h9, h10, h11, h12, h13, h14, h15, h16])
        go_simp
        try dsimp only
        refine hK.out _ _ ?_ ?_
        · change Fr [] _ _
          (repeat (first | with_reducible (first | exact Fr.refl _ _ | assumption | refine Fr.drew ?_ | refine Fr.drewN ?_ _ | refine Fr.alloc ?_ _ | refine Fr.setL ?_ _ _ _ ?_) | (left; simp; done) | (right; first | (simp; done) | (simp; omega) | omega)); done)
        · simp only [nth]
          first | (unfold Is; rfl) | (unfold Any; exact trivial) | exact IsSl.new _ _ _ _ | assumption
    case hD =>
      intro xv wx hf hp
      simp only [List.take_succ_cons, List.take_zero, List.drop_succ_cons, List.drop_zero, fill, List.setIfInBounds_toArray, List.set_cons_zero, List.set_cons_succ, Nat.reduceAdd, Act.put]
      rw [show live 19 (deadC [none, none, none, none, none, none, none, none, none, none, none, none, none, none, none, none, none, none, none]) = [0, 1, 2, 3, 4, 5, 6, 7, 8, 9, 10, 11, 12, 13, 14, 15, 16, 17, 18] from by decide] at hp
      simp only [holds, nth, Is, Any, true_and, and_true] at hp
      obtain ⟨p0, p1, p2, p3, p4, p5, p6, p7, p8, p9, p10, p11, p12, p13, p14, p15, p16, p17, p18⟩ := hp
      simp only [p18]
      have h4 := H0.out.1.fr0 (HF2.out.tr hf)
      have hb4 := HBP.out.1.fr (HF2.out.tr hf) (by simp)
      have hs4 := HBP.out.2.fr (HF2.out.tr hf)
      obtain ⟨w4, hw4⟩ : ∃ w4, w4 = wx := ⟨_, rfl⟩
      subst hw4
      have H4 := Lib.hid (And.intro h4 (And.intro (HF2.out.tr hf) (And.intro hb4 hs4)))
      have k7 := hb4.cell 7 rfl
      have k8 := hb4.cell 8 rfl
      simp only [PD.arr, List.getElem_toArray, List.getElem_cons_zero, List.getElem_cons_succ] at k7 k8
      clear hf h4 hb4 hs4 p0 p1 p2 p3 p4 p5 p6 p7 p8 p9 p10 p11 p12 p13 p14 p15 p16 p17 k0 k1 k2 k3 k4 k5 k6 q6 q7 q9 efr eto
      have he8 := HE.out.2
      have hc : e = 8 ∨ e = 9 ∨ e = 10 ∨ e = 11 ∨ 12 ≤ e := by omega
      rcases hc with hc | hc | hc | hc | hc
      · obtain rfl : e = 8 := by omega
        have eN : hearN m d = numG d.info := by unfold hearN; rw [HE.out.1]; rfl
        have HEN := Lib.hid eN
        have hrd := fld_ReadNumber w4 s d.info (H4.out.2.2.2).1 (evtM_four HO.out.1 (st := m.state) (vr := m.vr) (va := m.va) (vs := m.vs) (by have := HE.out.1; unfold hearE at this; omega)) HBY.out
        clear eN
        go_wp2_with fail
        refine hrd.mono ?_
        rintro e9 w9 ⟨rfl, rfl⟩
        go_wp2_with fail
        refine (tie_begin _ v m (some ⟨P, 0, none⟩) (some d) d.po (numG d.info) H4.out.1 ⟨P, s, rfl, H4.out.2.2.1, H4.out.2.2.2, by simp [Sl.blk, Sl.nil]⟩).mono ?_
        rintro e5 w5 ⟨rfl, h5, f5⟩
        have eB : beginM m (some d) d.po (numG d.info) = hearB m d := by unfold hearB; rw [HE.out.1]; rw [HEN.out]; rfl
        rw [eB] at h5
        have H5 := Lib.hid (And.intro h5 (And.intro H4.out.2.1 f5))
        clear h5 f5 eB k7 k8
        clear hrd
        have hnu := tie_numbered w5 (v.begun (.pointer (some ⟨P, 0, none⟩))) (hearB m d) ((8 : Nat) : Int) (hearN m d) H5.out.1 (show 0 ≤ m.state ∧ m.state < 14 from HI.out.st) (HI.out.hearB HO.out.1 HBY.out).num (Nat.zero_le _)
        have hnu := (hnu : Calls Tryz.prog _ #[.pointer (some ⟨v.t, 0, none⟩), .int .i64 ((8 : Nat) : Int), .int .i64 (hearN m d)] w5 _)
        have eR : numberedM (hearB m d) ((8 : Nat) : Int) (hearN m d) = hearR m d := by unfold hearR; rw [HE.out.1]
        rw [eR] at hnu
        have HNU := Lib.hid hnu
        obtain ⟨N, hN⟩ : ∃ N, hearN m d = N := ⟨_, rfl⟩
        obtain ⟨B, hB⟩ : ∃ B, (hearR m d).1 = B := ⟨_, rfl⟩
        rw [hB] at hnu
        rw [HEN.out] at hnu
        skip
        have HB1 := Lib.hid hB
        clear eR hN hB
        go_wp2_with fail
        refine hnu.mono ?_
        rintro e7 w7 ⟨rfl, ht⟩
        have W5 : Went w1 w5 (v.begun (.pointer (some ⟨P, 0, none⟩))) (v.begun (.pointer (some ⟨P, 0, none⟩))) := ((Went.refl _ _).fr0 H5.out.2.1).own H5.out.2.2
        obtain ⟨v7, h7, W7⟩ := W5.step ht
        have H7 := Lib.hid (And.intro h7 W7)
        clear h7 W7 W5 ht hnu HNU
        cases B with
        | true =>
          have eM : (hearR m d).2 = hearM m d := by unfold hearM; rw [if_pos HB1.out]
          have h7 := H7.out.1
          rw [eM] at h7
          have hend := tie_end w7 v7 (hearM m d) h7
          rw [show v7.t = v.t from H7.out.2.t] at hend
          have HW6 := Lib.hid H7.out.2
          clear eM h7
          go_wp2_with fail
          refine hend.mono ?_
          rintro e6 w6 ⟨x, rfl, ho, h7, f7⟩
          have ho' := ho
          obtain ⟨os, oy, ok, -, rfl, -⟩ := ho
          have hlz : P + 1 ∉ [v.t] := fun hm => by simp at hm; have := H0.out.2.2.1 v.t v.t_foot; omega
          have hbz := (HBZ.out.fr HW6.out.fr (fun hm => by have := H0.out.2.2.1 _ (v.begun_foot _ _ hm); omega)).fr f7 hlz
          have HEND := Lib.hid (gives_endP (w7 := (((w6.setCell ⟨P + 1, 0, none⟩ (.slice os.A (hearM m d).send.length os.c)).setCell ⟨P + 1, 1, none⟩ (.slice oy.A (hearM m d).say.length oy.c)).setCell ⟨P + 1, 2, none⟩ (.slice ok.A (hearM m d).took.length ok.c)).setCell ⟨P + 1, 3, none⟩ (.bool (hearM m d).used)) H0.out.1 H0.out.2.1 H0.out.2.2.1 H0.out.2.2.2 HPZ.out HBZ.out HW6.out ho' h7 f7 rfl)
          have y0 := hbz.cell 0 rfl
          have y1 := hbz.cell 1 rfl
          have y2 := hbz.cell 2 rfl
          have y3 := hbz.cell 3 rfl
          have x0 := hbz.free 0
          have x1 := hbz.free 1
          have x2 := hbz.free 2
          have x3 := hbz.free 3
          simp only [List.getElem_toArray, List.getElem_cons_zero, List.getElem_cons_succ] at y0 y1 y2 y3
          clear ho' h7 f7 hlz hbz hend
          go_wp2
          obtain ⟨b8, hg⟩ := HEND.out
          have g0 := b8.cell 0 rfl
          have g1 := b8.cell 1 rfl
          have g2 := b8.cell 2 rfl
          have g3 := b8.cell 3 rfl
          simp only [List.getElem_toArray, List.getElem_cons_zero, List.getElem_cons_succ] at g0 g1 g2 g3
          exact bodyPost_ret (v := .agg #[.slice os.A (hearM m d).send.length os.c, .slice oy.A (hearM m d).say.length oy.c, .slice ok.A (hearM m d).took.length ok.c, .bool (hearM m d).used]) (by simp [results, Tryz.results22, go_sem, g0, g1, g2, g3]) rfl hg
        | false =>
          have eM : evM (rowsM s0 8) (hearR m d).2 = hearM m d := by unfold hearM; rw [if_neg (by rw [HB1.out]; decide), HST.out.1, HE.out.1, Int.toNat_natCast, Int.toNat_natCast]
          have hin := (HI.out.hearB HO.out.1 HBY.out).numberedM (e := hearE m d) (hearN_ok (m := m) HO.out.1 HBY.out)
          have hsB : (hearR m d).2.state = (s0 : Int) := by rw [show (hearR m d).2.state = m.state from numberedM_state _ _ _]; exact HST.out.1
          have hev := tie_ev w7 v7 (hearR m d).2 s0 8 (j + 1) 1 H7.out.1 hin hsB HST.out.2 (by have := HE.out.2; omega) (by have := HF.out; rw [HST.out.1, HE.out.1] at this; simpa using this) (by omega) (by omega) (fun _ => ⟨d, by rw [show (hearR m d).2.p = (hearB m d).p from numberedM_p _ _ _]; rfl⟩)
          rw [eM, show v7.t = v.t from H7.out.2.t] at hev
          clear eM hin hsB
          go_wp2_with fail
          refine hev.mono ?_
          rintro e8 w8 ⟨rfl, ht⟩
          obtain ⟨v8, h8, W8⟩ := H7.out.2.step ht
          have hend := tie_end w8 v8 (hearM m d) h8
          rw [show v8.t = v.t from W8.t] at hend
          have HW6 := Lib.hid W8
          clear ht h8 W8 hev
          go_wp2_with fail
          refine hend.mono ?_
          rintro e6 w6 ⟨x, rfl, ho, h7, f7⟩
          have ho' := ho
          obtain ⟨os, oy, ok, -, rfl, -⟩ := ho
          have hlz : P + 1 ∉ [v.t] := fun hm => by simp at hm; have := H0.out.2.2.1 v.t v.t_foot; omega
          have hbz := (HBZ.out.fr HW6.out.fr (fun hm => by have := H0.out.2.2.1 _ (v.begun_foot _ _ hm); omega)).fr f7 hlz
          have HEND := Lib.hid (gives_endP (w7 := (((w6.setCell ⟨P + 1, 0, none⟩ (.slice os.A (hearM m d).send.length os.c)).setCell ⟨P + 1, 1, none⟩ (.slice oy.A (hearM m d).say.length oy.c)).setCell ⟨P + 1, 2, none⟩ (.slice ok.A (hearM m d).took.length ok.c)).setCell ⟨P + 1, 3, none⟩ (.bool (hearM m d).used)) H0.out.1 H0.out.2.1 H0.out.2.2.1 H0.out.2.2.2 HPZ.out HBZ.out HW6.out ho' h7 f7 rfl)
          have y0 := hbz.cell 0 rfl
          have y1 := hbz.cell 1 rfl
          have y2 := hbz.cell 2 rfl
          have y3 := hbz.cell 3 rfl
          have x0 := hbz.free 0
          have x1 := hbz.free 1
          have x2 := hbz.free 2
          have x3 := hbz.free 3
          simp only [List.getElem_toArray, List.getElem_cons_zero, List.getElem_cons_succ] at y0 y1 y2 y3
          clear ho' h7 f7 hlz hbz hend
          go_wp2
          obtain ⟨b8, hg⟩ := HEND.out
          have g0 := b8.cell 0 rfl
          have g1 := b8.cell 1 rfl
          have g2 := b8.cell 2 rfl
          have g3 := b8.cell 3 rfl
          simp only [List.getElem_toArray, List.getElem_cons_zero, List.getElem_cons_succ] at g0 g1 g2 g3
          exact bodyPost_ret (v := .agg #[.slice os.A (hearM m d).send.length os.c, .slice oy.A (hearM m d).say.length oy.c, .slice ok.A (hearM m d).took.length ok.c, .bool (hearM m d).used]) (by simp [results, Tryz.results22, go_sem, g0, g1, g2, g3]) rfl hg
      · obtain rfl : e = 9 := by omega
        have eN : hearN m d = numG d.info := by unfold hearN; rw [HE.out.1]; rfl
        have HEN := Lib.hid eN
        have hrd := fld_ReadNumber w4 s d.info (H4.out.2.2.2).1 (evtM_four HO.out.1 (st := m.state) (vr := m.vr) (va := m.va) (vs := m.vs) (by have := HE.out.1; unfold hearE at this; omega)) HBY.out
        clear eN
        go_wp2_with fail
        refine hrd.mono ?_
        rintro e9 w9 ⟨rfl, rfl⟩
        go_wp2_with fail
        refine (tie_begin _ v m (some ⟨P, 0, none⟩) (some d) d.po (numG d.info) H4.out.1 ⟨P, s, rfl, H4.out.2.2.1, H4.out.2.2.2, by simp [Sl.blk, Sl.nil]⟩).mono ?_
        rintro e5 w5 ⟨rfl, h5, f5⟩
        have eB : beginM m (some d) d.po (numG d.info) = hearB m d := by unfold hearB; rw [HE.out.1]; rw [HEN.out]; rfl
        rw [eB] at h5
        have H5 := Lib.hid (And.intro h5 (And.intro H4.out.2.1 f5))
        clear h5 f5 eB k7 k8
        clear hrd
        have hnu := tie_numbered w5 (v.begun (.pointer (some ⟨P, 0, none⟩))) (hearB m d) ((9 : Nat) : Int) (hearN m d) H5.out.1 (show 0 ≤ m.state ∧ m.state < 14 from HI.out.st) (HI.out.hearB HO.out.1 HBY.out).num (Nat.zero_le _)
        have hnu := (hnu : Calls Tryz.prog _ #[.pointer (some ⟨v.t, 0, none⟩), .int .i64 ((9 : Nat) : Int), .int .i64 (hearN m d)] w5 _)
        have eR : numberedM (hearB m d) ((9 : Nat) : Int) (hearN m d) = hearR m d := by unfold hearR; rw [HE.out.1]
        rw [eR] at hnu
        have HNU := Lib.hid hnu
        obtain ⟨N, hN⟩ : ∃ N, hearN m d = N := ⟨_, rfl⟩
        obtain ⟨B, hB⟩ : ∃ B, (hearR m d).1 = B := ⟨_, rfl⟩
        rw [hB] at hnu
        rw [HEN.out] at hnu
        skip
        have HB1 := Lib.hid hB
        clear eR hN hB
        go_wp2_with fail
        refine hnu.mono ?_
        rintro e7 w7 ⟨rfl, ht⟩
        have W5 : Went w1 w5 (v.begun (.pointer (some ⟨P, 0, none⟩))) (v.begun (.pointer (some ⟨P, 0, none⟩))) := ((Went.refl _ _).fr0 H5.out.2.1).own H5.out.2.2
        obtain ⟨v7, h7, W7⟩ := W5.step ht
        have H7 := Lib.hid (And.intro h7 W7)
        clear h7 W7 W5 ht hnu HNU
        cases B with
        | true =>
          have eM : (hearR m d).2 = hearM m d := by unfold hearM; rw [if_pos HB1.out]
          have h7 := H7.out.1
          rw [eM] at h7
          have hend := tie_end w7 v7 (hearM m d) h7
          rw [show v7.t = v.t from H7.out.2.t] at hend
          have HW6 := Lib.hid H7.out.2
          clear eM h7
          go_wp2_with fail
          refine hend.mono ?_
          rintro e6 w6 ⟨x, rfl, ho, h7, f7⟩
          have ho' := ho
          obtain ⟨os, oy, ok, -, rfl, -⟩ := ho
          have hlz : P + 1 ∉ [v.t] := fun hm => by simp at hm; have := H0.out.2.2.1 v.t v.t_foot; omega
          have hbz := (HBZ.out.fr HW6.out.fr (fun hm => by have := H0.out.2.2.1 _ (v.begun_foot _ _ hm); omega)).fr f7 hlz
          have HEND := Lib.hid (gives_endP (w7 := (((w6.setCell ⟨P + 1, 0, none⟩ (.slice os.A (hearM m d).send.length os.c)).setCell ⟨P + 1, 1, none⟩ (.slice oy.A (hearM m d).say.length oy.c)).setCell ⟨P + 1, 2, none⟩ (.slice ok.A (hearM m d).took.length ok.c)).setCell ⟨P + 1, 3, none⟩ (.bool (hearM m d).used)) H0.out.1 H0.out.2.1 H0.out.2.2.1 H0.out.2.2.2 HPZ.out HBZ.out HW6.out ho' h7 f7 rfl)
          have y0 := hbz.cell 0 rfl
          have y1 := hbz.cell 1 rfl
          have y2 := hbz.cell 2 rfl
          have y3 := hbz.cell 3 rfl
          have x0 := hbz.free 0
          have x1 := hbz.free 1
          have x2 := hbz.free 2
          have x3 := hbz.free 3
          simp only [List.getElem_toArray, List.getElem_cons_zero, List.getElem_cons_succ] at y0 y1 y2 y3
          clear ho' h7 f7 hlz hbz hend
          go_wp2
          obtain ⟨b8, hg⟩ := HEND.out
          have g0 := b8.cell 0 rfl
          have g1 := b8.cell 1 rfl
          have g2 := b8.cell 2 rfl
          have g3 := b8.cell 3 rfl
          simp only [List.getElem_toArray, List.getElem_cons_zero, List.getElem_cons_succ] at g0 g1 g2 g3
          exact bodyPost_ret (v := .agg #[.slice os.A (hearM m d).send.length os.c, .slice oy.A (hearM m d).say.length oy.c, .slice ok.A (hearM m d).took.length ok.c, .bool (hearM m d).used]) (by simp [results, Tryz.results22, go_sem, g0, g1, g2, g3]) rfl hg
        | false =>
          have eM : evM (rowsM s0 9) (hearR m d).2 = hearM m d := by unfold hearM; rw [if_neg (by rw [HB1.out]; decide), HST.out.1, HE.out.1, Int.toNat_natCast, Int.toNat_natCast]
          have hin := (HI.out.hearB HO.out.1 HBY.out).numberedM (e := hearE m d) (hearN_ok (m := m) HO.out.1 HBY.out)
          have hsB : (hearR m d).2.state = (s0 : Int) := by rw [show (hearR m d).2.state = m.state from numberedM_state _ _ _]; exact HST.out.1
          have hev := tie_ev w7 v7 (hearR m d).2 s0 9 (j + 1) 1 H7.out.1 hin hsB HST.out.2 (by have := HE.out.2; omega) (by have := HF.out; rw [HST.out.1, HE.out.1] at this; simpa using this) (by omega) (by omega) (fun _ => ⟨d, by rw [show (hearR m d).2.p = (hearB m d).p from numberedM_p _ _ _]; rfl⟩)
          rw [eM, show v7.t = v.t from H7.out.2.t] at hev
          clear eM hin hsB
          go_wp2_with fail
          refine hev.mono ?_
          rintro e8 w8 ⟨rfl, ht⟩
          obtain ⟨v8, h8, W8⟩ := H7.out.2.step ht
          have hend := tie_end w8 v8 (hearM m d) h8
          rw [show v8.t = v.t from W8.t] at hend
          have HW6 := Lib.hid W8
          clear ht h8 W8 hev
          go_wp2_with fail
          refine hend.mono ?_
          rintro e6 w6 ⟨x, rfl, ho, h7, f7⟩
          have ho' := ho
          obtain ⟨os, oy, ok, -, rfl, -⟩ := ho
          have hlz : P + 1 ∉ [v.t] := fun hm => by simp at hm; have := H0.out.2.2.1 v.t v.t_foot; omega
          have hbz := (HBZ.out.fr HW6.out.fr (fun hm => by have := H0.out.2.2.1 _ (v.begun_foot _ _ hm); omega)).fr f7 hlz
          have HEND := Lib.hid (gives_endP (w7 := (((w6.setCell ⟨P + 1, 0, none⟩ (.slice os.A (hearM m d).send.length os.c)).setCell ⟨P + 1, 1, none⟩ (.slice oy.A (hearM m d).say.length oy.c)).setCell ⟨P + 1, 2, none⟩ (.slice ok.A (hearM m d).took.length ok.c)).setCell ⟨P + 1, 3, none⟩ (.bool (hearM m d).used)) H0.out.1 H0.out.2.1 H0.out.2.2.1 H0.out.2.2.2 HPZ.out HBZ.out HW6.out ho' h7 f7 rfl)
          have y0 := hbz.cell 0 rfl
          have y1 := hbz.cell 1 rfl
          have y2 := hbz.cell 2 rfl
          have y3 := hbz.cell 3 rfl
          have x0 := hbz.free 0
          have x1 := hbz.free 1
          have x2 := hbz.free 2
          have x3 := hbz.free 3
          simp only [List.getElem_toArray, List.getElem_cons_zero, List.getElem_cons_succ] at y0 y1 y2 y3
          clear ho' h7 f7 hlz hbz hend
          go_wp2
          obtain ⟨b8, hg⟩ := HEND.out
          have g0 := b8.cell 0 rfl
          have g1 := b8.cell 1 rfl
          have g2 := b8.cell 2 rfl
          have g3 := b8.cell 3 rfl
          simp only [List.getElem_toArray, List.getElem_cons_zero, List.getElem_cons_succ] at g0 g1 g2 g3
          exact bodyPost_ret (v := .agg #[.slice os.A (hearM m d).send.length os.c, .slice oy.A (hearM m d).say.length oy.c, .slice ok.A (hearM m d).took.length ok.c, .bool (hearM m d).used]) (by simp [results, Tryz.results22, go_sem, g0, g1, g2, g3]) rfl hg
      · obtain rfl : e = 10 := by omega
        have eN : hearN m d = numG d.info := by unfold hearN; rw [HE.out.1]; rfl
        have HEN := Lib.hid eN
        have hrd := fld_ReadNumber w4 s d.info (H4.out.2.2.2).1 (evtM_four HO.out.1 (st := m.state) (vr := m.vr) (va := m.va) (vs := m.vs) (by have := HE.out.1; unfold hearE at this; omega)) HBY.out
        clear eN
        go_wp2_with fail
        refine hrd.mono ?_
        rintro e9 w9 ⟨rfl, rfl⟩
        go_wp2_with fail
        refine (tie_begin _ v m (some ⟨P, 0, none⟩) (some d) d.po 0 H4.out.1 ⟨P, s, rfl, H4.out.2.2.1, H4.out.2.2.2, by simp [Sl.blk, Sl.nil]⟩).mono ?_
        rintro e5 w5 ⟨rfl, h5, f5⟩
        have eB : beginM m (some d) d.po 0 = hearB m d := by unfold hearB; rw [HE.out.1]; rfl
        rw [eB] at h5
        have H5 := Lib.hid (And.intro h5 (And.intro H4.out.2.1 f5))
        clear h5 f5 eB k7 k8
        clear hrd
        have hnu := tie_numbered w5 (v.begun (.pointer (some ⟨P, 0, none⟩))) (hearB m d) ((10 : Nat) : Int) (hearN m d) H5.out.1 (show 0 ≤ m.state ∧ m.state < 14 from HI.out.st) (HI.out.hearB HO.out.1 HBY.out).num (Nat.zero_le _)
        have hnu := (hnu : Calls Tryz.prog _ #[.pointer (some ⟨v.t, 0, none⟩), .int .i64 ((10 : Nat) : Int), .int .i64 (hearN m d)] w5 _)
        have eR : numberedM (hearB m d) ((10 : Nat) : Int) (hearN m d) = hearR m d := by unfold hearR; rw [HE.out.1]
        rw [eR] at hnu
        have HNU := Lib.hid hnu
        obtain ⟨N, hN⟩ : ∃ N, hearN m d = N := ⟨_, rfl⟩
        obtain ⟨B, hB⟩ : ∃ B, (hearR m d).1 = B := ⟨_, rfl⟩
        rw [hB] at hnu
        rw [HEN.out] at hnu
        skip
        have HB1 := Lib.hid hB
        clear eR hN hB
        go_wp2_with fail
        refine hnu.mono ?_
        rintro e7 w7 ⟨rfl, ht⟩
        have W5 : Went w1 w5 (v.begun (.pointer (some ⟨P, 0, none⟩))) (v.begun (.pointer (some ⟨P, 0, none⟩))) := ((Went.refl _ _).fr0 H5.out.2.1).own H5.out.2.2
        obtain ⟨v7, h7, W7⟩ := W5.step ht
        have H7 := Lib.hid (And.intro h7 W7)
        clear h7 W7 W5 ht hnu HNU
        cases B with
        | true =>
          have eM : (hearR m d).2 = hearM m d := by unfold hearM; rw [if_pos HB1.out]
          have h7 := H7.out.1
          rw [eM] at h7
          have hend := tie_end w7 v7 (hearM m d) h7
          rw [show v7.t = v.t from H7.out.2.t] at hend
          have HW6 := Lib.hid H7.out.2
          clear eM h7
          go_wp2_with fail
          refine hend.mono ?_
          rintro e6 w6 ⟨x, rfl, ho, h7, f7⟩
          have ho' := ho
          obtain ⟨os, oy, ok, -, rfl, -⟩ := ho
          have hlz : P + 1 ∉ [v.t] := fun hm => by simp at hm; have := H0.out.2.2.1 v.t v.t_foot; omega
          have hbz := (HBZ.out.fr HW6.out.fr (fun hm => by have := H0.out.2.2.1 _ (v.begun_foot _ _ hm); omega)).fr f7 hlz
          have HEND := Lib.hid (gives_endP (w7 := (((w6.setCell ⟨P + 1, 0, none⟩ (.slice os.A (hearM m d).send.length os.c)).setCell ⟨P + 1, 1, none⟩ (.slice oy.A (hearM m d).say.length oy.c)).setCell ⟨P + 1, 2, none⟩ (.slice ok.A (hearM m d).took.length ok.c)).setCell ⟨P + 1, 3, none⟩ (.bool (hearM m d).used)) H0.out.1 H0.out.2.1 H0.out.2.2.1 H0.out.2.2.2 HPZ.out HBZ.out HW6.out ho' h7 f7 rfl)
          have y0 := hbz.cell 0 rfl
          have y1 := hbz.cell 1 rfl
          have y2 := hbz.cell 2 rfl
          have y3 := hbz.cell 3 rfl
          have x0 := hbz.free 0
          have x1 := hbz.free 1
          have x2 := hbz.free 2
          have x3 := hbz.free 3
          simp only [List.getElem_toArray, List.getElem_cons_zero, List.getElem_cons_succ] at y0 y1 y2 y3
          clear ho' h7 f7 hlz hbz hend
          go_wp2
          obtain ⟨b8, hg⟩ := HEND.out
          have g0 := b8.cell 0 rfl
          have g1 := b8.cell 1 rfl
          have g2 := b8.cell 2 rfl
          have g3 := b8.cell 3 rfl
          simp only [List.getElem_toArray, List.getElem_cons_zero, List.getElem_cons_succ] at g0 g1 g2 g3
          exact bodyPost_ret (v := .agg #[.slice os.A (hearM m d).send.length os.c, .slice oy.A (hearM m d).say.length oy.c, .slice ok.A (hearM m d).took.length ok.c, .bool (hearM m d).used]) (by simp [results, Tryz.results22, go_sem, g0, g1, g2, g3]) rfl hg
        | false =>
          have eM : evM (rowsM s0 10) (hearR m d).2 = hearM m d := by unfold hearM; rw [if_neg (by rw [HB1.out]; decide), HST.out.1, HE.out.1, Int.toNat_natCast, Int.toNat_natCast]
          have hin := (HI.out.hearB HO.out.1 HBY.out).numberedM (e := hearE m d) (hearN_ok (m := m) HO.out.1 HBY.out)
          have hsB : (hearR m d).2.state = (s0 : Int) := by rw [show (hearR m d).2.state = m.state from numberedM_state _ _ _]; exact HST.out.1
          have hev := tie_ev w7 v7 (hearR m d).2 s0 10 (j + 1) 1 H7.out.1 hin hsB HST.out.2 (by have := HE.out.2; omega) (by have := HF.out; rw [HST.out.1, HE.out.1] at this; simpa using this) (by omega) (by omega) (fun _ => ⟨d, by rw [show (hearR m d).2.p = (hearB m d).p from numberedM_p _ _ _]; rfl⟩)
          rw [eM, show v7.t = v.t from H7.out.2.t] at hev
          clear eM hin hsB
          go_wp2_with fail
          refine hev.mono ?_
          rintro e8 w8 ⟨rfl, ht⟩
          obtain ⟨v8, h8, W8⟩ := H7.out.2.step ht
          have hend := tie_end w8 v8 (hearM m d) h8
          rw [show v8.t = v.t from W8.t] at hend
          have HW6 := Lib.hid W8
          clear ht h8 W8 hev
          go_wp2_with fail
          refine hend.mono ?_
          rintro e6 w6 ⟨x, rfl, ho, h7, f7⟩
          have ho' := ho
          obtain ⟨os, oy, ok, -, rfl, -⟩ := ho
          have hlz : P + 1 ∉ [v.t] := fun hm => by simp at hm; have := H0.out.2.2.1 v.t v.t_foot; omega
          have hbz := (HBZ.out.fr HW6.out.fr (fun hm => by have := H0.out.2.2.1 _ (v.begun_foot _ _ hm); omega)).fr f7 hlz
          have HEND := Lib.hid (gives_endP (w7 := (((w6.setCell ⟨P + 1, 0, none⟩ (.slice os.A (hearM m d).send.length os.c)).setCell ⟨P + 1, 1, none⟩ (.slice oy.A (hearM m d).say.length oy.c)).setCell ⟨P + 1, 2, none⟩ (.slice ok.A (hearM m d).took.length ok.c)).setCell ⟨P + 1, 3, none⟩ (.bool (hearM m d).used)) H0.out.1 H0.out.2.1 H0.out.2.2.1 H0.out.2.2.2 HPZ.out HBZ.out HW6.out ho' h7 f7 rfl)
          have y0 := hbz.cell 0 rfl
          have y1 := hbz.cell 1 rfl
          have y2 := hbz.cell 2 rfl
          have y3 := hbz.cell 3 rfl
          have x0 := hbz.free 0
          have x1 := hbz.free 1
          have x2 := hbz.free 2
          have x3 := hbz.free 3
          simp only [List.getElem_toArray, List.getElem_cons_zero, List.getElem_cons_succ] at y0 y1 y2 y3
          clear ho' h7 f7 hlz hbz hend
          go_wp2
          obtain ⟨b8, hg⟩ := HEND.out
          have g0 := b8.cell 0 rfl
          have g1 := b8.cell 1 rfl
          have g2 := b8.cell 2 rfl
          have g3 := b8.cell 3 rfl
          simp only [List.getElem_toArray, List.getElem_cons_zero, List.getElem_cons_succ] at g0 g1 g2 g3
          exact bodyPost_ret (v := .agg #[.slice os.A (hearM m d).send.length os.c, .slice oy.A (hearM m d).say.length oy.c, .slice ok.A (hearM m d).took.length ok.c, .bool (hearM m d).used]) (by simp [results, Tryz.results22, go_sem, g0, g1, g2, g3]) rfl hg
      · obtain rfl : e = 11 := by omega
        have eN : hearN m d = numG d.info := by unfold hearN; rw [HE.out.1]; rfl
        have HEN := Lib.hid eN
        have hrd := fld_ReadNumber w4 s d.info (H4.out.2.2.2).1 (evtM_four HO.out.1 (st := m.state) (vr := m.vr) (va := m.va) (vs := m.vs) (by have := HE.out.1; unfold hearE at this; omega)) HBY.out
        clear eN
        go_wp2_with fail
        refine hrd.mono ?_
        rintro e9 w9 ⟨rfl, rfl⟩
        go_wp2_with fail
        refine (tie_begin _ v m (some ⟨P, 0, none⟩) (some d) d.po 0 H4.out.1 ⟨P, s, rfl, H4.out.2.2.1, H4.out.2.2.2, by simp [Sl.blk, Sl.nil]⟩).mono ?_
        rintro e5 w5 ⟨rfl, h5, f5⟩
        have eB : beginM m (some d) d.po 0 = hearB m d := by unfold hearB; rw [HE.out.1]; rfl
        rw [eB] at h5
        have H5 := Lib.hid (And.intro h5 (And.intro H4.out.2.1 f5))
        clear h5 f5 eB k7 k8
        clear hrd
        have hnu := tie_numbered w5 (v.begun (.pointer (some ⟨P, 0, none⟩))) (hearB m d) ((11 : Nat) : Int) (hearN m d) H5.out.1 (show 0 ≤ m.state ∧ m.state < 14 from HI.out.st) (HI.out.hearB HO.out.1 HBY.out).num (Nat.zero_le _)
        have hnu := (hnu : Calls Tryz.prog _ #[.pointer (some ⟨v.t, 0, none⟩), .int .i64 ((11 : Nat) : Int), .int .i64 (hearN m d)] w5 _)
        have eR : numberedM (hearB m d) ((11 : Nat) : Int) (hearN m d) = hearR m d := by unfold hearR; rw [HE.out.1]
        rw [eR] at hnu
        have HNU := Lib.hid hnu
        obtain ⟨N, hN⟩ : ∃ N, hearN m d = N := ⟨_, rfl⟩
        obtain ⟨B, hB⟩ : ∃ B, (hearR m d).1 = B := ⟨_, rfl⟩
        rw [hB] at hnu
        rw [HEN.out] at hnu
        skip
        have HB1 := Lib.hid hB
        clear eR hN hB
        go_wp2_with fail
        refine hnu.mono ?_
        rintro e7 w7 ⟨rfl, ht⟩
        have W5 : Went w1 w5 (v.begun (.pointer (some ⟨P, 0, none⟩))) (v.begun (.pointer (some ⟨P, 0, none⟩))) := ((Went.refl _ _).fr0 H5.out.2.1).own H5.out.2.2
        obtain ⟨v7, h7, W7⟩ := W5.step ht
        have H7 := Lib.hid (And.intro h7 W7)
        clear h7 W7 W5 ht hnu HNU
        cases B with
        | true =>
          have eM : (hearR m d).2 = hearM m d := by unfold hearM; rw [if_pos HB1.out]
          have h7 := H7.out.1
          rw [eM] at h7
          have hend := tie_end w7 v7 (hearM m d) h7
          rw [show v7.t = v.t from H7.out.2.t] at hend
          have HW6 := Lib.hid H7.out.2
          clear eM h7
          go_wp2_with fail
          refine hend.mono ?_
          rintro e6 w6 ⟨x, rfl, ho, h7, f7⟩
          have ho' := ho
          obtain ⟨os, oy, ok, -, rfl, -⟩ := ho
          have hlz : P + 1 ∉ [v.t] := fun hm => by simp at hm; have := H0.out.2.2.1 v.t v.t_foot; omega
          have hbz := (HBZ.out.fr HW6.out.fr (fun hm => by have := H0.out.2.2.1 _ (v.begun_foot _ _ hm); omega)).fr f7 hlz
          have HEND := Lib.hid (gives_endP (w7 := (((w6.setCell ⟨P + 1, 0, none⟩ (.slice os.A (hearM m d).send.length os.c)).setCell ⟨P + 1, 1, none⟩ (.slice oy.A (hearM m d).say.length oy.c)).setCell ⟨P + 1, 2, none⟩ (.slice ok.A (hearM m d).took.length ok.c)).setCell ⟨P + 1, 3, none⟩ (.bool (hearM m d).used)) H0.out.1 H0.out.2.1 H0.out.2.2.1 H0.out.2.2.2 HPZ.out HBZ.out HW6.out ho' h7 f7 rfl)
          have y0 := hbz.cell 0 rfl
          have y1 := hbz.cell 1 rfl
          have y2 := hbz.cell 2 rfl
          have y3 := hbz.cell 3 rfl
          have x0 := hbz.free 0
          have x1 := hbz.free 1
          have x2 := hbz.free 2
          have x3 := hbz.free 3
          simp only [List.getElem_toArray, List.getElem_cons_zero, List.getElem_cons_succ] at y0 y1 y2 y3
          clear ho' h7 f7 hlz hbz hend
          go_wp2
          obtain ⟨b8, hg⟩ := HEND.out
          have g0 := b8.cell 0 rfl
          have g1 := b8.cell 1 rfl
          have g2 := b8.cell 2 rfl
          have g3 := b8.cell 3 rfl
          simp only [List.getElem_toArray, List.getElem_cons_zero, List.getElem_cons_succ] at g0 g1 g2 g3
          exact bodyPost_ret (v := .agg #[.slice os.A (hearM m d).send.length os.c, .slice oy.A (hearM m d).say.length oy.c, .slice ok.A (hearM m d).took.length ok.c, .bool (hearM m d).used]) (by simp [results, Tryz.results22, go_sem, g0, g1, g2, g3]) rfl hg
        | false =>
          have eM : evM (rowsM s0 11) (hearR m d).2 = hearM m d := by unfold hearM; rw [if_neg (by rw [HB1.out]; decide), HST.out.1, HE.out.1, Int.toNat_natCast, Int.toNat_natCast]
          have hin := (HI.out.hearB HO.out.1 HBY.out).numberedM (e := hearE m d) (hearN_ok (m := m) HO.out.1 HBY.out)
          have hsB : (hearR m d).2.state = (s0 : Int) := by rw [show (hearR m d).2.state = m.state from numberedM_state _ _ _]; exact HST.out.1
          have hev := tie_ev w7 v7 (hearR m d).2 s0 11 (j + 1) 1 H7.out.1 hin hsB HST.out.2 (by have := HE.out.2; omega) (by have := HF.out; rw [HST.out.1, HE.out.1] at this; simpa using this) (by omega) (by omega) (fun _ => ⟨d, by rw [show (hearR m d).2.p = (hearB m d).p from numberedM_p _ _ _]; rfl⟩)
          rw [eM, show v7.t = v.t from H7.out.2.t] at hev
          clear eM hin hsB
          go_wp2_with fail
          refine hev.mono ?_
          rintro e8 w8 ⟨rfl, ht⟩
          obtain ⟨v8, h8, W8⟩ := H7.out.2.step ht
          have hend := tie_end w8 v8 (hearM m d) h8
          rw [show v8.t = v.t from W8.t] at hend
          have HW6 := Lib.hid W8
          clear ht h8 W8 hev
          go_wp2_with fail
          refine hend.mono ?_
          rintro e6 w6 ⟨x, rfl, ho, h7, f7⟩
          have ho' := ho
          obtain ⟨os, oy, ok, -, rfl, -⟩ := ho
          have hlz : P + 1 ∉ [v.t] := fun hm => by simp at hm; have := H0.out.2.2.1 v.t v.t_foot; omega
          have hbz := (HBZ.out.fr HW6.out.fr (fun hm => by have := H0.out.2.2.1 _ (v.begun_foot _ _ hm); omega)).fr f7 hlz
          have HEND := Lib.hid (gives_endP (w7 := (((w6.setCell ⟨P + 1, 0, none⟩ (.slice os.A (hearM m d).send.length os.c)).setCell ⟨P + 1, 1, none⟩ (.slice oy.A (hearM m d).say.length oy.c)).setCell ⟨P + 1, 2, none⟩ (.slice ok.A (hearM m d).took.length ok.c)).setCell ⟨P + 1, 3, none⟩ (.bool (hearM m d).used)) H0.out.1 H0.out.2.1 H0.out.2.2.1 H0.out.2.2.2 HPZ.out HBZ.out HW6.out ho' h7 f7 rfl)
          have y0 := hbz.cell 0 rfl
          have y1 := hbz.cell 1 rfl
          have y2 := hbz.cell 2 rfl
          have y3 := hbz.cell 3 rfl
          have x0 := hbz.free 0
          have x1 := hbz.free 1
          have x2 := hbz.free 2
          have x3 := hbz.free 3
          simp only [List.getElem_toArray, List.getElem_cons_zero, List.getElem_cons_succ] at y0 y1 y2 y3
          clear ho' h7 f7 hlz hbz hend
          go_wp2
          obtain ⟨b8, hg⟩ := HEND.out
          have g0 := b8.cell 0 rfl
          have g1 := b8.cell 1 rfl
          have g2 := b8.cell 2 rfl
          have g3 := b8.cell 3 rfl
          simp only [List.getElem_toArray, List.getElem_cons_zero, List.getElem_cons_succ] at g0 g1 g2 g3
          exact bodyPost_ret (v := .agg #[.slice os.A (hearM m d).send.length os.c, .slice oy.A (hearM m d).say.length oy.c, .slice ok.A (hearM m d).took.length ok.c, .bool (hearM m d).used]) (by simp [results, Tryz.results22, go_sem, g0, g1, g2, g3]) rfl hg
      · have n8 : ((e : Int) == 8) = false := by rw [beq_eq_false_iff_ne]; omega
        have n9 : ((e : Int) == 9) = false := by rw [beq_eq_false_iff_ne]; omega
        have n10 : ((e : Int) == 10) = false := by rw [beq_eq_false_iff_ne]; omega
        have n11 : ((e : Int) == 11) = false := by rw [beq_eq_false_iff_ne]; omega
        have eN : hearN m d = 0 := by unfold hearN; rw [HE.out.1, if_neg (by omega)]
        have HEN := Lib.hid eN
        clear eN
        go_wp2_with fail
        refine (tie_begin _ v m (some ⟨P, 0, none⟩) (some d) d.po 0 H4.out.1 ⟨P, s, rfl, H4.out.2.2.1, H4.out.2.2.2, by simp [Sl.blk, Sl.nil]⟩).mono ?_
        rintro e5 w5 ⟨rfl, h5, f5⟩
        have eB : beginM m (some d) d.po 0 = hearB m d := by unfold hearB; rw [HE.out.1, if_neg (by omega)]
        rw [eB] at h5
        have H5 := Lib.hid (And.intro h5 (And.intro H4.out.2.1 f5))
        clear h5 f5 eB k7 k8
        clear n8 n9 n10 n11
        have hnu := tie_numbered w5 (v.begun (.pointer (some ⟨P, 0, none⟩))) (hearB m d) (e : Int) (hearN m d) H5.out.1 (show 0 ≤ m.state ∧ m.state < 14 from HI.out.st) (HI.out.hearB HO.out.1 HBY.out).num (Nat.zero_le _)
        have hnu := (hnu : Calls Tryz.prog _ #[.pointer (some ⟨v.t, 0, none⟩), .int .i64 (e : Int), .int .i64 (hearN m d)] w5 _)
        have eR : numberedM (hearB m d) (e : Int) (hearN m d) = hearR m d := by unfold hearR; rw [HE.out.1]
        rw [eR] at hnu
        have HNU := Lib.hid hnu
        obtain ⟨N, hN⟩ : ∃ N, hearN m d = N := ⟨_, rfl⟩
        obtain ⟨B, hB⟩ : ∃ B, (hearR m d).1 = B := ⟨_, rfl⟩
        rw [hB] at hnu
        rw [HEN.out] at hnu
        skip
        have HB1 := Lib.hid hB
        clear eR hN hB
        go_wp2_with fail
        refine hnu.mono ?_
        rintro e7 w7 ⟨rfl, ht⟩
        have W5 : Went w1 w5 (v.begun (.pointer (some ⟨P, 0, none⟩))) (v.begun (.pointer (some ⟨P, 0, none⟩))) := ((Went.refl _ _).fr0 H5.out.2.1).own H5.out.2.2
        obtain ⟨v7, h7, W7⟩ := W5.step ht
        have H7 := Lib.hid (And.intro h7 W7)
        clear h7 W7 W5 ht hnu HNU
        cases B with
        | true =>
          have eM : (hearR m d).2 = hearM m d := by unfold hearM; rw [if_pos HB1.out]
          have h7 := H7.out.1
          rw [eM] at h7
          have hend := tie_end w7 v7 (hearM m d) h7
          rw [show v7.t = v.t from H7.out.2.t] at hend
          have HW6 := Lib.hid H7.out.2
          clear eM h7
          go_wp2_with fail
          refine hend.mono ?_
          rintro e6 w6 ⟨x, rfl, ho, h7, f7⟩
          have ho' := ho
          obtain ⟨os, oy, ok, -, rfl, -⟩ := ho
          have hlz : P + 1 ∉ [v.t] := fun hm => by simp at hm; have := H0.out.2.2.1 v.t v.t_foot; omega
          have hbz := (HBZ.out.fr HW6.out.fr (fun hm => by have := H0.out.2.2.1 _ (v.begun_foot _ _ hm); omega)).fr f7 hlz
          have HEND := Lib.hid (gives_endP (w7 := (((w6.setCell ⟨P + 1, 0, none⟩ (.slice os.A (hearM m d).send.length os.c)).setCell ⟨P + 1, 1, none⟩ (.slice oy.A (hearM m d).say.length oy.c)).setCell ⟨P + 1, 2, none⟩ (.slice ok.A (hearM m d).took.length ok.c)).setCell ⟨P + 1, 3, none⟩ (.bool (hearM m d).used)) H0.out.1 H0.out.2.1 H0.out.2.2.1 H0.out.2.2.2 HPZ.out HBZ.out HW6.out ho' h7 f7 rfl)
          have y0 := hbz.cell 0 rfl
          have y1 := hbz.cell 1 rfl
          have y2 := hbz.cell 2 rfl
          have y3 := hbz.cell 3 rfl
          have x0 := hbz.free 0
          have x1 := hbz.free 1
          have x2 := hbz.free 2
          have x3 := hbz.free 3
          simp only [List.getElem_toArray, List.getElem_cons_zero, List.getElem_cons_succ] at y0 y1 y2 y3
          clear ho' h7 f7 hlz hbz hend
          go_wp2
          obtain ⟨b8, hg⟩ := HEND.out
          have g0 := b8.cell 0 rfl
          have g1 := b8.cell 1 rfl
          have g2 := b8.cell 2 rfl
          have g3 := b8.cell 3 rfl
          simp only [List.getElem_toArray, List.getElem_cons_zero, List.getElem_cons_succ] at g0 g1 g2 g3
          exact bodyPost_ret (v := .agg #[.slice os.A (hearM m d).send.length os.c, .slice oy.A (hearM m d).say.length oy.c, .slice ok.A (hearM m d).took.length ok.c, .bool (hearM m d).used]) (by simp [results, Tryz.results22, go_sem, g0, g1, g2, g3]) rfl hg
        | false =>
          have eM : evM (rowsM s0 e) (hearR m d).2 = hearM m d := by unfold hearM; rw [if_neg (by rw [HB1.out]; decide), HST.out.1, HE.out.1, Int.toNat_natCast, Int.toNat_natCast]
          have hin := (HI.out.hearB HO.out.1 HBY.out).numberedM (e := hearE m d) (hearN_ok (m := m) HO.out.1 HBY.out)
          have hsB : (hearR m d).2.state = (s0 : Int) := by rw [show (hearR m d).2.state = m.state from numberedM_state _ _ _]; exact HST.out.1
          have hev := tie_ev w7 v7 (hearR m d).2 s0 e (j + 1) 1 H7.out.1 hin hsB HST.out.2 (by have := HE.out.2; omega) (by have := HF.out; rw [HST.out.1, HE.out.1] at this; simpa using this) (by omega) (by omega) (fun _ => ⟨d, by rw [show (hearR m d).2.p = (hearB m d).p from numberedM_p _ _ _]; rfl⟩)
          rw [eM, show v7.t = v.t from H7.out.2.t] at hev
          clear eM hin hsB
          go_wp2_with fail
          refine hev.mono ?_
          rintro e8 w8 ⟨rfl, ht⟩
          obtain ⟨v8, h8, W8⟩ := H7.out.2.step ht
          have hend := tie_end w8 v8 (hearM m d) h8
          rw [show v8.t = v.t from W8.t] at hend
          have HW6 := Lib.hid W8
          clear ht h8 W8 hev
          go_wp2_with fail
          refine hend.mono ?_
          rintro e6 w6 ⟨x, rfl, ho, h7, f7⟩
          have ho' := ho
          obtain ⟨os, oy, ok, -, rfl, -⟩ := ho
          have hlz : P + 1 ∉ [v.t] := fun hm => by simp at hm; have := H0.out.2.2.1 v.t v.t_foot; omega
          have hbz := (HBZ.out.fr HW6.out.fr (fun hm => by have := H0.out.2.2.1 _ (v.begun_foot _ _ hm); omega)).fr f7 hlz
          have HEND := Lib.hid (gives_endP (w7 := (((w6.setCell ⟨P + 1, 0, none⟩ (.slice os.A (hearM m d).send.length os.c)).setCell ⟨P + 1, 1, none⟩ (.slice oy.A (hearM m d).say.length oy.c)).setCell ⟨P + 1, 2, none⟩ (.slice ok.A (hearM m d).took.length ok.c)).setCell ⟨P + 1, 3, none⟩ (.bool (hearM m d).used)) H0.out.1 H0.out.2.1 H0.out.2.2.1 H0.out.2.2.2 HPZ.out HBZ.out HW6.out ho' h7 f7 rfl)
          have y0 := hbz.cell 0 rfl
          have y1 := hbz.cell 1 rfl
          have y2 := hbz.cell 2 rfl
          have y3 := hbz.cell 3 rfl
          have x0 := hbz.free 0
          have x1 := hbz.free 1
          have x2 := hbz.free 2
          have x3 := hbz.free 3
          simp only [List.getElem_toArray, List.getElem_cons_zero, List.getElem_cons_succ] at y0 y1 y2 y3
          clear ho' h7 f7 hlz hbz hend
          go_wp2
          obtain ⟨b8, hg⟩ := HEND.out
          have g0 := b8.cell 0 rfl
          have g1 := b8.cell 1 rfl
          have g2 := b8.cell 2 rfl
          have g3 := b8.cell 3 rfl
          simp only [List.getElem_toArray, List.getElem_cons_zero, List.getElem_cons_succ] at g0 g1 g2 g3
          exact bodyPost_ret (v := .agg #[.slice os.A (hearM m d).send.length os.c, .slice oy.A (hearM m d).say.length oy.c, .slice ok.A (hearM m d).took.length ok.c, .bool (hearM m d).used]) (by simp [results, Tryz.results22, go_sem, g0, g1, g2, g3]) rfl hg
end Go.Proofs.YtneggoonlmmjeaaGreat
namespace Go.Proofs.YtneggoonlmmjeaaGreat
open Go.RowKit Go.Shelf
set_option linter.unusedVariables false
set_option linter.unusedSimpArgs false
set_option maxRecDepth 100000

theorem tie_Retries (w : World) (v : TV) (m : TM) (h : IsTie w v m) :
    Calls Tryz.prog 35 #[.pointer (some ⟨v.t, 0, none⟩)] w fun e w' => e = .returned (.int .i64 m.retries) ∧ w = w' := by
  have c18 := h.c18
  clear h
  go_enter Tryz.func35, Tryz.ntmps35
  go_wp2
  go_ret
  exact ⟨rfl, rfl⟩
theorem tie_Epoch (w : World) (v : TV) (m : TM) (h : IsTie w v m) :
    Calls Tryz.prog 53 #[.pointer (some ⟨v.t, 0, none⟩)] w fun e w' => e = .returned (.int .i64 m.epoch) ∧ w = w' := by
  have c20 := h.c20
  clear h
  go_enter Tryz.func53, Tryz.ntmps53
  go_wp2
  go_ret
  exact ⟨rfl, rfl⟩
theorem tie_Numbers (w : World) (v : TV) (m : TM) (h : IsTie w v m) :
    Calls Tryz.prog 55 #[.pointer (some ⟨v.t, 0, none⟩)] w fun e w' => e = .returned (.tuple #[.int .i64 m.own, .int .i64 m.other]) ∧ Fr [] w w' := by
  have c16 := h.c16
  have c17 := h.c17
  clear h
  go_enter Tryz.func55, Tryz.ntmps55
  go_wp2
  go_quiet (fail)
  go_wp2
  go_ret2
  exact ⟨rfl, (Fr.refl _ _).drewN _⟩
theorem tie_Width (w : World) (v : TV) (m : TM) (h : IsTie w v m) :
    Calls Tryz.prog 34 #[.pointer (some ⟨v.t, 0, none⟩)] w fun e w' => e = .returned (.int .i64 m.wide) ∧ w = w' := by
  have c14 := h.c14
  have hN := win_Now v.w m.cw m.wide m.count w h.win
  clear h
  go_enter Tryz.func34, Tryz.ntmps34
  go_wp2_with fail
  refine hN.mono ?_
  rintro e w1 ⟨rfl, rfl⟩
  go_wp2
  go_ret
  exact ⟨rfl, rfl⟩
theorem tie_Timers (w : World) (v : TV) (m : TM) (h : IsTie w v m) :
    Calls Tryz.prog 33 #[.pointer (some ⟨v.t, 0, none⟩)] w fun e w' => e = .returned (.int .i64 m.tm.length) ∧ w = w' := by
  have c15 := h.c15
  have hM := tie_made w v m h
  have hN := clk_Len w v.c v.cl 4 v.now m.tm h.clk
  clear h
  go_enter Tryz.func33, Tryz.ntmps33
  go_wp2_with fail
  refine hM.mono ?_
  rintro e w1 ⟨rfl, rfl⟩
  go_wp2_with fail
  refine hN.mono ?_
  rintro e w1 ⟨rfl, rfl⟩
  go_wp2
  go_ret
  exact ⟨rfl, rfl⟩
theorem tie_Vars (w : World) (v : TV) (m : TM) (h : IsTie w v m) :
    Calls Tryz.prog 32 #[.pointer (some ⟨v.t, 0, none⟩)] w fun e w' => e = .returned (.tuple #[.int .i64 m.vs, .int .i64 m.vr, .int .i64 m.va]) ∧ Fr [] w w' := by
  have hS : ∀ n : After w, Calls Tryz.prog 62 #[.pointer (some ⟨v.t, 10, none⟩)] n.x fun e w' => e = .returned (.int .i64 m.vs) ∧ Fr [] n.x w' := fun n => vars_Vs v.t (m.cells v) m.vs m.vr m.va n.x (h.fr0 n.fr).v3
  have hR : ∀ n : After w, Calls Tryz.prog 60 #[.pointer (some ⟨v.t, 10, none⟩)] n.x fun e w' => e = .returned (.int .i64 m.vr) ∧ Fr [] n.x w' := fun n => vars_Vr v.t (m.cells v) m.vs m.vr m.va n.x (h.fr0 n.fr).v3
  have hA : ∀ n : After w, Calls Tryz.prog 61 #[.pointer (some ⟨v.t, 10, none⟩)] n.x fun e w' => e = .returned (.int .i64 m.va) ∧ Fr [] n.x w' := fun n => vars_Va v.t (m.cells v) m.vs m.vr m.va n.x (h.fr0 n.fr).v3
  have HS := Lib.hid hS
  have HR := Lib.hid hR
  have HA := Lib.hid hA
  clear h hS hR hA
  go_enter Tryz.func32, Tryz.ntmps32
  go_wp2
  refine wp_region_after (by kernel_rfl) (by kernel_rfl) ?_
  repeat (go_big_quiet_step ((first | (go_at_call 62; exact Calls.after (HS.out _)) | (go_at_call 60; exact Calls.after (HR.out _)) | (go_at_call 61; exact Calls.after (HA.out _)))))
  refine wpQuiet_nil ?_
  rintro _ ⟨⟨w1, w1f⟩, rfl⟩
  go_wp2
  exact bodyPost_ret (v := .tuple #[.int .i64 m.vs, .int .i64 m.vr, .int .i64 m.va]) (by simp [results, Tryz.results32, go_sem]) rfl ⟨rfl, w1f⟩
theorem tie_Queue (w : World) (v : TV) (m : TM) (h : IsTie w v m) :
    Calls Tryz.prog 23 #[.pointer (some ⟨v.t, 0, none⟩)] w fun e w' => e = .returned (.tuple #[.int .i64 m.q.length, .int .i64 m.out]) ∧ Fr [] w w' := by
  have hS : ∀ n : After w, Calls Tryz.prog 65 #[.pointer (some ⟨v.k, 0, none⟩)] n.x fun e w' => e = .returned (.int .i64 m.q.length) ∧ n.x = w' := fun n => back_Len n.x v.k v.q v.ql 64 m.out m.q (h.fr0 n.fr).back
  have hR : ∀ n : After w, Calls Tryz.prog 66 #[.pointer (some ⟨v.k, 0, none⟩)] n.x fun e w' => e = .returned (.int .i64 m.out) ∧ n.x = w' := fun n => back_Out n.x v.k v.q v.ql 64 m.out m.q (h.fr0 n.fr).back
  have c13 := After.cell h.c13
  have HS := Lib.hid hS
  have HR := Lib.hid hR
  clear h hS hR
  go_enter Tryz.func23, Tryz.ntmps23
  go_wp2
  refine wp_region_after (by kernel_rfl) (by kernel_rfl) ?_
  repeat (go_big_quiet_step ((first | (go_at_call 65; exact Calls.after_same (HS.out _)) | (go_at_call 66; exact Calls.after_same (HR.out _)))))
  refine wpQuiet_nil ?_
  rintro _ ⟨⟨w1, w1f⟩, rfl⟩
  clear c13
  go_wp2
  go_ret2
  exact ⟨rfl, w1f⟩
theorem tie_data (w : World) (v : TV) (m : TM) (h : IsTie w v m) :
    Calls Tryz.prog 56 #[.pointer (some ⟨v.t, 0, none⟩)] w fun e w' => e = .returned (.bool (decide (8 ≤ m.state))) ∧ w = w' := by
  have c9 := h.c9
  obtain ⟨B, hB⟩ : ∃ B, decide (8 ≤ m.state) = B := ⟨_, rfl⟩
  rw [hB]
  clear h
  go_enter Tryz.func56, Tryz.ntmps56
  go_wp2
  go_ret
  exact ⟨rfl, rfl⟩

/-- An SDU is put behind the last one. -/
def putM (m : TM) (x : List Int) : TM := { m with q := m.q ++ [x] }
def sendB (m : TM) (x : List Int) : TM := beginM (putM m x) none false 0
def sentM (m : TM) (x : List Int) : TM := evM (rowsM m.state.toNat 5) (sendB m x)
theorem Inv.putM {j k : Nat} {m : TM} (h : Inv j k m) {x : List Int} (hx : x.length ≤ 1024) (hl : m.q.length < 64) : Inv j k (putM m x) :=
  { h with out := (by show m.out ≤ (m.q ++ [x]).length; rw [List.length_append]; have := h.out; omega), q := (by show (m.q ++ [x]).length ≤ 64; rw [List.length_append]; simp only [List.length_cons, List.length_nil]; omega), sdu := (fun y hy => by rcases List.mem_append.1 hy with hy | hy; exact h.sdu y hy; simp at hy; subst hy; exact hx) }

set_option maxHeartbeats 1000000 in
theorem send_state (w : World) (v : TV) (m : TM) (s : Sl) (x : List Int) (h : IsTie w v m) (hx : Ints .u8 w s.v x) (hst : m.state < 8) :
    Calls Tryz.prog 21 #[.pointer (some ⟨v.t, 0, none⟩), .slice s.A s.n s.c] w fun e w' => e = .returned (.tuple #[.agg #[.slice none 0 0, .slice none 0 0, .slice none 0 0, .bool false], .int .i64 9]) ∧ Fr [] w w' := by
  obtain ⟨w1, hw1⟩ : ∃ w1, w.alloc (.cells #[.slice none 0 0, .slice none 0 0, .slice none 0 0, .bool false] 36) = w1 := ⟨_, rfl⟩
  obtain ⟨Z, hZ⟩ : ∃ Z, w.heap.size = Z := ⟨_, rfl⟩
  have hb : Blk w1 Z #[.slice none 0 0, .slice none 0 0, .slice none 0 0, .bool false] 36 := by rw [← hw1, ← hZ]; exact Blk.new w _ _
  have f0 : Fr [] w w1 := by rw [← hw1]; exact (Fr.refl [] w).alloc _
  have h0 := h.fr0 f0
  have hx0 := hx.fr f0
  have hlt : ∀ x ∈ v.foot, x < Z := by rw [← hZ]; exact h.lt
  have hile : v.hi ≤ Z := by rw [← hZ]; exact h.hile
  have HB := Lib.hid hb
  have HZ := Lib.hid hZ
  have H0 := Lib.hid (And.intro h0 (And.intro f0 (And.intro hlt hile)))
  have HX := Lib.hid hx0
  have d8 : decide (8 ≤ m.state) = false := by simp; omega
  clear h f0 h0 hx hx0 hb hlt hile hst
  go_enter Tryz.func21, Tryz.ntmps21
  go_wp2_with fail
  clear hw1 hZ
  refine (tie_made _ v m H0.out.1).mono ?_
  rintro e1 w2 ⟨rfl, rfl⟩
  go_wp2_with fail
  refine (tie_data _ v m H0.out.1).mono ?_
  rintro e1 w2 ⟨rfl, rfl⟩
  rw [d8]
  have HBZ := Lib.hid (And.intro HB.out H0.out.2.1)
  obtain ⟨wz, hwz⟩ : ∃ wz, wz = w1 := ⟨_, rfl⟩
  have hbz : Blk wz Z #[.slice none 0 0, .slice none 0 0, .slice none 0 0, .bool false] 36 := by rw [hwz]; exact HBZ.out.1
  have hfz : Fr [] w wz := by rw [hwz]; exact HBZ.out.2
  rw [← hwz]
  have y0 := hbz.cell 0 rfl
  have y1 := hbz.cell 1 rfl
  have y2 := hbz.cell 2 rfl
  have y3 := hbz.cell 3 rfl
  have x0 := hbz.free 0
  have x1 := hbz.free 1
  have x2 := hbz.free 2
  have x3 := hbz.free 3
  simp only [List.getElem_toArray, List.getElem_cons_zero, List.getElem_cons_succ] at y0 y1 y2 y3
  have hzl : w.heap.size ≤ Z := by rw [HZ.out]; exact Nat.le_refl _
  have HFIN := Lib.hid (And.intro (Blk.set (Blk.set (Blk.set (Blk.set hbz 0 (.slice none 0 0) rfl) 1 (.slice none 0 0) rfl) 2 (.slice none 0 0) rfl) 3 (.bool false) rfl) ((((hfz.setCell (p := ⟨Z, 0, none⟩) (.slice none 0 0) (.inr hzl)).setCell (p := ⟨Z, 1, none⟩) (.slice none 0 0) (.inr hzl)).setCell (p := ⟨Z, 2, none⟩) (.slice none 0 0) (.inr hzl)).setCell (p := ⟨Z, 3, none⟩) (.bool false) (.inr hzl)))
  clear hbz hfz hwz
  go_wp2
  obtain ⟨b8, hg⟩ := HFIN.out
  have g0 := b8.cell 0 rfl
  have g1 := b8.cell 1 rfl
  have g2 := b8.cell 2 rfl
  have g3 := b8.cell 3 rfl
  simp only [List.getElem_toArray, List.getElem_cons_zero, List.getElem_cons_succ, List.setIfInBounds_toArray, List.set_cons_zero, List.set_cons_succ] at g0 g1 g2 g3
  exact bodyPost_ret (v := .tuple #[.agg #[.slice none 0 0, .slice none 0 0, .slice none 0 0, .bool false], .int .i64 9]) (by simp [results, Tryz.results21, go_sem, g0, g1, g2, g3]) rfl ⟨rfl, hg⟩

set_option maxHeartbeats 1000000 in
theorem send_long (w : World) (v : TV) (m : TM) (s : Sl) (x : List Int) (h : IsTie w v m) (hx : Ints .u8 w s.v x) (hst : 8 ≤ m.state) (hl : 1024 < x.length) :
    Calls Tryz.prog 21 #[.pointer (some ⟨v.t, 0, none⟩), .slice s.A s.n s.c] w fun e w' => e = .returned (.tuple #[.agg #[.slice none 0 0, .slice none 0 0, .slice none 0 0, .bool false], .int .i64 3]) ∧ Fr [] w w' := by
  obtain ⟨w1, hw1⟩ : ∃ w1, w.alloc (.cells #[.slice none 0 0, .slice none 0 0, .slice none 0 0, .bool false] 36) = w1 := ⟨_, rfl⟩
  obtain ⟨Z, hZ⟩ : ∃ Z, w.heap.size = Z := ⟨_, rfl⟩
  have hb : Blk w1 Z #[.slice none 0 0, .slice none 0 0, .slice none 0 0, .bool false] 36 := by rw [← hw1, ← hZ]; exact Blk.new w _ _
  have f0 : Fr [] w w1 := by rw [← hw1]; exact (Fr.refl [] w).alloc _
  have h0 := h.fr0 f0
  have hx0 := hx.fr f0
  have hlt : ∀ x ∈ v.foot, x < Z := by rw [← hZ]; exact h.lt
  have hile : v.hi ≤ Z := by rw [← hZ]; exact h.hile
  have HB := Lib.hid hb
  have HZ := Lib.hid hZ
  have H0 := Lib.hid (And.intro h0 (And.intro f0 (And.intro hlt hile)))
  have HX := Lib.hid hx0
  have d8 : decide (8 ≤ m.state) = true := by simpa using hst
  have hn := hx.n_
  have d9 : decide ((1024 : Int) < s.n) = true := by simp; omega
  clear h f0 h0 hx hx0 hb hlt hile hst hn hl
  go_enter Tryz.func21, Tryz.ntmps21
  go_wp2_with fail
  clear hw1 hZ
  refine (tie_made _ v m H0.out.1).mono ?_
  rintro e1 w2 ⟨rfl, rfl⟩
  go_wp2_with fail
  refine (tie_data _ v m H0.out.1).mono ?_
  rintro e1 w2 ⟨rfl, rfl⟩
  rw [d8]
  have HBZ := Lib.hid (And.intro HB.out H0.out.2.1)
  obtain ⟨wz, hwz⟩ : ∃ wz, wz = w1 := ⟨_, rfl⟩
  have hbz : Blk wz Z #[.slice none 0 0, .slice none 0 0, .slice none 0 0, .bool false] 36 := by rw [hwz]; exact HBZ.out.1
  have hfz : Fr [] w wz := by rw [hwz]; exact HBZ.out.2
  rw [← hwz]
  have y0 := hbz.cell 0 rfl
  have y1 := hbz.cell 1 rfl
  have y2 := hbz.cell 2 rfl
  have y3 := hbz.cell 3 rfl
  have x0 := hbz.free 0
  have x1 := hbz.free 1
  have x2 := hbz.free 2
  have x3 := hbz.free 3
  simp only [List.getElem_toArray, List.getElem_cons_zero, List.getElem_cons_succ] at y0 y1 y2 y3
  have hzl : w.heap.size ≤ Z := by rw [HZ.out]; exact Nat.le_refl _
  have HFIN := Lib.hid (And.intro (Blk.set (Blk.set (Blk.set (Blk.set hbz 0 (.slice none 0 0) rfl) 1 (.slice none 0 0) rfl) 2 (.slice none 0 0) rfl) 3 (.bool false) rfl) ((((hfz.setCell (p := ⟨Z, 0, none⟩) (.slice none 0 0) (.inr hzl)).setCell (p := ⟨Z, 1, none⟩) (.slice none 0 0) (.inr hzl)).setCell (p := ⟨Z, 2, none⟩) (.slice none 0 0) (.inr hzl)).setCell (p := ⟨Z, 3, none⟩) (.bool false) (.inr hzl)))
  clear hbz hfz hwz
  go_wp2
  obtain ⟨b8, hg⟩ := HFIN.out
  have g0 := b8.cell 0 rfl
  have g1 := b8.cell 1 rfl
  have g2 := b8.cell 2 rfl
  have g3 := b8.cell 3 rfl
  simp only [List.getElem_toArray, List.getElem_cons_zero, List.getElem_cons_succ, List.setIfInBounds_toArray, List.set_cons_zero, List.set_cons_succ] at g0 g1 g2 g3
  exact bodyPost_ret (v := .tuple #[.agg #[.slice none 0 0, .slice none 0 0, .slice none 0 0, .bool false], .int .i64 3]) (by simp [results, Tryz.results21, go_sem, g0, g1, g2, g3]) rfl ⟨rfl, hg⟩

set_option maxHeartbeats 1000000 in
theorem send_full (w : World) (v : TV) (m : TM) (s : Sl) (x : List Int) (h : IsTie w v m) (hx : Ints .u8 w s.v x) (hst : 8 ≤ m.state) (hl : x.length ≤ 1024) (hf : 64 ≤ m.q.length) :
    Calls Tryz.prog 21 #[.pointer (some ⟨v.t, 0, none⟩), .slice s.A s.n s.c] w fun e w' => e = .returned (.tuple #[.agg #[.slice none 0 0, .slice none 0 0, .slice none 0 0, .bool false], .int .i64 6]) ∧ Fr [] w w' := by
  obtain ⟨w1, hw1⟩ : ∃ w1, w.alloc (.cells #[.slice none 0 0, .slice none 0 0, .slice none 0 0, .bool false] 36) = w1 := ⟨_, rfl⟩
  obtain ⟨Z, hZ⟩ : ∃ Z, w.heap.size = Z := ⟨_, rfl⟩
  have hb : Blk w1 Z #[.slice none 0 0, .slice none 0 0, .slice none 0 0, .bool false] 36 := by rw [← hw1, ← hZ]; exact Blk.new w _ _
  have f0 : Fr [] w w1 := by rw [← hw1]; exact (Fr.refl [] w).alloc _
  have h0 := h.fr0 f0
  have hx0 := hx.fr f0
  have hlt : ∀ x ∈ v.foot, x < Z := by rw [← hZ]; exact h.lt
  have hile : v.hi ≤ Z := by rw [← hZ]; exact h.hile
  have HB := Lib.hid hb
  have HZ := Lib.hid hZ
  have H0 := Lib.hid (And.intro h0 (And.intro f0 (And.intro hlt hile)))
  have HX := Lib.hid hx0
  have d8 : decide (8 ≤ m.state) = true := by simpa using hst
  have hn := hx.n_
  have d9 : decide ((1024 : Int) < s.n) = false := by simp; omega
  have c13 := h0.c13
  clear h f0 h0 hx hx0 hb hlt hile hst hn
  go_enter Tryz.func21, Tryz.ntmps21
  go_wp2_with fail
  clear hw1 hZ
  refine (tie_made _ v m H0.out.1).mono ?_
  rintro e1 w2 ⟨rfl, rfl⟩
  go_wp2_with fail
  refine (tie_data _ v m H0.out.1).mono ?_
  rintro e1 w2 ⟨rfl, rfl⟩
  rw [d8]
  go_wp2_with fail
  refine (back_Put_full _ v.k v.q v.ql s 64 m.out m.q x H0.out.1.back HX.out (by omega) (by omega)).mono ?_
  rintro e1 w4 ⟨rfl, f4⟩
  have HBZ := Lib.hid (And.intro (HB.out.fr f4 (by simp)) (H0.out.2.1.tr f4))
  clear c13 f4
  obtain ⟨wz, hwz⟩ : ∃ wz, wz = w4 := ⟨_, rfl⟩
  have hbz : Blk wz Z #[.slice none 0 0, .slice none 0 0, .slice none 0 0, .bool false] 36 := by rw [hwz]; exact HBZ.out.1
  have hfz : Fr [] w wz := by rw [hwz]; exact HBZ.out.2
  rw [← hwz]
  have y0 := hbz.cell 0 rfl
  have y1 := hbz.cell 1 rfl
  have y2 := hbz.cell 2 rfl
  have y3 := hbz.cell 3 rfl
  have x0 := hbz.free 0
  have x1 := hbz.free 1
  have x2 := hbz.free 2
  have x3 := hbz.free 3
  simp only [List.getElem_toArray, List.getElem_cons_zero, List.getElem_cons_succ] at y0 y1 y2 y3
  have hzl : w.heap.size ≤ Z := by rw [HZ.out]; exact Nat.le_refl _
  have HFIN := Lib.hid (And.intro (Blk.set (Blk.set (Blk.set (Blk.set hbz 0 (.slice none 0 0) rfl) 1 (.slice none 0 0) rfl) 2 (.slice none 0 0) rfl) 3 (.bool false) rfl) ((((hfz.setCell (p := ⟨Z, 0, none⟩) (.slice none 0 0) (.inr hzl)).setCell (p := ⟨Z, 1, none⟩) (.slice none 0 0) (.inr hzl)).setCell (p := ⟨Z, 2, none⟩) (.slice none 0 0) (.inr hzl)).setCell (p := ⟨Z, 3, none⟩) (.bool false) (.inr hzl)))
  clear hbz hfz hwz
  go_wp2
  obtain ⟨b8, hg⟩ := HFIN.out
  have g0 := b8.cell 0 rfl
  have g1 := b8.cell 1 rfl
  have g2 := b8.cell 2 rfl
  have g3 := b8.cell 3 rfl
  simp only [List.getElem_toArray, List.getElem_cons_zero, List.getElem_cons_succ, List.setIfInBounds_toArray, List.set_cons_zero, List.set_cons_succ] at g0 g1 g2 g3
  exact bodyPost_ret (v := .tuple #[.agg #[.slice none 0 0, .slice none 0 0, .slice none 0 0, .bool false], .int .i64 6]) (by simp [results, Tryz.results21, go_sem, g0, g1, g2, g3]) rfl ⟨rfl, hg⟩

/-- What a sending hands out, and leaves. -/
def GivesT (w : World) (v : TV) (m : TM) (r : Ending) (w' : World) : Prop := ∃ x v', r = .returned (.tuple #[x, .int .i64 0]) ∧ OutV w' m v'.foot x ∧ IsTie w' v' (clearO m) ∧ Turned w w' v v'
theorem Gives.pair {w w' : World} {v : TV} {m : TM} {x : Value} (h : Gives w v m (.returned x) w') : GivesT w v m (.returned (.tuple #[x, .int .i64 0])) w' := by
  obtain ⟨x', v', e, h1⟩ := h
  cases e
  exact ⟨x, v', rfl, h1⟩
/-- Like gives_end, behind what turned first. -/
theorem gives_endW {w w1 w5 w6 w7 : World} {v v2 v6 : TV} {m M : TM} {pv : Value} {Z : Nat} {os oy ok : Sl} (h0 : IsTie w1 v m) (f0 : Fr [] w w1) (hlt : ∀ x ∈ v.foot, x < Z) (hile : v.hi ≤ Z) (hZ : w.heap.size = Z) (hb : Blk w1 Z #[.slice none 0 0, .slice none 0 0, .slice none 0 0, .bool false] 36)
    {w2 : World} (W0 : Went w1 w2 v v2) (W : Went w2 w5 (v2.begun pv) v6) (ho : OutV w6 M (v6.begun (.pointer none)).foot (.agg #[.slice os.A M.send.length os.c, .slice oy.A M.say.length oy.c, .slice ok.A M.took.length ok.c, .bool M.used])) (h7 : IsTie w6 (v6.begun (.pointer none)) (clearO M)) (f7 : Fr [v.t] w5 w6)
    (hw : w7 = (((w6.setCell ⟨Z, 0, none⟩ (.slice os.A M.send.length os.c)).setCell ⟨Z, 1, none⟩ (.slice oy.A M.say.length oy.c)).setCell ⟨Z, 2, none⟩ (.slice ok.A M.took.length ok.c)).setCell ⟨Z, 3, none⟩ (.bool M.used)) :
    Blk w7 Z #[.slice os.A M.send.length os.c, .slice oy.A M.say.length oy.c, .slice ok.A M.took.length ok.c, .bool M.used] 36 ∧ Gives w v M (.returned (.agg #[.slice os.A M.send.length os.c, .slice oy.A M.say.length oy.c, .slice ok.A M.took.length ok.c, .bool M.used])) w7 := by
  have hlt1 : Z < w1.heap.size := hb.lt
  have n2 : ∀ x ∈ v2.foot, x ≠ Z := fun x hx e => by
    subst e
    rcases W0.new _ hx with h1 | h1
    · have := hlt _ h1; omega
    · omega
  have hbz2 := hb.fr W0.fr (fun hm => by have := hlt Z hm; omega)
  have hbz5 := hbz2.fr W.fr (fun hm => n2 Z (v2.begun_foot _ _ hm) rfl)
  have hbz := hbz5.fr f7 (fun hm => by simp at hm; have := hlt v.t v.t_foot; omega)
  have hf6 : ∀ x ∈ v6.foot, x ∈ v.foot ∨ w1.heap.size ≤ x := fun x hx => by
    rcases W.new x hx with h1 | h1
    · exact W0.new x (v2.begun_foot _ x h1)
    · exact .inr (Nat.le_trans W0.fr.size h1)
  have ehi : v6.hi = v.hi := by
    have h1 := W.fix
    have h2 := W0.fix
    simp only [TV.fix, Prod.mk.injEq] at h1 h2
    exact h1.2.2.2.2.2.2.1.trans h2.2.2.2.2.2.2.1
  obtain ⟨h8, b8, f8⟩ := h7.retW (Z := Z) (fun hm => by
    rcases hf6 Z (v6.begun_foot _ _ hm) with h1 | h1
    · have := hlt Z h1; omega
    · omega) (by show v6.hi ≤ Z; omega) hbz hw
  refine ⟨b8, _, _, rfl, ho.frZ f8 hbz, h8, W.t.trans W0.t, (TV.fix_n0 W.fix).trans (show v2.n0 = v.n0 from TV.fix_n0 W0.fix), rfl, ?_, ?_, by have a := W.fix; have b := W0.fix; simp only [TV.fix, Prod.mk.injEq] at a b; exact a.2.2.2.2.2.2.1.trans b.2.2.2.2.2.2.1⟩
  · have a : Fr v.foot w w1 := f0.mono (by simp)
    have a2 : Fr v.foot w w2 := a.trans W0.fr (fun x hx => .inl hx)
    have b : Fr v.foot w w5 := a2.trans W.fr (fun x hx => by
      rcases W0.new x (v2.begun_foot _ x hx) with h1 | h1
      · exact .inl h1
      · exact .inr (Nat.le_trans f0.size h1))
    have c : Fr v.foot w w6 := b.trans f7 (fun x hx => .inl (by simp at hx; subst hx; exact v.t_foot))
    exact c.trans f8 (fun x hx => .inr (by simp at hx; subst hx; omega))
  · intro x hx
    rcases hf6 x (v6.begun_foot _ x hx) with h1 | h1
    · exact .inl h1
    · exact .inr (by have := f0.size; omega)
set_option maxHeartbeats 4000000 in
theorem tie_Send (w : World) (v : TV) (m : TM) (s : Sl) (x : List Int) (j k : Nat) (h : IsTie w v m) (hi : Inv j k m) (hx : Ints .u8 w s.v x) (hst : 8 ≤ m.state) (hl : x.length ≤ 1024) (hq : m.q.length < 64) (hj : j + 20 ≤ 1000000) :
    Calls Tryz.prog 21 #[.pointer (some ⟨v.t, 0, none⟩), .slice s.A s.n s.c] w (GivesT w v (sentM m x)) := by
  obtain ⟨w1, hw1⟩ : ∃ w1, w.alloc (.cells #[.slice none 0 0, .slice none 0 0, .slice none 0 0, .bool false] 36) = w1 := ⟨_, rfl⟩
  obtain ⟨Z, hZ⟩ : ∃ Z, w.heap.size = Z := ⟨_, rfl⟩
  have hb : Blk w1 Z #[.slice none 0 0, .slice none 0 0, .slice none 0 0, .bool false] 36 := by rw [← hw1, ← hZ]; exact Blk.new w _ _
  have f0 : Fr [] w w1 := by rw [← hw1]; exact (Fr.refl [] w).alloc _
  have h0 := h.fr0 f0
  have hx0 := hx.fr f0
  have hlt : ∀ x ∈ v.foot, x < Z := by rw [← hZ]; exact h.lt
  have hile : v.hi ≤ Z := by rw [← hZ]; exact h.hile
  have HB := Lib.hid hb
  have HZ := Lib.hid hZ
  have H0 := Lib.hid (And.intro h0 (And.intro f0 (And.intro hlt hile)))
  have HX := Lib.hid hx0
  have d8 : decide (8 ≤ m.state) = true := by simpa using hst
  have hn := hx.n_
  have d9 : decide ((1024 : Int) < s.n) = false := by simp; omega
  have c13 := h0.c13
  obtain ⟨s0, hs0⟩ : ∃ s0 : Nat, m.state = s0 := ⟨m.state.toNat, by omega⟩
  have HST := Lib.hid (And.intro hs0 (show 8 ≤ s0 ∧ s0 < 14 by have := hi.st; omega))
  have HI := Lib.hid hi
  clear h f0 h0 hx hx0 hb hlt hile hst hn hi hs0
  go_enter Tryz.func21, Tryz.ntmps21
  go_wp2_with fail
  clear hw1 hZ
  refine (tie_made _ v m H0.out.1).mono ?_
  rintro e1 w2 ⟨rfl, rfl⟩
  go_wp2_with fail
  refine (tie_data _ v m H0.out.1).mono ?_
  rintro e1 w2 ⟨rfl, rfl⟩
  rw [d8]
  go_wp2_with fail
  refine (back_Put _ v.k v.q v.ql s 64 m.out m.q x H0.out.1.back HX.out (by omega) (by omega) (by omega)).mono ?_
  rintro e1 w2 ⟨rfl, hbk⟩
  obtain ⟨v2, h2, W2⟩ := (H0.out.1.setBack hbk).went
  have h2 : IsTie w2 v2 (putM m x) := h2
  have H2 := Lib.hid (And.intro h2 W2)
  have hbg := tie_begin w2 v2 (putM m x) none none false 0 h2 rfl
  rw [W2.t] at hbg
  clear h2 W2 c13 hbk
  go_wp2_with fail
  refine hbg.mono ?_
  rintro e1 w3 ⟨rfl, h3, f3⟩
  have h3 : IsTie w3 (v2.begun (.pointer none)) (sendB m x) := h3
  have W3 : Went w2 w3 (v2.begun (.pointer none)) (v2.begun (.pointer none)) := Went.of (Fr.foot (v := v2.begun (.pointer none)) (by rw [show (v2.begun (.pointer none)).t = v.t from H2.out.2.t]; exact f3))
  have hin : Inv j 0 (sendB m x) := (HI.out.putM hl hq).beginM (by intro d hd; cases hd) (by omega)
  have hev := tie_ev w3 (v2.begun (.pointer none)) (sendB m x) s0 5 j 0 h3 hin HST.out.1 HST.out.2.2 (by omega) (by simp [rowFr]) (by omega) (by omega) (fun hh => by omega)
  have eM : evM (rowsM s0 5) (sendB m x) = sentM m x := by unfold sentM; rw [HST.out.1, Int.toNat_natCast]
  rw [eM, show (v2.begun (.pointer none)).t = v.t from H2.out.2.t] at hev
  have H3 := Lib.hid W3
  clear h3 W3 hin f3 eM hbg
  go_wp2_with fail
  refine hev.mono ?_
  rintro e5 w5 ⟨rfl, ht⟩
  obtain ⟨v6, h6, W6⟩ := H3.out.step ht
  have hend := tie_end w5 v6 (sentM m x) h6
  rw [show v6.t = v.t from W6.t.trans H2.out.2.t] at hend
  have HW6 := Lib.hid W6
  clear ht h6 W6 hev
  go_wp2_with fail
  refine hend.mono ?_
  rintro e6 w6 ⟨xr, rfl, ho, h7, f7⟩
  have ho' := ho
  obtain ⟨os, oy, ok, -, rfl, -⟩ := ho
  have hlz : Z ∉ [v.t] := fun hm => by simp at hm; have := H0.out.2.2.1 v.t v.t_foot; omega
  have hbz := ((HB.out.fr H2.out.2.fr (fun hm => by have := H0.out.2.2.1 Z hm; omega)).fr HW6.out.fr (fun hm => by
    have hzl := HB.out.lt
    rcases H2.out.2.new _ (v2.begun_foot _ _ hm) with h1 | h1
    · have := H0.out.2.2.1 _ h1; omega
    · omega)).fr f7 hlz
  have HEND := Lib.hid (gives_endW (w7 := (((w6.setCell ⟨Z, 0, none⟩ (.slice os.A (sentM m x).send.length os.c)).setCell ⟨Z, 1, none⟩ (.slice oy.A (sentM m x).say.length oy.c)).setCell ⟨Z, 2, none⟩ (.slice ok.A (sentM m x).took.length ok.c)).setCell ⟨Z, 3, none⟩ (.bool (sentM m x).used)) H0.out.1 H0.out.2.1 H0.out.2.2.1 H0.out.2.2.2 HZ.out HB.out H2.out.2 HW6.out ho' h7 f7 rfl)
  have y0 := hbz.cell 0 rfl
  have y1 := hbz.cell 1 rfl
  have y2 := hbz.cell 2 rfl
  have y3 := hbz.cell 3 rfl
  have x0 := hbz.free 0
  have x1 := hbz.free 1
  have x2 := hbz.free 2
  have x3 := hbz.free 3
  simp only [List.getElem_toArray, List.getElem_cons_zero, List.getElem_cons_succ] at y0 y1 y2 y3
  clear ho' h7 f7 hlz hbz hend
  go_wp2
  obtain ⟨b8, hg⟩ := HEND.out
  have g0 := b8.cell 0 rfl
  have g1 := b8.cell 1 rfl
  have g2 := b8.cell 2 rfl
  have g3 := b8.cell 3 rfl
  simp only [List.getElem_toArray, List.getElem_cons_zero, List.getElem_cons_succ] at g0 g1 g2 g3
  exact bodyPost_ret (v := .tuple #[.agg #[.slice os.A (sentM m x).send.length os.c, .slice oy.A (sentM m x).say.length oy.c, .slice ok.A (sentM m x).took.length ok.c, .bool (sentM m x).used], .int .i64 0]) (by simp [results, Tryz.results21, go_sem, g0, g1, g2, g3]) rfl hg.pair
end Go.Proofs.YtneggoonlmmjeaaGreat
namespace Go.Proofs.YtneggoonlmmjeaaGreat
open Go.RowKit Go.Shelf
set_option linter.unusedVariables false
set_option linter.unusedSimpArgs false
set_option maxRecDepth 100000

theorem CM.ok_iff (c : CM) : c.ok ↔ (1 ≤ c.wd ∧ c.wd ≤ 64 ∧ 1 ≤ c.tr ∧ c.tr ≤ 100 ∧ ∀ x ∈ ticksL c, tick x) := by
  simp [CM.ok, ticksL]

theorem law19_Config (c : CM) (w : World) : Calls Tryz.prog 14 #[c.val] w fun e w' => e = .returned c.val ∧ Fr [] w w' := by
  go_enter Tryz.func14, Tryz.ntmps14
  go_wp2
  exact bodyPost_ret (v := c.val) (by simp [results, Tryz.results14, go_sem]) rfl ⟨rfl, ((Fr.refl _ _).alloc _).alloc _⟩


theorem i64_mask (k : Nat) (hk : k ≤ 62) (m M : Int) (hM : M = (2 ^ k : Nat)) (hm : (BitVec.ofInt 64 m).toNat = 2 ^ k - 1) (n : Int) : bits .and .i64 n m = n % M := by
  have h2 : (2 : Nat) ^ k * 2 ^ (64 - k) = 2 ^ 64 := by rw [← Nat.pow_add]; congr 1; omega
  have hlt : (2 : Nat) ^ k ≤ 2 ^ 62 := Nat.pow_le_pow_right (by decide) hk
  have key : (BitVec.ofInt 64 n &&& BitVec.ofInt 64 m).toNat = (n % ((2 ^ 64 : Nat) : Int)).toNat % 2 ^ k := by
    rw [BitVec.toNat_and, BitVec.toNat_ofInt, hm, Nat.and_two_pow_sub_one_eq_mod]
  show IntKind.i64.wrap ((BitVec.ofInt 64 n &&& BitVec.ofInt 64 m).toNat : Nat) = n % M
  have hpos : 0 < (2 : Nat) ^ k := Nat.pow_pos (by decide)
  have h3 : ((n % ((2 ^ 64 : Nat) : Int)).toNat % 2 ^ k : Nat) = (n % ((2 ^ k : Nat) : Int)) := by
    rw [Int.natCast_emod, Int.toNat_of_nonneg (Int.emod_nonneg _ (by decide)), ← h2, Int.natCast_mul, Int.emod_emod_of_dvd _ (Int.dvd_mul_right _ _)]
  rw [key, h3, ← hM]
  have h4 := Int.emod_nonneg n (show M ≠ 0 by omega)
  have h5 := Int.emod_lt_of_pos n (show 0 < M by omega)
  exact IntWalk.i64_in _ (by omega)
theorem i64_and3 (n : Int) : bits .and .i64 n 3 = n % 4 := i64_mask 2 (by decide) 3 4 rfl (by decide) n
theorem i64_and7 (n : Int) : bits .and .i64 n 7 = n % 8 := i64_mask 3 (by decide) 7 8 rfl (by decide) n
theorem i64_and65535 (n : Int) : bits .and .i64 n 65535 = n % 65536 := i64_mask 16 (by decide) 65535 65536 rfl (by decide) n

def madeM (n : Int) : CM := ⟨1 + n % 65536 % 8, 2 + n % 65536 / 8 % 4, 2 + n % 65536 / 32 % 4, 2 + n % 65536 / 128 % 4, 2 + n % 65536 / 512 % 4, 2 + n % 65536 / 2048 % 4⟩
theorem madeM_ok (n : Int) : (madeM n).ok := by unfold madeM CM.ok tick; dsimp only; omega
theorem law19_Made (n : Int) (w : World) : Calls Tryz.prog 12 #[.int .i64 n] w fun e w' => e = .returned (madeM n).val ∧ Fr [] w w' := by
  have a1 := i64_and3
  have a2 := i64_and7
  have a3 := i64_and65535
  have b1 : wrap64 (1 + n % 65536 % 8) = 1 + n % 65536 % 8 := by unfold wrap64; omega
  have b2 : wrap64 (2 + n % 65536 / 8 % 4) = 2 + n % 65536 / 8 % 4 := by unfold wrap64; omega
  have b3 : wrap64 (2 + n % 65536 / 32 % 4) = 2 + n % 65536 / 32 % 4 := by unfold wrap64; omega
  have b4 : wrap64 (2 + n % 65536 / 128 % 4) = 2 + n % 65536 / 128 % 4 := by unfold wrap64; omega
  have b5 : wrap64 (2 + n % 65536 / 512 % 4) = 2 + n % 65536 / 512 % 4 := by unfold wrap64; omega
  have b6 : wrap64 (2 + n % 65536 / 2048 % 4) = 2 + n % 65536 / 2048 % 4 := by unfold wrap64; omega
  go_enter Tryz.func12, Tryz.ntmps12
  go_wp2
  exact bodyPost_ret (v := (madeM n).val) (by simp [results, Tryz.results12, go_sem, madeM]) rfl ⟨rfl, (Fr.refl _ _).alloc _⟩


theorem r_0_0 : rowsM 0 0 = ⟨[0, 33, 13], 2, true⟩ := by kernel_rfl
theorem r_2_29 : rowsM 2 29 = ⟨[0, 32, 13], 2, true⟩ := by kernel_rfl
theorem r_2_33 : rowsM 2 33 = ⟨[12, 7], 0, true⟩ := by kernel_rfl
theorem tickM_none {m : TM} (h : tover m.tm = []) : tickM m = tickI m := by unfold tickM; rw [h]; rfl
theorem tickM_one {m : TM} {e : Int} (h : tover m.tm = [e]) : tickM m = tickE (tickI m) e := by unfold tickM; rw [h]; rfl
theorem tickE_go {m : TM} {e : Int} {r : RowM} (hr : rowsM m.state.toNat e.toNat = r) (hk : r.known = true) (h : m.retries < m.ct) : tickE m e = evM r m := by
  unfold tickE
  rw [hr, if_neg (by rw [hk]; decide), if_neg (by omega)]
theorem tickE_spent {m : TM} {e : Int} {r q : RowM} (hr : rowsM m.state.toNat e.toNat = r) (hk : r.known = true) (hq : rowsM m.state.toNat 33 = q) (h : m.ct ≤ m.retries) : tickE m e = evM q m := by
  unfold tickE
  rw [hr, if_neg (by rw [hk]; decide), if_pos h, hq]
theorem newM_inv (c : CM) (n m : Int) (h : c.ok) : Inv 0 0 (newM c n m) := by
  obtain ⟨h1, h2, h3, h4, h5, h6, h7, h8⟩ := h
  refine ⟨by show (0 : Int) ≤ 0 ∧ (0 : Int) < 14; omega, ⟨h1, h2⟩, ⟨h3, h4⟩, ⟨h5, h6, h7, h8⟩, by show (0 : Int) ≤ 0 ∧ (0 : Int) < 128; omega, by show (0 : Int) ≤ 0 ∧ (0 : Int) < 128; omega, by show (0 : Int) ≤ 0 ∧ (0 : Int) < 128; omega, rfl, Nat.zero_le _, Nat.zero_le _, fun x hx => (by cases hx), ⟨h1, Int.le_refl _, Int.le_refl _, by show (0 : Int) < c.wd; omega⟩, by show (0 : Int) ≤ 0 ∧ (0 : Int) < 4294967296; omega, by show (0 : Int) ≤ 0 ∧ (0 : Int) < 4294967296; omega, by show (0 : Int) ≤ 0 ∧ (0 : Int) < 4294967296; omega, by show (0 : Int) ≤ 0 ∧ (0 : Int) ≤ 0; omega, by show (0 : Int) ≤ 0 ∧ (0 : Int) ≤ 0; omega, TmOk.nil, Nat.zero_le _, Nat.zero_le _, Nat.zero_le _, fun d hd => (by cases hd)⟩
end Go.Proofs.YtneggoonlmmjeaaGreat
