/- Package bound and its references: what it may take; the laws. -/
import Derived.Test.YtaefahbgeokopaaTieN
import Derived.Test.YtaefahbgeokopaaBoundL
namespace Go.Proofs.Ytaefahbgeokopaa
open Go.RowKit Go.Shelf
set_option linter.unusedVariables false
set_option linter.unusedSimpArgs false

theorem CM.ok_iff (c : CM) : c.ok ↔ (1 ≤ c.wd ∧ c.wd ≤ 64 ∧ 1 ≤ c.tr ∧ c.tr ≤ 100 ∧ ∀ x ∈ ticksL c, tick x) := by
  simp [CM.ok, ticksL]
theorem tie_New_yes (c : CM) (w : World) (h : c.ok) : Calls Try.prog 29 #[c.val, .int .i64 2, .int .i64 2] w (NewYes w) := by
  obtain ⟨h1, h2, h3, h4, h5⟩ := c.ok_iff.1 h
  exact (tie_New_any c 2 2 w h1 h2 h3 h4 rfl rfl).mono fun e w' hh => hh.elim (·.2) (fun x => absurd h5 x.1)
theorem tie_New_bad (c : CM) (w : World) (h : ¬ c.ok) : Calls Try.prog 29 #[c.val, .int .i64 2, .int .i64 2] w (NewNo w) := by
  by_cases h1 : c.wd < 1 ∨ 64 < c.wd
  · exact tie_New_no1 c 2 2 w h1
  · by_cases h2 : c.tr < 1 ∨ 100 < c.tr
    · exact tie_New_no2 c 2 2 w (by omega) (by omega) h2
    · exact (tie_New_any c 2 2 w (by omega) (by omega) (by omega) (by omega) rfl rfl).mono fun e w' hh => hh.elim (fun x => absurd (c.ok_iff.2 ⟨by omega, by omega, by omega, by omega, x.1⟩) h) (·.2)
theorem may_yes (c : CM) (w : World) (h : c.ok) : Calls Try.prog 26 #[c.val] w fun e w' => e = .returned (.bool true) ∧ Fr [] w w' := by
  go_enter Try.func26, Try.ntmps26
  go_wp2_with fail
  refine (tie_New_yes c _ h).mono ?_
  rintro e w1 ⟨b, rfl, f1⟩
  go_wp2
  go_ret
  exact ⟨rfl, ((Fr.refl _ _).alloc _).tr f1⟩
theorem may_no (c : CM) (w : World) (h : ¬ c.ok) : Calls Try.prog 26 #[c.val] w fun e w' => e = .returned (.bool false) ∧ Fr [] w w' := by
  go_enter Try.func26, Try.ntmps26
  go_wp2_with fail
  refine (tie_New_bad c _ h).mono ?_
  rintro e w1 ⟨rfl, f1⟩
  go_wp2
  go_ret
  exact ⟨rfl, ((Fr.refl _ _).alloc _).tr f1⟩

def CM.sum (c : CM) : Int := c.ak + c.po + c.re + c.bu
theorem CM.sum_ok {c : CM} (h : c.ok) : 4 ≤ c.sum ∧ c.sum ≤ 40000 := by unfold CM.ok tick at h; unfold CM.sum; omega
theorem CM.tr_ok {c : CM} (h : c.ok) : 1 ≤ c.tr ∧ c.tr ≤ 100 := by unfold CM.ok at h; omega
def CM.gives (c : CM) : Int := (c.tr + 2) * c.sum
def CM.sends (c : CM) (n : Int) : Int := (n + 2) * (c.sum + 4)
theorem CM.gives_ok {c : CM} (h : c.ok) : 0 < c.gives ∧ c.gives ≤ 4080000 := by
  have h1 := c.sum_ok h
  have h2 := c.tr_ok h
  unfold CM.gives
  exact ⟨Int.mul_pos (by omega) (by omega), Int.le_trans (Int.mul_le_mul (show c.tr + 2 ≤ 102 by omega) h1.2 (by omega) (by omega)) (by omega)⟩
theorem CM.sends_ok {c : CM} (h : c.ok) {n : Int} (h0 : 0 ≤ n) (hn : n ≤ 128) : 0 < c.sends n ∧ c.sends n ≤ 5200520 := by
  have h1 := c.sum_ok h
  unfold CM.sends
  exact ⟨Int.mul_pos (by omega) (by omega), Int.le_trans (Int.mul_le_mul (show n + 2 ≤ 130 by omega) (show c.sum + 4 ≤ 40004 by omega) (by omega) (by omega)) (by omega)⟩

theorem sum_list (l : List Int) (b : Nat) (w : World) (hs : small l) (hb : Blk w b (arr l) 3) :
    Calls Try.prog 22 #[.slice (some ⟨b, 0, none⟩) l.length l.length] w fun e w' => e = .returned (.int .i64 l.sum) ∧ w = w' :=
  b_sum l b w hs (fun i hi => hb.cell i (by simp [hi]))

set_option maxHeartbeats 1000000 in
theorem bound_Gives (c : CM) (w : World) (h : c.ok) : Calls Try.prog 14 #[c.val] w fun e w' => e = .returned (.int .i64 c.gives) ∧ Fr [] w w' := by
  have hg := c.gives_ok h
  have h1 := c.sum_ok h
  have h2 := c.tr_ok h
  have h3 := h
  unfold CM.ok tick at h3
  unfold CM.gives at *
  have hw : IntKind.i64.wrap ((c.tr + 2) * c.sum) = (c.tr + 2) * c.sum := IntWalk.i64_in _ (by omega)
  go_enter Try.func14, Try.ntmps14
  have hb := Blk.new w #[.int .i64 c.wd, .int .i64 c.tr, .int .i64 c.ak, .int .i64 c.po, .int .i64 c.re, .int .i64 c.bu] 44
  go_wp2_with fail
  refine (may_yes c _ h).mono ?_
  rintro e w1 ⟨rfl, f1⟩
  have hb1 := hb.fr f1 (by simp)
  go_wp2
  have k0 : ∀ wx, Fr [] w1 wx → wx.cell? ⟨w.heap.size, 0, none⟩ = some (.int .i64 c.wd) := fun wx hf => hf.cell (hb1.cell 0 rfl) (by simp)
  have k1 : ∀ wx, Fr [] w1 wx → wx.cell? ⟨w.heap.size, 1, none⟩ = some (.int .i64 c.tr) := fun wx hf => hf.cell (hb1.cell 1 rfl) (by simp)
  have k2 : ∀ wx, Fr [] w1 wx → wx.cell? ⟨w.heap.size, 2, none⟩ = some (.int .i64 c.ak) := fun wx hf => hf.cell (hb1.cell 2 rfl) (by simp)
  have k3 : ∀ wx, Fr [] w1 wx → wx.cell? ⟨w.heap.size, 3, none⟩ = some (.int .i64 c.po) := fun wx hf => hf.cell (hb1.cell 3 rfl) (by simp)
  have k4 : ∀ wx, Fr [] w1 wx → wx.cell? ⟨w.heap.size, 4, none⟩ = some (.int .i64 c.re) := fun wx hf => hf.cell (hb1.cell 4 rfl) (by simp)
  have k5 : ∀ wx, Fr [] w1 wx → wx.cell? ⟨w.heap.size, 5, none⟩ = some (.int .i64 c.bu) := fun wx hf => hf.cell (hb1.cell 5 rfl) (by simp)
  refine wp_region_keeps [] [Is (.pointer (some ⟨w.heap.size, 1, none⟩)), Is (.int .i64 c.tr), IsSl [] #[.int .i64 c.tr, .int .i64 2] 3 2, Is (.int .i64 (c.tr + 2)), Is (.pointer (some ⟨w.heap.size, 2, none⟩)), Is (.int .i64 c.ak), Is (.pointer (some ⟨w.heap.size, 3, none⟩)), Is (.int .i64 c.po), Is (.pointer (some ⟨w.heap.size, 4, none⟩)), Is (.int .i64 c.re), Is (.pointer (some ⟨w.heap.size, 5, none⟩)), Is (.int .i64 c.bu), IsSl [] #[.int .i64 c.ak, .int .i64 c.po, .int .i64 c.re, .int .i64 c.bu] 3 4, Is (.int .i64 c.sum), Is (.int .i64 ((c.tr + 2) * c.sum)), Is (.int .i64 ((c.tr + 2) * c.sum))] (by kernel_rfl) (by kernel_rfl) (by kernel_rfl) (by kernel_rfl) ?hV ?hS ?hD
  case hV =>
    repeat (first | exact trivial | exact Is.keeps _ | exact Any.keeps | exact IsSl.keeps _ _ _ | refine And.intro ?_ ?_)
  case hS =>
    clear hb hb1 f1 h
    (repeat' (first | exact trivial | refine And.intro ?_ ?_))
    · intro ac wx hf hs hp K hK
      simp only [waits, holdsA, nth, Is, Any, List.filter_cons, List.filter_nil, List.map_cons, List.map_nil, Region.binds, if_true, true_and, and_true, Nat.reduceAdd, List.getElem?_cons_zero, List.getElem?_cons_succ, Option.bind_some, Array.getD_eq_getD_getElem?] at hp
      have hs1 := hs 1 (by kernel_rfl)
      simp only [Array.getD_eq_getD_getElem?, List.getElem?_toArray, List.getElem?_cons_succ, List.getElem?_cons_zero, Option.getD_some] at hs1
      clear hs
      clear hf
      (try simp only [hp])
      go_simp
      try dsimp only
      refine hK.out _ _ ?_ ?_
      · ((repeat (first | (with_reducible exact Fr.refl _ _) | (with_reducible assumption) | (with_reducible refine Fr.drew ?_) | (with_reducible refine Fr.drewN ?_ _) | (with_reducible refine Fr.alloc ?_ _) | (with_reducible refine Fr.setL ?_ _ _ _ ?_) | (focus (refine Or.inl ?_; simp; done)) | (focus (refine Or.inr ?_; simp; done)) | (focus (refine Or.inr ?_; simp; omega)) | (focus (refine Or.inr ?_; omega)))); done)
      · simp only [nth]
        first | (unfold Is; rfl) | (unfold Any; exact trivial) | exact IsSl.new _ _ _ _ | assumption
    · intro ac wx hf hs hp K hK
      simp only [waits, holdsA, nth, Is, Any, List.filter_cons, List.filter_nil, List.map_cons, List.map_nil, Region.binds, if_true, true_and, and_true, Nat.reduceAdd, List.getElem?_cons_zero, List.getElem?_cons_succ, Option.bind_some, Array.getD_eq_getD_getElem?] at hp
      clear hs
      have cx := k1 wx hf
      clear hf
      (try simp only [hp])
      go_simp
      try dsimp only
      refine hK.out _ _ ?_ ?_
      · ((repeat (first | (with_reducible exact Fr.refl _ _) | (with_reducible assumption) | (with_reducible refine Fr.drew ?_) | (with_reducible refine Fr.drewN ?_ _) | (with_reducible refine Fr.alloc ?_ _) | (with_reducible refine Fr.setL ?_ _ _ _ ?_) | (focus (refine Or.inl ?_; simp; done)) | (focus (refine Or.inr ?_; simp; done)) | (focus (refine Or.inr ?_; simp; omega)) | (focus (refine Or.inr ?_; omega)))); done)
      · simp only [nth]
        first | (unfold Is; rfl) | (unfold Any; exact trivial) | exact IsSl.new _ _ _ _ | assumption
    · intro ac wx hf hs hp K hK
      simp only [waits, holdsA, nth, Is, Any, List.filter_cons, List.filter_nil, List.map_cons, List.map_nil, Region.binds, if_true, true_and, and_true, Nat.reduceAdd, List.getElem?_cons_zero, List.getElem?_cons_succ, Option.bind_some, Array.getD_eq_getD_getElem?] at hp
      clear hs
      clear hf
      (try simp only [hp])
      go_simp
      try dsimp only
      refine hK.out _ _ ?_ ?_
      · ((repeat (first | (with_reducible exact Fr.refl _ _) | (with_reducible assumption) | (with_reducible refine Fr.drew ?_) | (with_reducible refine Fr.drewN ?_ _) | (with_reducible refine Fr.alloc ?_ _) | (with_reducible refine Fr.setL ?_ _ _ _ ?_) | (focus (refine Or.inl ?_; simp; done)) | (focus (refine Or.inr ?_; simp; done)) | (focus (refine Or.inr ?_; simp; omega)) | (focus (refine Or.inr ?_; omega)))); done)
      · simp only [nth]
        first | (unfold Is; rfl) | (unfold Any; exact trivial) | exact IsSl.new _ _ _ _ | assumption
    · intro ac wx hf hs hp K hK
      simp only [waits, holdsA, nth, Is, Any, List.filter_cons, List.filter_nil, List.map_cons, List.map_nil, Region.binds, if_true, true_and, and_true, Nat.reduceAdd, List.getElem?_cons_zero, List.getElem?_cons_succ, Option.bind_some, Array.getD_eq_getD_getElem?] at hp
      clear hs
      obtain ⟨b, e, hbl, -⟩ := hp
      go_simp
      go_at_call 22
      refine (sum_list [c.tr, 2] b _ (by simp [small]; omega) hbl).mono ?_
      rintro e w' ⟨rfl, rfl⟩
      rw [show List.sum [c.tr, 2] = c.tr + 2 by first | (simp [CM.sum, List.sum]; done) | (simp [CM.sum, List.sum]; omega)]
      try dsimp only
      refine hK.out _ _ ?_ ?_
      · ((repeat (first | (with_reducible exact Fr.refl _ _) | (with_reducible assumption) | (with_reducible refine Fr.drew ?_) | (with_reducible refine Fr.drewN ?_ _) | (with_reducible refine Fr.alloc ?_ _) | (with_reducible refine Fr.setL ?_ _ _ _ ?_) | (focus (refine Or.inl ?_; simp; done)) | (focus (refine Or.inr ?_; simp; done)) | (focus (refine Or.inr ?_; simp; omega)) | (focus (refine Or.inr ?_; omega)))); done)
      · simp only [nth]
        first | (unfold Is; rfl) | (unfold Any; exact trivial) | exact IsSl.new _ _ _ _ | assumption
    · intro ac wx hf hs hp K hK
      simp only [waits, holdsA, nth, Is, Any, List.filter_cons, List.filter_nil, List.map_cons, List.map_nil, Region.binds, if_true, true_and, and_true, Nat.reduceAdd, List.getElem?_cons_zero, List.getElem?_cons_succ, Option.bind_some, Array.getD_eq_getD_getElem?] at hp
      have hs1 := hs 1 (by kernel_rfl)
      simp only [Array.getD_eq_getD_getElem?, List.getElem?_toArray, List.getElem?_cons_succ, List.getElem?_cons_zero, Option.getD_some] at hs1
      clear hs
      clear hf
      (try simp only [hp])
      go_simp
      try dsimp only
      refine hK.out _ _ ?_ ?_
      · ((repeat (first | (with_reducible exact Fr.refl _ _) | (with_reducible assumption) | (with_reducible refine Fr.drew ?_) | (with_reducible refine Fr.drewN ?_ _) | (with_reducible refine Fr.alloc ?_ _) | (with_reducible refine Fr.setL ?_ _ _ _ ?_) | (focus (refine Or.inl ?_; simp; done)) | (focus (refine Or.inr ?_; simp; done)) | (focus (refine Or.inr ?_; simp; omega)) | (focus (refine Or.inr ?_; omega)))); done)
      · simp only [nth]
        first | (unfold Is; rfl) | (unfold Any; exact trivial) | exact IsSl.new _ _ _ _ | assumption
    · intro ac wx hf hs hp K hK
      simp only [waits, holdsA, nth, Is, Any, List.filter_cons, List.filter_nil, List.map_cons, List.map_nil, Region.binds, if_true, true_and, and_true, Nat.reduceAdd, List.getElem?_cons_zero, List.getElem?_cons_succ, Option.bind_some, Array.getD_eq_getD_getElem?] at hp
      clear hs
      have cx := k2 wx hf
      clear hf
      (try simp only [hp])
      go_simp
      try dsimp only
      refine hK.out _ _ ?_ ?_
      · ((repeat (first | (with_reducible exact Fr.refl _ _) | (with_reducible assumption) | (with_reducible refine Fr.drew ?_) | (with_reducible refine Fr.drewN ?_ _) | (with_reducible refine Fr.alloc ?_ _) | (with_reducible refine Fr.setL ?_ _ _ _ ?_) | (focus (refine Or.inl ?_; simp; done)) | (focus (refine Or.inr ?_; simp; done)) | (focus (refine Or.inr ?_; simp; omega)) | (focus (refine Or.inr ?_; omega)))); done)
      · simp only [nth]
        first | (unfold Is; rfl) | (unfold Any; exact trivial) | exact IsSl.new _ _ _ _ | assumption
    · intro ac wx hf hs hp K hK
      simp only [waits, holdsA, nth, Is, Any, List.filter_cons, List.filter_nil, List.map_cons, List.map_nil, Region.binds, if_true, true_and, and_true, Nat.reduceAdd, List.getElem?_cons_zero, List.getElem?_cons_succ, Option.bind_some, Array.getD_eq_getD_getElem?] at hp
      have hs1 := hs 1 (by kernel_rfl)
      simp only [Array.getD_eq_getD_getElem?, List.getElem?_toArray, List.getElem?_cons_succ, List.getElem?_cons_zero, Option.getD_some] at hs1
      clear hs
      clear hf
      (try simp only [hp])
      go_simp
      try dsimp only
      refine hK.out _ _ ?_ ?_
      · ((repeat (first | (with_reducible exact Fr.refl _ _) | (with_reducible assumption) | (with_reducible refine Fr.drew ?_) | (with_reducible refine Fr.drewN ?_ _) | (with_reducible refine Fr.alloc ?_ _) | (with_reducible refine Fr.setL ?_ _ _ _ ?_) | (focus (refine Or.inl ?_; simp; done)) | (focus (refine Or.inr ?_; simp; done)) | (focus (refine Or.inr ?_; simp; omega)) | (focus (refine Or.inr ?_; omega)))); done)
      · simp only [nth]
        first | (unfold Is; rfl) | (unfold Any; exact trivial) | exact IsSl.new _ _ _ _ | assumption
    · intro ac wx hf hs hp K hK
      simp only [waits, holdsA, nth, Is, Any, List.filter_cons, List.filter_nil, List.map_cons, List.map_nil, Region.binds, if_true, true_and, and_true, Nat.reduceAdd, List.getElem?_cons_zero, List.getElem?_cons_succ, Option.bind_some, Array.getD_eq_getD_getElem?] at hp
      clear hs
      have cx := k3 wx hf
      clear hf
      (try simp only [hp])
      go_simp
      try dsimp only
      refine hK.out _ _ ?_ ?_
      · ((repeat (first | (with_reducible exact Fr.refl _ _) | (with_reducible assumption) | (with_reducible refine Fr.drew ?_) | (with_reducible refine Fr.drewN ?_ _) | (with_reducible refine Fr.alloc ?_ _) | (with_reducible refine Fr.setL ?_ _ _ _ ?_) | (focus (refine Or.inl ?_; simp; done)) | (focus (refine Or.inr ?_; simp; done)) | (focus (refine Or.inr ?_; simp; omega)) | (focus (refine Or.inr ?_; omega)))); done)
      · simp only [nth]
        first | (unfold Is; rfl) | (unfold Any; exact trivial) | exact IsSl.new _ _ _ _ | assumption
    · intro ac wx hf hs hp K hK
      simp only [waits, holdsA, nth, Is, Any, List.filter_cons, List.filter_nil, List.map_cons, List.map_nil, Region.binds, if_true, true_and, and_true, Nat.reduceAdd, List.getElem?_cons_zero, List.getElem?_cons_succ, Option.bind_some, Array.getD_eq_getD_getElem?] at hp
      have hs1 := hs 1 (by kernel_rfl)
      simp only [Array.getD_eq_getD_getElem?, List.getElem?_toArray, List.getElem?_cons_succ, List.getElem?_cons_zero, Option.getD_some] at hs1
      clear hs
      clear hf
      (try simp only [hp])
      go_simp
      try dsimp only
      refine hK.out _ _ ?_ ?_
      · ((repeat (first | (with_reducible exact Fr.refl _ _) | (with_reducible assumption) | (with_reducible refine Fr.drew ?_) | (with_reducible refine Fr.drewN ?_ _) | (with_reducible refine Fr.alloc ?_ _) | (with_reducible refine Fr.setL ?_ _ _ _ ?_) | (focus (refine Or.inl ?_; simp; done)) | (focus (refine Or.inr ?_; simp; done)) | (focus (refine Or.inr ?_; simp; omega)) | (focus (refine Or.inr ?_; omega)))); done)
      · simp only [nth]
        first | (unfold Is; rfl) | (unfold Any; exact trivial) | exact IsSl.new _ _ _ _ | assumption
    · intro ac wx hf hs hp K hK
      simp only [waits, holdsA, nth, Is, Any, List.filter_cons, List.filter_nil, List.map_cons, List.map_nil, Region.binds, if_true, true_and, and_true, Nat.reduceAdd, List.getElem?_cons_zero, List.getElem?_cons_succ, Option.bind_some, Array.getD_eq_getD_getElem?] at hp
      clear hs
      have cx := k4 wx hf
      clear hf
      (try simp only [hp])
      go_simp
      try dsimp only
      refine hK.out _ _ ?_ ?_
      · ((repeat (first | (with_reducible exact Fr.refl _ _) | (with_reducible assumption) | (with_reducible refine Fr.drew ?_) | (with_reducible refine Fr.drewN ?_ _) | (with_reducible refine Fr.alloc ?_ _) | (with_reducible refine Fr.setL ?_ _ _ _ ?_) | (focus (refine Or.inl ?_; simp; done)) | (focus (refine Or.inr ?_; simp; done)) | (focus (refine Or.inr ?_; simp; omega)) | (focus (refine Or.inr ?_; omega)))); done)
      · simp only [nth]
        first | (unfold Is; rfl) | (unfold Any; exact trivial) | exact IsSl.new _ _ _ _ | assumption
    · intro ac wx hf hs hp K hK
      simp only [waits, holdsA, nth, Is, Any, List.filter_cons, List.filter_nil, List.map_cons, List.map_nil, Region.binds, if_true, true_and, and_true, Nat.reduceAdd, List.getElem?_cons_zero, List.getElem?_cons_succ, Option.bind_some, Array.getD_eq_getD_getElem?] at hp
      have hs1 := hs 1 (by kernel_rfl)
      simp only [Array.getD_eq_getD_getElem?, List.getElem?_toArray, List.getElem?_cons_succ, List.getElem?_cons_zero, Option.getD_some] at hs1
      clear hs
      clear hf
      (try simp only [hp])
      go_simp
      try dsimp only
      refine hK.out _ _ ?_ ?_
      · ((repeat (first | (with_reducible exact Fr.refl _ _) | (with_reducible assumption) | (with_reducible refine Fr.drew ?_) | (with_reducible refine Fr.drewN ?_ _) | (with_reducible refine Fr.alloc ?_ _) | (with_reducible refine Fr.setL ?_ _ _ _ ?_) | (focus (refine Or.inl ?_; simp; done)) | (focus (refine Or.inr ?_; simp; done)) | (focus (refine Or.inr ?_; simp; omega)) | (focus (refine Or.inr ?_; omega)))); done)
      · simp only [nth]
        first | (unfold Is; rfl) | (unfold Any; exact trivial) | exact IsSl.new _ _ _ _ | assumption
    · intro ac wx hf hs hp K hK
      simp only [waits, holdsA, nth, Is, Any, List.filter_cons, List.filter_nil, List.map_cons, List.map_nil, Region.binds, if_true, true_and, and_true, Nat.reduceAdd, List.getElem?_cons_zero, List.getElem?_cons_succ, Option.bind_some, Array.getD_eq_getD_getElem?] at hp
      clear hs
      have cx := k5 wx hf
      clear hf
      (try simp only [hp])
      go_simp
      try dsimp only
      refine hK.out _ _ ?_ ?_
      · ((repeat (first | (with_reducible exact Fr.refl _ _) | (with_reducible assumption) | (with_reducible refine Fr.drew ?_) | (with_reducible refine Fr.drewN ?_ _) | (with_reducible refine Fr.alloc ?_ _) | (with_reducible refine Fr.setL ?_ _ _ _ ?_) | (focus (refine Or.inl ?_; simp; done)) | (focus (refine Or.inr ?_; simp; done)) | (focus (refine Or.inr ?_; simp; omega)) | (focus (refine Or.inr ?_; omega)))); done)
      · simp only [nth]
        first | (unfold Is; rfl) | (unfold Any; exact trivial) | exact IsSl.new _ _ _ _ | assumption
    · intro ac wx hf hs hp K hK
      simp only [waits, holdsA, nth, Is, Any, List.filter_cons, List.filter_nil, List.map_cons, List.map_nil, Region.binds, if_true, true_and, and_true, Nat.reduceAdd, List.getElem?_cons_zero, List.getElem?_cons_succ, Option.bind_some, Array.getD_eq_getD_getElem?] at hp
      clear hs
      clear hf
      (try simp only [hp])
      go_simp
      try dsimp only
      refine hK.out _ _ ?_ ?_
      · ((repeat (first | (with_reducible exact Fr.refl _ _) | (with_reducible assumption) | (with_reducible refine Fr.drew ?_) | (with_reducible refine Fr.drewN ?_ _) | (with_reducible refine Fr.alloc ?_ _) | (with_reducible refine Fr.setL ?_ _ _ _ ?_) | (focus (refine Or.inl ?_; simp; done)) | (focus (refine Or.inr ?_; simp; done)) | (focus (refine Or.inr ?_; simp; omega)) | (focus (refine Or.inr ?_; omega)))); done)
      · simp only [nth]
        first | (unfold Is; rfl) | (unfold Any; exact trivial) | exact IsSl.new _ _ _ _ | assumption
    · intro ac wx hf hs hp K hK
      simp only [waits, holdsA, nth, Is, Any, List.filter_cons, List.filter_nil, List.map_cons, List.map_nil, Region.binds, if_true, true_and, and_true, Nat.reduceAdd, List.getElem?_cons_zero, List.getElem?_cons_succ, Option.bind_some, Array.getD_eq_getD_getElem?] at hp
      clear hs
      obtain ⟨⟨b, e, hbl, -⟩, -⟩ := hp
      go_simp
      go_at_call 22
      refine (sum_list [c.ak, c.po, c.re, c.bu] b _ (by simp [small]; omega) hbl).mono ?_
      rintro e w' ⟨rfl, rfl⟩
      rw [show List.sum [c.ak, c.po, c.re, c.bu] = c.sum by first | (simp [CM.sum, List.sum]; done) | (simp [CM.sum, List.sum]; omega)]
      try dsimp only
      refine hK.out _ _ ?_ ?_
      · ((repeat (first | (with_reducible exact Fr.refl _ _) | (with_reducible assumption) | (with_reducible refine Fr.drew ?_) | (with_reducible refine Fr.drewN ?_ _) | (with_reducible refine Fr.alloc ?_ _) | (with_reducible refine Fr.setL ?_ _ _ _ ?_) | (focus (refine Or.inl ?_; simp; done)) | (focus (refine Or.inr ?_; simp; done)) | (focus (refine Or.inr ?_; simp; omega)) | (focus (refine Or.inr ?_; omega)))); done)
      · simp only [nth]
        first | (unfold Is; rfl) | (unfold Any; exact trivial) | exact IsSl.new _ _ _ _ | assumption
    · intro ac wx hf hs hp K hK
      simp only [waits, holdsA, nth, Is, Any, List.filter_cons, List.filter_nil, List.map_cons, List.map_nil, Region.binds, if_true, true_and, and_true, Nat.reduceAdd, List.getElem?_cons_zero, List.getElem?_cons_succ, Option.bind_some, Array.getD_eq_getD_getElem?] at hp
      clear hs
      clear hf
      (try simp only [hp])
      go_simp
      try dsimp only
      refine hK.out _ _ ?_ ?_
      · ((repeat (first | (with_reducible exact Fr.refl _ _) | (with_reducible assumption) | (with_reducible refine Fr.drew ?_) | (with_reducible refine Fr.drewN ?_ _) | (with_reducible refine Fr.alloc ?_ _) | (with_reducible refine Fr.setL ?_ _ _ _ ?_) | (focus (refine Or.inl ?_; simp; done)) | (focus (refine Or.inr ?_; simp; done)) | (focus (refine Or.inr ?_; simp; omega)) | (focus (refine Or.inr ?_; omega)))); done)
      · simp only [nth]
        first | (unfold Is; rfl) | (unfold Any; exact trivial) | exact IsSl.new _ _ _ _ | assumption
    · intro ac wx hf hs hp K hK
      simp only [waits, holdsA, nth, Is, Any, List.filter_cons, List.filter_nil, List.map_cons, List.map_nil, Region.binds, if_true, true_and, and_true, Nat.reduceAdd, List.getElem?_cons_zero, List.getElem?_cons_succ, Option.bind_some, Array.getD_eq_getD_getElem?] at hp
      clear hs
      clear hf
      (try simp only [hp])
      go_simp
      try dsimp only
      refine hK.out _ _ ?_ ?_
      · ((repeat (first | (with_reducible exact Fr.refl _ _) | (with_reducible assumption) | (with_reducible refine Fr.drew ?_) | (with_reducible refine Fr.drewN ?_ _) | (with_reducible refine Fr.alloc ?_ _) | (with_reducible refine Fr.setL ?_ _ _ _ ?_) | (focus (refine Or.inl ?_; simp; done)) | (focus (refine Or.inr ?_; simp; done)) | (focus (refine Or.inr ?_; simp; omega)) | (focus (refine Or.inr ?_; omega)))); done)
      · simp only [nth]
        first | (unfold Is; rfl) | (unfold Any; exact trivial) | exact IsSl.new _ _ _ _ | assumption
  case hD =>
    intro x wx hf hp
    simp only [fill, List.setIfInBounds_toArray, List.set_cons_zero, List.set_cons_succ, Nat.reduceAdd, Act.put]
    simp only [List.length_cons, List.length_nil, Nat.reduceAdd, List.range_eq_range', List.range'_succ, List.range'_zero, Nat.zero_add, Nat.add_zero, holds, nth, Is, Any, true_and, and_true] at hp
    simp only [hp]
    go_wp2
    go_ret
    exact ⟨rfl, (((Fr.refl _ _).alloc _).tr f1).tr hf⟩
theorem bound_Gives_no (c : CM) (w : World) (h : ¬ c.ok) : Calls Try.prog 14 #[c.val] w fun e w' => e = .returned (.int .i64 0) ∧ Fr [] w w' := by
  go_enter Try.func14, Try.ntmps14
  go_wp2_with fail
  refine (may_no c _ h).mono ?_
  rintro e w1 ⟨rfl, f1⟩
  go_wp2
  go_ret
  exact ⟨rfl, ((Fr.refl _ _).alloc _).tr f1⟩

set_option maxHeartbeats 1000000 in
theorem bound_Sends (c : CM) (n : Int) (w : World) (h : c.ok) (h0 : 0 ≤ n) (hn : n ≤ 128) : Calls Try.prog 15 #[c.val, .int .i64 n] w fun e w' => e = .returned (.int .i64 (c.sends n)) ∧ Fr [] w w' := by
  have hg := CM.sends_ok h h0 hn
  have h1 := c.sum_ok h
  have h2 := c.tr_ok h
  have h3 := h
  unfold CM.ok tick at h3
  unfold CM.sends at *
  have d1 : decide (n < 0) = false := by simp; omega
  have d2 : decide (128 < n) = false := by simp; omega
  have hw : IntKind.i64.wrap ((n + 2) * (c.sum + 4)) = (n + 2) * (c.sum + 4) := IntWalk.i64_in _ (by omega)
  go_enter Try.func15, Try.ntmps15
  have hb := Blk.new w #[.int .i64 c.wd, .int .i64 c.tr, .int .i64 c.ak, .int .i64 c.po, .int .i64 c.re, .int .i64 c.bu] 44
  go_wp2_with fail
  refine (may_yes c _ h).mono ?_
  rintro e w1 ⟨rfl, f1⟩
  have hb1 := hb.fr f1 (by simp)
  go_wp2
  have k0 : ∀ wx, Fr [] w1 wx → wx.cell? ⟨w.heap.size, 0, none⟩ = some (.int .i64 c.wd) := fun wx hf => hf.cell (hb1.cell 0 rfl) (by simp)
  have k1 : ∀ wx, Fr [] w1 wx → wx.cell? ⟨w.heap.size, 1, none⟩ = some (.int .i64 c.tr) := fun wx hf => hf.cell (hb1.cell 1 rfl) (by simp)
  have k2 : ∀ wx, Fr [] w1 wx → wx.cell? ⟨w.heap.size, 2, none⟩ = some (.int .i64 c.ak) := fun wx hf => hf.cell (hb1.cell 2 rfl) (by simp)
  have k3 : ∀ wx, Fr [] w1 wx → wx.cell? ⟨w.heap.size, 3, none⟩ = some (.int .i64 c.po) := fun wx hf => hf.cell (hb1.cell 3 rfl) (by simp)
  have k4 : ∀ wx, Fr [] w1 wx → wx.cell? ⟨w.heap.size, 4, none⟩ = some (.int .i64 c.re) := fun wx hf => hf.cell (hb1.cell 4 rfl) (by simp)
  have k5 : ∀ wx, Fr [] w1 wx → wx.cell? ⟨w.heap.size, 5, none⟩ = some (.int .i64 c.bu) := fun wx hf => hf.cell (hb1.cell 5 rfl) (by simp)
  refine wp_region_keeps [] [Is (.int .i64 n), IsSl [] #[.int .i64 n, .int .i64 2] 3 2, Is (.int .i64 (n + 2)), Is (.pointer (some ⟨w.heap.size, 2, none⟩)), Is (.int .i64 c.ak), Is (.pointer (some ⟨w.heap.size, 3, none⟩)), Is (.int .i64 c.po), Is (.pointer (some ⟨w.heap.size, 4, none⟩)), Is (.int .i64 c.re), Is (.pointer (some ⟨w.heap.size, 5, none⟩)), Is (.int .i64 c.bu), IsSl [] #[.int .i64 c.ak, .int .i64 c.po, .int .i64 c.re, .int .i64 c.bu, .int .i64 4] 3 5, Is (.int .i64 (c.sum + 4)), Is (.int .i64 ((n + 2) * (c.sum + 4))), Is (.int .i64 ((n + 2) * (c.sum + 4)))] (by kernel_rfl) (by kernel_rfl) (by kernel_rfl) (by kernel_rfl) ?hV ?hS ?hD
  case hV =>
    repeat (first | exact trivial | exact Is.keeps _ | exact Any.keeps | exact IsSl.keeps _ _ _ | refine And.intro ?_ ?_)
  case hS =>
    clear hb hb1 f1 h
    (repeat' (first | exact trivial | refine And.intro ?_ ?_))
    · intro ac wx hf hs hp K hK
      simp only [waits, holdsA, nth, Is, Any, List.filter_cons, List.filter_nil, List.map_cons, List.map_nil, Region.binds, if_true, true_and, and_true, Nat.reduceAdd, List.getElem?_cons_zero, List.getElem?_cons_succ, Option.bind_some, Array.getD_eq_getD_getElem?] at hp
      have hs1 := hs 1 (by kernel_rfl)
      simp only [Array.getD_eq_getD_getElem?, List.getElem?_toArray, List.getElem?_cons_succ, List.getElem?_cons_zero, Option.getD_some] at hs1
      clear hs
      clear hf
      (try simp only [hp])
      go_simp
      try dsimp only
      refine hK.out _ _ ?_ ?_
      · ((repeat (first | (with_reducible exact Fr.refl _ _) | (with_reducible assumption) | (with_reducible refine Fr.drew ?_) | (with_reducible refine Fr.drewN ?_ _) | (with_reducible refine Fr.alloc ?_ _) | (with_reducible refine Fr.setL ?_ _ _ _ ?_) | (focus (refine Or.inl ?_; simp; done)) | (focus (refine Or.inr ?_; simp; done)) | (focus (refine Or.inr ?_; simp; omega)) | (focus (refine Or.inr ?_; omega)))); done)
      · simp only [nth]
        first | (unfold Is; rfl) | (unfold Any; exact trivial) | exact IsSl.new _ _ _ _ | assumption
    · intro ac wx hf hs hp K hK
      simp only [waits, holdsA, nth, Is, Any, List.filter_cons, List.filter_nil, List.map_cons, List.map_nil, Region.binds, if_true, true_and, and_true, Nat.reduceAdd, List.getElem?_cons_zero, List.getElem?_cons_succ, Option.bind_some, Array.getD_eq_getD_getElem?] at hp
      clear hs
      clear hf
      (try simp only [hp])
      go_simp
      try dsimp only
      refine hK.out _ _ ?_ ?_
      · ((repeat (first | (with_reducible exact Fr.refl _ _) | (with_reducible assumption) | (with_reducible refine Fr.drew ?_) | (with_reducible refine Fr.drewN ?_ _) | (with_reducible refine Fr.alloc ?_ _) | (with_reducible refine Fr.setL ?_ _ _ _ ?_) | (focus (refine Or.inl ?_; simp; done)) | (focus (refine Or.inr ?_; simp; done)) | (focus (refine Or.inr ?_; simp; omega)) | (focus (refine Or.inr ?_; omega)))); done)
      · simp only [nth]
        first | (unfold Is; rfl) | (unfold Any; exact trivial) | exact IsSl.new _ _ _ _ | assumption
    · intro ac wx hf hs hp K hK
      simp only [waits, holdsA, nth, Is, Any, List.filter_cons, List.filter_nil, List.map_cons, List.map_nil, Region.binds, if_true, true_and, and_true, Nat.reduceAdd, List.getElem?_cons_zero, List.getElem?_cons_succ, Option.bind_some, Array.getD_eq_getD_getElem?] at hp
      clear hs
      obtain ⟨b, e, hbl, -⟩ := hp
      go_simp
      go_at_call 22
      refine (sum_list [n, 2] b _ (by simp [small]; omega) hbl).mono ?_
      rintro e w' ⟨rfl, rfl⟩
      rw [show List.sum [n, 2] = n + 2 by first | (simp [CM.sum, List.sum]; done) | (simp [CM.sum, List.sum]; omega)]
      try dsimp only
      refine hK.out _ _ ?_ ?_
      · ((repeat (first | (with_reducible exact Fr.refl _ _) | (with_reducible assumption) | (with_reducible refine Fr.drew ?_) | (with_reducible refine Fr.drewN ?_ _) | (with_reducible refine Fr.alloc ?_ _) | (with_reducible refine Fr.setL ?_ _ _ _ ?_) | (focus (refine Or.inl ?_; simp; done)) | (focus (refine Or.inr ?_; simp; done)) | (focus (refine Or.inr ?_; simp; omega)) | (focus (refine Or.inr ?_; omega)))); done)
      · simp only [nth]
        first | (unfold Is; rfl) | (unfold Any; exact trivial) | exact IsSl.new _ _ _ _ | assumption
    · intro ac wx hf hs hp K hK
      simp only [waits, holdsA, nth, Is, Any, List.filter_cons, List.filter_nil, List.map_cons, List.map_nil, Region.binds, if_true, true_and, and_true, Nat.reduceAdd, List.getElem?_cons_zero, List.getElem?_cons_succ, Option.bind_some, Array.getD_eq_getD_getElem?] at hp
      have hs2 := hs 2 (by kernel_rfl)
      simp only [Array.getD_eq_getD_getElem?, List.getElem?_toArray, List.getElem?_cons_succ, List.getElem?_cons_zero, Option.getD_some] at hs2
      clear hs
      clear hf
      (try simp only [hp])
      go_simp
      try dsimp only
      refine hK.out _ _ ?_ ?_
      · ((repeat (first | (with_reducible exact Fr.refl _ _) | (with_reducible assumption) | (with_reducible refine Fr.drew ?_) | (with_reducible refine Fr.drewN ?_ _) | (with_reducible refine Fr.alloc ?_ _) | (with_reducible refine Fr.setL ?_ _ _ _ ?_) | (focus (refine Or.inl ?_; simp; done)) | (focus (refine Or.inr ?_; simp; done)) | (focus (refine Or.inr ?_; simp; omega)) | (focus (refine Or.inr ?_; omega)))); done)
      · simp only [nth]
        first | (unfold Is; rfl) | (unfold Any; exact trivial) | exact IsSl.new _ _ _ _ | assumption
    · intro ac wx hf hs hp K hK
      simp only [waits, holdsA, nth, Is, Any, List.filter_cons, List.filter_nil, List.map_cons, List.map_nil, Region.binds, if_true, true_and, and_true, Nat.reduceAdd, List.getElem?_cons_zero, List.getElem?_cons_succ, Option.bind_some, Array.getD_eq_getD_getElem?] at hp
      clear hs
      have cx := k2 wx hf
      clear hf
      (try simp only [hp])
      go_simp
      try dsimp only
      refine hK.out _ _ ?_ ?_
      · ((repeat (first | (with_reducible exact Fr.refl _ _) | (with_reducible assumption) | (with_reducible refine Fr.drew ?_) | (with_reducible refine Fr.drewN ?_ _) | (with_reducible refine Fr.alloc ?_ _) | (with_reducible refine Fr.setL ?_ _ _ _ ?_) | (focus (refine Or.inl ?_; simp; done)) | (focus (refine Or.inr ?_; simp; done)) | (focus (refine Or.inr ?_; simp; omega)) | (focus (refine Or.inr ?_; omega)))); done)
      · simp only [nth]
        first | (unfold Is; rfl) | (unfold Any; exact trivial) | exact IsSl.new _ _ _ _ | assumption
    · intro ac wx hf hs hp K hK
      simp only [waits, holdsA, nth, Is, Any, List.filter_cons, List.filter_nil, List.map_cons, List.map_nil, Region.binds, if_true, true_and, and_true, Nat.reduceAdd, List.getElem?_cons_zero, List.getElem?_cons_succ, Option.bind_some, Array.getD_eq_getD_getElem?] at hp
      have hs2 := hs 2 (by kernel_rfl)
      simp only [Array.getD_eq_getD_getElem?, List.getElem?_toArray, List.getElem?_cons_succ, List.getElem?_cons_zero, Option.getD_some] at hs2
      clear hs
      clear hf
      (try simp only [hp])
      go_simp
      try dsimp only
      refine hK.out _ _ ?_ ?_
      · ((repeat (first | (with_reducible exact Fr.refl _ _) | (with_reducible assumption) | (with_reducible refine Fr.drew ?_) | (with_reducible refine Fr.drewN ?_ _) | (with_reducible refine Fr.alloc ?_ _) | (with_reducible refine Fr.setL ?_ _ _ _ ?_) | (focus (refine Or.inl ?_; simp; done)) | (focus (refine Or.inr ?_; simp; done)) | (focus (refine Or.inr ?_; simp; omega)) | (focus (refine Or.inr ?_; omega)))); done)
      · simp only [nth]
        first | (unfold Is; rfl) | (unfold Any; exact trivial) | exact IsSl.new _ _ _ _ | assumption
    · intro ac wx hf hs hp K hK
      simp only [waits, holdsA, nth, Is, Any, List.filter_cons, List.filter_nil, List.map_cons, List.map_nil, Region.binds, if_true, true_and, and_true, Nat.reduceAdd, List.getElem?_cons_zero, List.getElem?_cons_succ, Option.bind_some, Array.getD_eq_getD_getElem?] at hp
      clear hs
      have cx := k3 wx hf
      clear hf
      (try simp only [hp])
      go_simp
      try dsimp only
      refine hK.out _ _ ?_ ?_
      · ((repeat (first | (with_reducible exact Fr.refl _ _) | (with_reducible assumption) | (with_reducible refine Fr.drew ?_) | (with_reducible refine Fr.drewN ?_ _) | (with_reducible refine Fr.alloc ?_ _) | (with_reducible refine Fr.setL ?_ _ _ _ ?_) | (focus (refine Or.inl ?_; simp; done)) | (focus (refine Or.inr ?_; simp; done)) | (focus (refine Or.inr ?_; simp; omega)) | (focus (refine Or.inr ?_; omega)))); done)
      · simp only [nth]
        first | (unfold Is; rfl) | (unfold Any; exact trivial) | exact IsSl.new _ _ _ _ | assumption
    · intro ac wx hf hs hp K hK
      simp only [waits, holdsA, nth, Is, Any, List.filter_cons, List.filter_nil, List.map_cons, List.map_nil, Region.binds, if_true, true_and, and_true, Nat.reduceAdd, List.getElem?_cons_zero, List.getElem?_cons_succ, Option.bind_some, Array.getD_eq_getD_getElem?] at hp
      have hs2 := hs 2 (by kernel_rfl)
      simp only [Array.getD_eq_getD_getElem?, List.getElem?_toArray, List.getElem?_cons_succ, List.getElem?_cons_zero, Option.getD_some] at hs2
      clear hs
      clear hf
      (try simp only [hp])
      go_simp
      try dsimp only
      refine hK.out _ _ ?_ ?_
      · ((repeat (first | (with_reducible exact Fr.refl _ _) | (with_reducible assumption) | (with_reducible refine Fr.drew ?_) | (with_reducible refine Fr.drewN ?_ _) | (with_reducible refine Fr.alloc ?_ _) | (with_reducible refine Fr.setL ?_ _ _ _ ?_) | (focus (refine Or.inl ?_; simp; done)) | (focus (refine Or.inr ?_; simp; done)) | (focus (refine Or.inr ?_; simp; omega)) | (focus (refine Or.inr ?_; omega)))); done)
      · simp only [nth]
        first | (unfold Is; rfl) | (unfold Any; exact trivial) | exact IsSl.new _ _ _ _ | assumption
    · intro ac wx hf hs hp K hK
      simp only [waits, holdsA, nth, Is, Any, List.filter_cons, List.filter_nil, List.map_cons, List.map_nil, Region.binds, if_true, true_and, and_true, Nat.reduceAdd, List.getElem?_cons_zero, List.getElem?_cons_succ, Option.bind_some, Array.getD_eq_getD_getElem?] at hp
      clear hs
      have cx := k4 wx hf
      clear hf
      (try simp only [hp])
      go_simp
      try dsimp only
      refine hK.out _ _ ?_ ?_
      · ((repeat (first | (with_reducible exact Fr.refl _ _) | (with_reducible assumption) | (with_reducible refine Fr.drew ?_) | (with_reducible refine Fr.drewN ?_ _) | (with_reducible refine Fr.alloc ?_ _) | (with_reducible refine Fr.setL ?_ _ _ _ ?_) | (focus (refine Or.inl ?_; simp; done)) | (focus (refine Or.inr ?_; simp; done)) | (focus (refine Or.inr ?_; simp; omega)) | (focus (refine Or.inr ?_; omega)))); done)
      · simp only [nth]
        first | (unfold Is; rfl) | (unfold Any; exact trivial) | exact IsSl.new _ _ _ _ | assumption
    · intro ac wx hf hs hp K hK
      simp only [waits, holdsA, nth, Is, Any, List.filter_cons, List.filter_nil, List.map_cons, List.map_nil, Region.binds, if_true, true_and, and_true, Nat.reduceAdd, List.getElem?_cons_zero, List.getElem?_cons_succ, Option.bind_some, Array.getD_eq_getD_getElem?] at hp
      have hs2 := hs 2 (by kernel_rfl)
      simp only [Array.getD_eq_getD_getElem?, List.getElem?_toArray, List.getElem?_cons_succ, List.getElem?_cons_zero, Option.getD_some] at hs2
      clear hs
      clear hf
      (try simp only [hp])
      go_simp
      try dsimp only
      refine hK.out _ _ ?_ ?_
      · ((repeat (first | (with_reducible exact Fr.refl _ _) | (with_reducible assumption) | (with_reducible refine Fr.drew ?_) | (with_reducible refine Fr.drewN ?_ _) | (with_reducible refine Fr.alloc ?_ _) | (with_reducible refine Fr.setL ?_ _ _ _ ?_) | (focus (refine Or.inl ?_; simp; done)) | (focus (refine Or.inr ?_; simp; done)) | (focus (refine Or.inr ?_; simp; omega)) | (focus (refine Or.inr ?_; omega)))); done)
      · simp only [nth]
        first | (unfold Is; rfl) | (unfold Any; exact trivial) | exact IsSl.new _ _ _ _ | assumption
    · intro ac wx hf hs hp K hK
      simp only [waits, holdsA, nth, Is, Any, List.filter_cons, List.filter_nil, List.map_cons, List.map_nil, Region.binds, if_true, true_and, and_true, Nat.reduceAdd, List.getElem?_cons_zero, List.getElem?_cons_succ, Option.bind_some, Array.getD_eq_getD_getElem?] at hp
      clear hs
      have cx := k5 wx hf
      clear hf
      (try simp only [hp])
      go_simp
      try dsimp only
      refine hK.out _ _ ?_ ?_
      · ((repeat (first | (with_reducible exact Fr.refl _ _) | (with_reducible assumption) | (with_reducible refine Fr.drew ?_) | (with_reducible refine Fr.drewN ?_ _) | (with_reducible refine Fr.alloc ?_ _) | (with_reducible refine Fr.setL ?_ _ _ _ ?_) | (focus (refine Or.inl ?_; simp; done)) | (focus (refine Or.inr ?_; simp; done)) | (focus (refine Or.inr ?_; simp; omega)) | (focus (refine Or.inr ?_; omega)))); done)
      · simp only [nth]
        first | (unfold Is; rfl) | (unfold Any; exact trivial) | exact IsSl.new _ _ _ _ | assumption
    · intro ac wx hf hs hp K hK
      simp only [waits, holdsA, nth, Is, Any, List.filter_cons, List.filter_nil, List.map_cons, List.map_nil, Region.binds, if_true, true_and, and_true, Nat.reduceAdd, List.getElem?_cons_zero, List.getElem?_cons_succ, Option.bind_some, Array.getD_eq_getD_getElem?] at hp
      clear hs
      clear hf
      (try simp only [hp])
      go_simp
      try dsimp only
      refine hK.out _ _ ?_ ?_
      · ((repeat (first | (with_reducible exact Fr.refl _ _) | (with_reducible assumption) | (with_reducible refine Fr.drew ?_) | (with_reducible refine Fr.drewN ?_ _) | (with_reducible refine Fr.alloc ?_ _) | (with_reducible refine Fr.setL ?_ _ _ _ ?_) | (focus (refine Or.inl ?_; simp; done)) | (focus (refine Or.inr ?_; simp; done)) | (focus (refine Or.inr ?_; simp; omega)) | (focus (refine Or.inr ?_; omega)))); done)
      · simp only [nth]
        first | (unfold Is; rfl) | (unfold Any; exact trivial) | exact IsSl.new _ _ _ _ | assumption
    · intro ac wx hf hs hp K hK
      simp only [waits, holdsA, nth, Is, Any, List.filter_cons, List.filter_nil, List.map_cons, List.map_nil, Region.binds, if_true, true_and, and_true, Nat.reduceAdd, List.getElem?_cons_zero, List.getElem?_cons_succ, Option.bind_some, Array.getD_eq_getD_getElem?] at hp
      clear hs
      obtain ⟨⟨b, e, hbl, -⟩, -⟩ := hp
      go_simp
      go_at_call 22
      refine (sum_list [c.ak, c.po, c.re, c.bu, 4] b _ (by simp [small]; omega) hbl).mono ?_
      rintro e w' ⟨rfl, rfl⟩
      rw [show List.sum [c.ak, c.po, c.re, c.bu, 4] = c.sum + 4 by first | (simp [CM.sum, List.sum]; done) | (simp [CM.sum, List.sum]; omega)]
      try dsimp only
      refine hK.out _ _ ?_ ?_
      · ((repeat (first | (with_reducible exact Fr.refl _ _) | (with_reducible assumption) | (with_reducible refine Fr.drew ?_) | (with_reducible refine Fr.drewN ?_ _) | (with_reducible refine Fr.alloc ?_ _) | (with_reducible refine Fr.setL ?_ _ _ _ ?_) | (focus (refine Or.inl ?_; simp; done)) | (focus (refine Or.inr ?_; simp; done)) | (focus (refine Or.inr ?_; simp; omega)) | (focus (refine Or.inr ?_; omega)))); done)
      · simp only [nth]
        first | (unfold Is; rfl) | (unfold Any; exact trivial) | exact IsSl.new _ _ _ _ | assumption
    · intro ac wx hf hs hp K hK
      simp only [waits, holdsA, nth, Is, Any, List.filter_cons, List.filter_nil, List.map_cons, List.map_nil, Region.binds, if_true, true_and, and_true, Nat.reduceAdd, List.getElem?_cons_zero, List.getElem?_cons_succ, Option.bind_some, Array.getD_eq_getD_getElem?] at hp
      clear hs
      clear hf
      (try simp only [hp])
      go_simp
      try dsimp only
      refine hK.out _ _ ?_ ?_
      · ((repeat (first | (with_reducible exact Fr.refl _ _) | (with_reducible assumption) | (with_reducible refine Fr.drew ?_) | (with_reducible refine Fr.drewN ?_ _) | (with_reducible refine Fr.alloc ?_ _) | (with_reducible refine Fr.setL ?_ _ _ _ ?_) | (focus (refine Or.inl ?_; simp; done)) | (focus (refine Or.inr ?_; simp; done)) | (focus (refine Or.inr ?_; simp; omega)) | (focus (refine Or.inr ?_; omega)))); done)
      · simp only [nth]
        first | (unfold Is; rfl) | (unfold Any; exact trivial) | exact IsSl.new _ _ _ _ | assumption
    · intro ac wx hf hs hp K hK
      simp only [waits, holdsA, nth, Is, Any, List.filter_cons, List.filter_nil, List.map_cons, List.map_nil, Region.binds, if_true, true_and, and_true, Nat.reduceAdd, List.getElem?_cons_zero, List.getElem?_cons_succ, Option.bind_some, Array.getD_eq_getD_getElem?] at hp
      clear hs
      clear hf
      (try simp only [hp])
      go_simp
      try dsimp only
      refine hK.out _ _ ?_ ?_
      · ((repeat (first | (with_reducible exact Fr.refl _ _) | (with_reducible assumption) | (with_reducible refine Fr.drew ?_) | (with_reducible refine Fr.drewN ?_ _) | (with_reducible refine Fr.alloc ?_ _) | (with_reducible refine Fr.setL ?_ _ _ _ ?_) | (focus (refine Or.inl ?_; simp; done)) | (focus (refine Or.inr ?_; simp; done)) | (focus (refine Or.inr ?_; simp; omega)) | (focus (refine Or.inr ?_; omega)))); done)
      · simp only [nth]
        first | (unfold Is; rfl) | (unfold Any; exact trivial) | exact IsSl.new _ _ _ _ | assumption
  case hD =>
    intro x wx hf hp
    simp only [fill, List.setIfInBounds_toArray, List.set_cons_zero, List.set_cons_succ, Nat.reduceAdd, Act.put]
    simp only [List.length_cons, List.length_nil, Nat.reduceAdd, List.range_eq_range', List.range'_succ, List.range'_zero, Nat.zero_add, Nat.add_zero, holds, nth, Is, Any, true_and, and_true] at hp
    simp only [hp]
    go_wp2
    go_ret
    exact ⟨rfl, (((Fr.refl _ _).alloc _).tr f1).tr hf⟩
theorem bound_Sends_no (c : CM) (n : Int) (w : World) (h : ¬ c.ok) : Calls Try.prog 15 #[c.val, .int .i64 n] w fun e w' => e = .returned (.int .i64 0) ∧ Fr [] w w' := by
  go_enter Try.func15, Try.ntmps15
  go_wp2_with fail
  refine (may_no c _ h).mono ?_
  rintro e w1 ⟨rfl, f1⟩
  go_wp2
  go_ret
  exact ⟨rfl, ((Fr.refl _ _).alloc _).tr f1⟩
theorem bound_Sends_out (c : CM) (n : Int) (w : World) (h : n < 0 ∨ 128 < n) : Calls Try.prog 15 #[c.val, .int .i64 n] w fun e w' => e = .returned (.int .i64 0) ∧ Fr [] w w' := by
  by_cases hc : c.ok
  · rcases h with h | h
    · have d1 : decide (n < 0) = true := by simpa using h
      go_enter Try.func15, Try.ntmps15
      go_wp2_with fail
      refine (may_yes c _ hc).mono ?_
      rintro e w1 ⟨rfl, f1⟩
      go_wp2
      go_ret
      exact ⟨rfl, ((Fr.refl _ _).alloc _).tr f1⟩
    · have d1 : decide (n < 0) = false := by simp; omega
      have d2 : decide (128 < n) = true := by simpa using h
      go_enter Try.func15, Try.ntmps15
      go_wp2_with fail
      refine (may_yes c _ hc).mono ?_
      rintro e w1 ⟨rfl, f1⟩
      go_wp2
      go_ret
      exact ⟨rfl, ((Fr.refl _ _).alloc _).tr f1⟩
  · exact bound_Sends_no c n w hc

theorem ref_ticks (n : Int) (w : World) : Calls Try.prog 30 #[.int .i64 n] w fun e w' => e = .returned (.bool (tickB n)) ∧ w = w' := by
  unfold tickB
  by_cases h1 : 1 ≤ n
  · have d1 : decide (1 ≤ n) = true := by simpa using h1
    by_cases h2 : n ≤ 10000
    · have d2 : decide (n ≤ 10000) = true := by simpa using h2
      rw [d1, d2]
      go_enter Try.func30, Try.ntmps30
      go_wp2
      go_ret
      exact ⟨rfl, rfl⟩
    · have d2 : decide (n ≤ 10000) = false := by simpa using h2
      rw [d1, d2]
      go_enter Try.func30, Try.ntmps30
      go_wp2
      go_ret
      exact ⟨rfl, rfl⟩
  · have d1 : decide (1 ≤ n) = false := by simpa using h1
    rw [d1]
    go_enter Try.func30, Try.ntmps30
    go_wp2
    go_ret
    exact ⟨rfl, rfl⟩
theorem ticks_yes (n : Int) (w : World) (h : tick n) : Calls Try.prog 30 #[.int .i64 n] w fun e w' => e = .returned (.bool true) ∧ w = w' := by
  have := ref_ticks n w
  rwa [show tickB n = true by unfold tickB tick at *; simp; omega] at this
theorem ticks_no (n : Int) (w : World) (h : ¬ tick n) : Calls Try.prog 30 #[.int .i64 n] w fun e w' => e = .returned (.bool false) ∧ w = w' := by
  have := ref_ticks n w
  rwa [show tickB n = false by unfold tickB tick at *; simp; omega] at this

theorem ref_May0 (c : CM) (w : World) (h0 : ¬ 1 ≤ c.wd) : Calls Try.prog 27 #[c.val] w fun e w' => e = .returned (.bool false) ∧ Fr [] w w' := by
  have d0 : decide (1 ≤ c.wd) = false := by simp; omega
  go_enter Try.func27, Try.ntmps27
  have hb := Blk.new w #[.int .i64 c.wd, .int .i64 c.tr, .int .i64 c.ak, .int .i64 c.po, .int .i64 c.re, .int .i64 c.bu] 47
  have c0 : World.cell? (w.alloc (.cells #[.int .i64 c.wd, .int .i64 c.tr, .int .i64 c.ak, .int .i64 c.po, .int .i64 c.re, .int .i64 c.bu] 47)) ⟨w.heap.size, 0, none⟩ = some (.int .i64 c.wd) := hb.cell 0 rfl
  have c1 : World.cell? (w.alloc (.cells #[.int .i64 c.wd, .int .i64 c.tr, .int .i64 c.ak, .int .i64 c.po, .int .i64 c.re, .int .i64 c.bu] 47)) ⟨w.heap.size, 1, none⟩ = some (.int .i64 c.tr) := hb.cell 1 rfl
  have c2 : World.cell? (w.alloc (.cells #[.int .i64 c.wd, .int .i64 c.tr, .int .i64 c.ak, .int .i64 c.po, .int .i64 c.re, .int .i64 c.bu] 47)) ⟨w.heap.size, 2, none⟩ = some (.int .i64 c.ak) := hb.cell 2 rfl
  have c3 : World.cell? (w.alloc (.cells #[.int .i64 c.wd, .int .i64 c.tr, .int .i64 c.ak, .int .i64 c.po, .int .i64 c.re, .int .i64 c.bu] 47)) ⟨w.heap.size, 3, none⟩ = some (.int .i64 c.po) := hb.cell 3 rfl
  have c4 : World.cell? (w.alloc (.cells #[.int .i64 c.wd, .int .i64 c.tr, .int .i64 c.ak, .int .i64 c.po, .int .i64 c.re, .int .i64 c.bu] 47)) ⟨w.heap.size, 4, none⟩ = some (.int .i64 c.re) := hb.cell 4 rfl
  have c5 : World.cell? (w.alloc (.cells #[.int .i64 c.wd, .int .i64 c.tr, .int .i64 c.ak, .int .i64 c.po, .int .i64 c.re, .int .i64 c.bu] 47)) ⟨w.heap.size, 5, none⟩ = some (.int .i64 c.bu) := hb.cell 5 rfl
  clear hb
  go_wp2
  go_ret
  exact ⟨rfl, (Fr.refl _ _).alloc _⟩
theorem ref_May1 (c : CM) (w : World) (h0 : 1 ≤ c.wd) (h1 : ¬ c.wd ≤ 64) : Calls Try.prog 27 #[c.val] w fun e w' => e = .returned (.bool false) ∧ Fr [] w w' := by
  have d0 : decide (1 ≤ c.wd) = true := by simp; omega
  have d1 : decide (c.wd ≤ 64) = false := by simp; omega
  go_enter Try.func27, Try.ntmps27
  have hb := Blk.new w #[.int .i64 c.wd, .int .i64 c.tr, .int .i64 c.ak, .int .i64 c.po, .int .i64 c.re, .int .i64 c.bu] 47
  have c0 : World.cell? (w.alloc (.cells #[.int .i64 c.wd, .int .i64 c.tr, .int .i64 c.ak, .int .i64 c.po, .int .i64 c.re, .int .i64 c.bu] 47)) ⟨w.heap.size, 0, none⟩ = some (.int .i64 c.wd) := hb.cell 0 rfl
  have c1 : World.cell? (w.alloc (.cells #[.int .i64 c.wd, .int .i64 c.tr, .int .i64 c.ak, .int .i64 c.po, .int .i64 c.re, .int .i64 c.bu] 47)) ⟨w.heap.size, 1, none⟩ = some (.int .i64 c.tr) := hb.cell 1 rfl
  have c2 : World.cell? (w.alloc (.cells #[.int .i64 c.wd, .int .i64 c.tr, .int .i64 c.ak, .int .i64 c.po, .int .i64 c.re, .int .i64 c.bu] 47)) ⟨w.heap.size, 2, none⟩ = some (.int .i64 c.ak) := hb.cell 2 rfl
  have c3 : World.cell? (w.alloc (.cells #[.int .i64 c.wd, .int .i64 c.tr, .int .i64 c.ak, .int .i64 c.po, .int .i64 c.re, .int .i64 c.bu] 47)) ⟨w.heap.size, 3, none⟩ = some (.int .i64 c.po) := hb.cell 3 rfl
  have c4 : World.cell? (w.alloc (.cells #[.int .i64 c.wd, .int .i64 c.tr, .int .i64 c.ak, .int .i64 c.po, .int .i64 c.re, .int .i64 c.bu] 47)) ⟨w.heap.size, 4, none⟩ = some (.int .i64 c.re) := hb.cell 4 rfl
  have c5 : World.cell? (w.alloc (.cells #[.int .i64 c.wd, .int .i64 c.tr, .int .i64 c.ak, .int .i64 c.po, .int .i64 c.re, .int .i64 c.bu] 47)) ⟨w.heap.size, 5, none⟩ = some (.int .i64 c.bu) := hb.cell 5 rfl
  clear hb
  go_wp2
  go_ret
  exact ⟨rfl, (Fr.refl _ _).alloc _⟩
theorem ref_May2 (c : CM) (w : World) (h0 : 1 ≤ c.wd) (h1 : c.wd ≤ 64) (h2 : ¬ 1 ≤ c.tr) : Calls Try.prog 27 #[c.val] w fun e w' => e = .returned (.bool false) ∧ Fr [] w w' := by
  have d0 : decide (1 ≤ c.wd) = true := by simp; omega
  have d1 : decide (c.wd ≤ 64) = true := by simp; omega
  have d2 : decide (1 ≤ c.tr) = false := by simp; omega
  go_enter Try.func27, Try.ntmps27
  have hb := Blk.new w #[.int .i64 c.wd, .int .i64 c.tr, .int .i64 c.ak, .int .i64 c.po, .int .i64 c.re, .int .i64 c.bu] 47
  have c0 : World.cell? (w.alloc (.cells #[.int .i64 c.wd, .int .i64 c.tr, .int .i64 c.ak, .int .i64 c.po, .int .i64 c.re, .int .i64 c.bu] 47)) ⟨w.heap.size, 0, none⟩ = some (.int .i64 c.wd) := hb.cell 0 rfl
  have c1 : World.cell? (w.alloc (.cells #[.int .i64 c.wd, .int .i64 c.tr, .int .i64 c.ak, .int .i64 c.po, .int .i64 c.re, .int .i64 c.bu] 47)) ⟨w.heap.size, 1, none⟩ = some (.int .i64 c.tr) := hb.cell 1 rfl
  have c2 : World.cell? (w.alloc (.cells #[.int .i64 c.wd, .int .i64 c.tr, .int .i64 c.ak, .int .i64 c.po, .int .i64 c.re, .int .i64 c.bu] 47)) ⟨w.heap.size, 2, none⟩ = some (.int .i64 c.ak) := hb.cell 2 rfl
  have c3 : World.cell? (w.alloc (.cells #[.int .i64 c.wd, .int .i64 c.tr, .int .i64 c.ak, .int .i64 c.po, .int .i64 c.re, .int .i64 c.bu] 47)) ⟨w.heap.size, 3, none⟩ = some (.int .i64 c.po) := hb.cell 3 rfl
  have c4 : World.cell? (w.alloc (.cells #[.int .i64 c.wd, .int .i64 c.tr, .int .i64 c.ak, .int .i64 c.po, .int .i64 c.re, .int .i64 c.bu] 47)) ⟨w.heap.size, 4, none⟩ = some (.int .i64 c.re) := hb.cell 4 rfl
  have c5 : World.cell? (w.alloc (.cells #[.int .i64 c.wd, .int .i64 c.tr, .int .i64 c.ak, .int .i64 c.po, .int .i64 c.re, .int .i64 c.bu] 47)) ⟨w.heap.size, 5, none⟩ = some (.int .i64 c.bu) := hb.cell 5 rfl
  clear hb
  go_wp2
  go_ret
  exact ⟨rfl, (Fr.refl _ _).alloc _⟩
theorem ref_May3 (c : CM) (w : World) (h0 : 1 ≤ c.wd) (h1 : c.wd ≤ 64) (h2 : 1 ≤ c.tr) (h3 : ¬ c.tr ≤ 100) : Calls Try.prog 27 #[c.val] w fun e w' => e = .returned (.bool false) ∧ Fr [] w w' := by
  have d0 : decide (1 ≤ c.wd) = true := by simp; omega
  have d1 : decide (c.wd ≤ 64) = true := by simp; omega
  have d2 : decide (1 ≤ c.tr) = true := by simp; omega
  have d3 : decide (c.tr ≤ 100) = false := by simp; omega
  go_enter Try.func27, Try.ntmps27
  have hb := Blk.new w #[.int .i64 c.wd, .int .i64 c.tr, .int .i64 c.ak, .int .i64 c.po, .int .i64 c.re, .int .i64 c.bu] 47
  have c0 : World.cell? (w.alloc (.cells #[.int .i64 c.wd, .int .i64 c.tr, .int .i64 c.ak, .int .i64 c.po, .int .i64 c.re, .int .i64 c.bu] 47)) ⟨w.heap.size, 0, none⟩ = some (.int .i64 c.wd) := hb.cell 0 rfl
  have c1 : World.cell? (w.alloc (.cells #[.int .i64 c.wd, .int .i64 c.tr, .int .i64 c.ak, .int .i64 c.po, .int .i64 c.re, .int .i64 c.bu] 47)) ⟨w.heap.size, 1, none⟩ = some (.int .i64 c.tr) := hb.cell 1 rfl
  have c2 : World.cell? (w.alloc (.cells #[.int .i64 c.wd, .int .i64 c.tr, .int .i64 c.ak, .int .i64 c.po, .int .i64 c.re, .int .i64 c.bu] 47)) ⟨w.heap.size, 2, none⟩ = some (.int .i64 c.ak) := hb.cell 2 rfl
  have c3 : World.cell? (w.alloc (.cells #[.int .i64 c.wd, .int .i64 c.tr, .int .i64 c.ak, .int .i64 c.po, .int .i64 c.re, .int .i64 c.bu] 47)) ⟨w.heap.size, 3, none⟩ = some (.int .i64 c.po) := hb.cell 3 rfl
  have c4 : World.cell? (w.alloc (.cells #[.int .i64 c.wd, .int .i64 c.tr, .int .i64 c.ak, .int .i64 c.po, .int .i64 c.re, .int .i64 c.bu] 47)) ⟨w.heap.size, 4, none⟩ = some (.int .i64 c.re) := hb.cell 4 rfl
  have c5 : World.cell? (w.alloc (.cells #[.int .i64 c.wd, .int .i64 c.tr, .int .i64 c.ak, .int .i64 c.po, .int .i64 c.re, .int .i64 c.bu] 47)) ⟨w.heap.size, 5, none⟩ = some (.int .i64 c.bu) := hb.cell 5 rfl
  clear hb
  go_wp2
  go_ret
  exact ⟨rfl, (Fr.refl _ _).alloc _⟩
theorem ref_May4 (c : CM) (w : World) (h0 : 1 ≤ c.wd) (h1 : c.wd ≤ 64) (h2 : 1 ≤ c.tr) (h3 : c.tr ≤ 100) (h4 : ¬ tick c.ak) : Calls Try.prog 27 #[c.val] w fun e w' => e = .returned (.bool false) ∧ Fr [] w w' := by
  have d0 : decide (1 ≤ c.wd) = true := by simp; omega
  have d1 : decide (c.wd ≤ 64) = true := by simp; omega
  have d2 : decide (1 ≤ c.tr) = true := by simp; omega
  have d3 : decide (c.tr ≤ 100) = true := by simp; omega
  go_enter Try.func27, Try.ntmps27
  have hb := Blk.new w #[.int .i64 c.wd, .int .i64 c.tr, .int .i64 c.ak, .int .i64 c.po, .int .i64 c.re, .int .i64 c.bu] 47
  have c0 : World.cell? (w.alloc (.cells #[.int .i64 c.wd, .int .i64 c.tr, .int .i64 c.ak, .int .i64 c.po, .int .i64 c.re, .int .i64 c.bu] 47)) ⟨w.heap.size, 0, none⟩ = some (.int .i64 c.wd) := hb.cell 0 rfl
  have c1 : World.cell? (w.alloc (.cells #[.int .i64 c.wd, .int .i64 c.tr, .int .i64 c.ak, .int .i64 c.po, .int .i64 c.re, .int .i64 c.bu] 47)) ⟨w.heap.size, 1, none⟩ = some (.int .i64 c.tr) := hb.cell 1 rfl
  have c2 : World.cell? (w.alloc (.cells #[.int .i64 c.wd, .int .i64 c.tr, .int .i64 c.ak, .int .i64 c.po, .int .i64 c.re, .int .i64 c.bu] 47)) ⟨w.heap.size, 2, none⟩ = some (.int .i64 c.ak) := hb.cell 2 rfl
  have c3 : World.cell? (w.alloc (.cells #[.int .i64 c.wd, .int .i64 c.tr, .int .i64 c.ak, .int .i64 c.po, .int .i64 c.re, .int .i64 c.bu] 47)) ⟨w.heap.size, 3, none⟩ = some (.int .i64 c.po) := hb.cell 3 rfl
  have c4 : World.cell? (w.alloc (.cells #[.int .i64 c.wd, .int .i64 c.tr, .int .i64 c.ak, .int .i64 c.po, .int .i64 c.re, .int .i64 c.bu] 47)) ⟨w.heap.size, 4, none⟩ = some (.int .i64 c.re) := hb.cell 4 rfl
  have c5 : World.cell? (w.alloc (.cells #[.int .i64 c.wd, .int .i64 c.tr, .int .i64 c.ak, .int .i64 c.po, .int .i64 c.re, .int .i64 c.bu] 47)) ⟨w.heap.size, 5, none⟩ = some (.int .i64 c.bu) := hb.cell 5 rfl
  clear hb
  go_wp2_with fail
  refine (ticks_no _ _ h4).mono ?_; rintro e w' ⟨rfl, rfl⟩
  go_wp2
  go_ret
  exact ⟨rfl, (Fr.refl _ _).alloc _⟩
theorem ref_May5 (c : CM) (w : World) (h0 : 1 ≤ c.wd) (h1 : c.wd ≤ 64) (h2 : 1 ≤ c.tr) (h3 : c.tr ≤ 100) (h4 : tick c.ak) (h5 : ¬ tick c.po) : Calls Try.prog 27 #[c.val] w fun e w' => e = .returned (.bool false) ∧ Fr [] w w' := by
  have d0 : decide (1 ≤ c.wd) = true := by simp; omega
  have d1 : decide (c.wd ≤ 64) = true := by simp; omega
  have d2 : decide (1 ≤ c.tr) = true := by simp; omega
  have d3 : decide (c.tr ≤ 100) = true := by simp; omega
  go_enter Try.func27, Try.ntmps27
  have hb := Blk.new w #[.int .i64 c.wd, .int .i64 c.tr, .int .i64 c.ak, .int .i64 c.po, .int .i64 c.re, .int .i64 c.bu] 47
  have c0 : World.cell? (w.alloc (.cells #[.int .i64 c.wd, .int .i64 c.tr, .int .i64 c.ak, .int .i64 c.po, .int .i64 c.re, .int .i64 c.bu] 47)) ⟨w.heap.size, 0, none⟩ = some (.int .i64 c.wd) := hb.cell 0 rfl
  have c1 : World.cell? (w.alloc (.cells #[.int .i64 c.wd, .int .i64 c.tr, .int .i64 c.ak, .int .i64 c.po, .int .i64 c.re, .int .i64 c.bu] 47)) ⟨w.heap.size, 1, none⟩ = some (.int .i64 c.tr) := hb.cell 1 rfl
  have c2 : World.cell? (w.alloc (.cells #[.int .i64 c.wd, .int .i64 c.tr, .int .i64 c.ak, .int .i64 c.po, .int .i64 c.re, .int .i64 c.bu] 47)) ⟨w.heap.size, 2, none⟩ = some (.int .i64 c.ak) := hb.cell 2 rfl
  have c3 : World.cell? (w.alloc (.cells #[.int .i64 c.wd, .int .i64 c.tr, .int .i64 c.ak, .int .i64 c.po, .int .i64 c.re, .int .i64 c.bu] 47)) ⟨w.heap.size, 3, none⟩ = some (.int .i64 c.po) := hb.cell 3 rfl
  have c4 : World.cell? (w.alloc (.cells #[.int .i64 c.wd, .int .i64 c.tr, .int .i64 c.ak, .int .i64 c.po, .int .i64 c.re, .int .i64 c.bu] 47)) ⟨w.heap.size, 4, none⟩ = some (.int .i64 c.re) := hb.cell 4 rfl
  have c5 : World.cell? (w.alloc (.cells #[.int .i64 c.wd, .int .i64 c.tr, .int .i64 c.ak, .int .i64 c.po, .int .i64 c.re, .int .i64 c.bu] 47)) ⟨w.heap.size, 5, none⟩ = some (.int .i64 c.bu) := hb.cell 5 rfl
  clear hb
  go_wp2_with fail
  refine (ticks_yes _ _ h4).mono ?_; rintro e w' ⟨rfl, rfl⟩
  go_wp2_with fail
  refine (ticks_no _ _ h5).mono ?_; rintro e w' ⟨rfl, rfl⟩
  go_wp2
  go_ret
  exact ⟨rfl, (Fr.refl _ _).alloc _⟩
theorem ref_May6 (c : CM) (w : World) (h0 : 1 ≤ c.wd) (h1 : c.wd ≤ 64) (h2 : 1 ≤ c.tr) (h3 : c.tr ≤ 100) (h4 : tick c.ak) (h5 : tick c.po) (h6 : ¬ tick c.re) : Calls Try.prog 27 #[c.val] w fun e w' => e = .returned (.bool false) ∧ Fr [] w w' := by
  have d0 : decide (1 ≤ c.wd) = true := by simp; omega
  have d1 : decide (c.wd ≤ 64) = true := by simp; omega
  have d2 : decide (1 ≤ c.tr) = true := by simp; omega
  have d3 : decide (c.tr ≤ 100) = true := by simp; omega
  go_enter Try.func27, Try.ntmps27
  have hb := Blk.new w #[.int .i64 c.wd, .int .i64 c.tr, .int .i64 c.ak, .int .i64 c.po, .int .i64 c.re, .int .i64 c.bu] 47
  have c0 : World.cell? (w.alloc (.cells #[.int .i64 c.wd, .int .i64 c.tr, .int .i64 c.ak, .int .i64 c.po, .int .i64 c.re, .int .i64 c.bu] 47)) ⟨w.heap.size, 0, none⟩ = some (.int .i64 c.wd) := hb.cell 0 rfl
  have c1 : World.cell? (w.alloc (.cells #[.int .i64 c.wd, .int .i64 c.tr, .int .i64 c.ak, .int .i64 c.po, .int .i64 c.re, .int .i64 c.bu] 47)) ⟨w.heap.size, 1, none⟩ = some (.int .i64 c.tr) := hb.cell 1 rfl
  have c2 : World.cell? (w.alloc (.cells #[.int .i64 c.wd, .int .i64 c.tr, .int .i64 c.ak, .int .i64 c.po, .int .i64 c.re, .int .i64 c.bu] 47)) ⟨w.heap.size, 2, none⟩ = some (.int .i64 c.ak) := hb.cell 2 rfl
  have c3 : World.cell? (w.alloc (.cells #[.int .i64 c.wd, .int .i64 c.tr, .int .i64 c.ak, .int .i64 c.po, .int .i64 c.re, .int .i64 c.bu] 47)) ⟨w.heap.size, 3, none⟩ = some (.int .i64 c.po) := hb.cell 3 rfl
  have c4 : World.cell? (w.alloc (.cells #[.int .i64 c.wd, .int .i64 c.tr, .int .i64 c.ak, .int .i64 c.po, .int .i64 c.re, .int .i64 c.bu] 47)) ⟨w.heap.size, 4, none⟩ = some (.int .i64 c.re) := hb.cell 4 rfl
  have c5 : World.cell? (w.alloc (.cells #[.int .i64 c.wd, .int .i64 c.tr, .int .i64 c.ak, .int .i64 c.po, .int .i64 c.re, .int .i64 c.bu] 47)) ⟨w.heap.size, 5, none⟩ = some (.int .i64 c.bu) := hb.cell 5 rfl
  clear hb
  go_wp2_with fail
  refine (ticks_yes _ _ h4).mono ?_; rintro e w' ⟨rfl, rfl⟩
  go_wp2_with fail
  refine (ticks_yes _ _ h5).mono ?_; rintro e w' ⟨rfl, rfl⟩
  go_wp2_with fail
  refine (ticks_no _ _ h6).mono ?_; rintro e w' ⟨rfl, rfl⟩
  go_wp2
  go_ret
  exact ⟨rfl, (Fr.refl _ _).alloc _⟩
theorem ref_May7 (c : CM) (w : World) (h0 : 1 ≤ c.wd) (h1 : c.wd ≤ 64) (h2 : 1 ≤ c.tr) (h3 : c.tr ≤ 100) (h4 : tick c.ak) (h5 : tick c.po) (h6 : tick c.re) (h7 : ¬ tick c.bu) : Calls Try.prog 27 #[c.val] w fun e w' => e = .returned (.bool false) ∧ Fr [] w w' := by
  have d0 : decide (1 ≤ c.wd) = true := by simp; omega
  have d1 : decide (c.wd ≤ 64) = true := by simp; omega
  have d2 : decide (1 ≤ c.tr) = true := by simp; omega
  have d3 : decide (c.tr ≤ 100) = true := by simp; omega
  go_enter Try.func27, Try.ntmps27
  have hb := Blk.new w #[.int .i64 c.wd, .int .i64 c.tr, .int .i64 c.ak, .int .i64 c.po, .int .i64 c.re, .int .i64 c.bu] 47
  have c0 : World.cell? (w.alloc (.cells #[.int .i64 c.wd, .int .i64 c.tr, .int .i64 c.ak, .int .i64 c.po, .int .i64 c.re, .int .i64 c.bu] 47)) ⟨w.heap.size, 0, none⟩ = some (.int .i64 c.wd) := hb.cell 0 rfl
  have c1 : World.cell? (w.alloc (.cells #[.int .i64 c.wd, .int .i64 c.tr, .int .i64 c.ak, .int .i64 c.po, .int .i64 c.re, .int .i64 c.bu] 47)) ⟨w.heap.size, 1, none⟩ = some (.int .i64 c.tr) := hb.cell 1 rfl
  have c2 : World.cell? (w.alloc (.cells #[.int .i64 c.wd, .int .i64 c.tr, .int .i64 c.ak, .int .i64 c.po, .int .i64 c.re, .int .i64 c.bu] 47)) ⟨w.heap.size, 2, none⟩ = some (.int .i64 c.ak) := hb.cell 2 rfl
  have c3 : World.cell? (w.alloc (.cells #[.int .i64 c.wd, .int .i64 c.tr, .int .i64 c.ak, .int .i64 c.po, .int .i64 c.re, .int .i64 c.bu] 47)) ⟨w.heap.size, 3, none⟩ = some (.int .i64 c.po) := hb.cell 3 rfl
  have c4 : World.cell? (w.alloc (.cells #[.int .i64 c.wd, .int .i64 c.tr, .int .i64 c.ak, .int .i64 c.po, .int .i64 c.re, .int .i64 c.bu] 47)) ⟨w.heap.size, 4, none⟩ = some (.int .i64 c.re) := hb.cell 4 rfl
  have c5 : World.cell? (w.alloc (.cells #[.int .i64 c.wd, .int .i64 c.tr, .int .i64 c.ak, .int .i64 c.po, .int .i64 c.re, .int .i64 c.bu] 47)) ⟨w.heap.size, 5, none⟩ = some (.int .i64 c.bu) := hb.cell 5 rfl
  clear hb
  go_wp2_with fail
  refine (ticks_yes _ _ h4).mono ?_; rintro e w' ⟨rfl, rfl⟩
  go_wp2_with fail
  refine (ticks_yes _ _ h5).mono ?_; rintro e w' ⟨rfl, rfl⟩
  go_wp2_with fail
  refine (ticks_yes _ _ h6).mono ?_; rintro e w' ⟨rfl, rfl⟩
  go_wp2_with fail
  refine (ticks_no _ _ h7).mono ?_; rintro e w' ⟨rfl, rfl⟩
  go_wp2
  go_ret
  exact ⟨rfl, (Fr.refl _ _).alloc _⟩
theorem ref_May8 (c : CM) (w : World) (h0 : 1 ≤ c.wd) (h1 : c.wd ≤ 64) (h2 : 1 ≤ c.tr) (h3 : c.tr ≤ 100) (h4 : tick c.ak) (h5 : tick c.po) (h6 : tick c.re) (h7 : tick c.bu) : Calls Try.prog 27 #[c.val] w fun e w' => e = .returned (.bool true) ∧ Fr [] w w' := by
  have d0 : decide (1 ≤ c.wd) = true := by simp; omega
  have d1 : decide (c.wd ≤ 64) = true := by simp; omega
  have d2 : decide (1 ≤ c.tr) = true := by simp; omega
  have d3 : decide (c.tr ≤ 100) = true := by simp; omega
  go_enter Try.func27, Try.ntmps27
  have hb := Blk.new w #[.int .i64 c.wd, .int .i64 c.tr, .int .i64 c.ak, .int .i64 c.po, .int .i64 c.re, .int .i64 c.bu] 47
  have c0 : World.cell? (w.alloc (.cells #[.int .i64 c.wd, .int .i64 c.tr, .int .i64 c.ak, .int .i64 c.po, .int .i64 c.re, .int .i64 c.bu] 47)) ⟨w.heap.size, 0, none⟩ = some (.int .i64 c.wd) := hb.cell 0 rfl
  have c1 : World.cell? (w.alloc (.cells #[.int .i64 c.wd, .int .i64 c.tr, .int .i64 c.ak, .int .i64 c.po, .int .i64 c.re, .int .i64 c.bu] 47)) ⟨w.heap.size, 1, none⟩ = some (.int .i64 c.tr) := hb.cell 1 rfl
  have c2 : World.cell? (w.alloc (.cells #[.int .i64 c.wd, .int .i64 c.tr, .int .i64 c.ak, .int .i64 c.po, .int .i64 c.re, .int .i64 c.bu] 47)) ⟨w.heap.size, 2, none⟩ = some (.int .i64 c.ak) := hb.cell 2 rfl
  have c3 : World.cell? (w.alloc (.cells #[.int .i64 c.wd, .int .i64 c.tr, .int .i64 c.ak, .int .i64 c.po, .int .i64 c.re, .int .i64 c.bu] 47)) ⟨w.heap.size, 3, none⟩ = some (.int .i64 c.po) := hb.cell 3 rfl
  have c4 : World.cell? (w.alloc (.cells #[.int .i64 c.wd, .int .i64 c.tr, .int .i64 c.ak, .int .i64 c.po, .int .i64 c.re, .int .i64 c.bu] 47)) ⟨w.heap.size, 4, none⟩ = some (.int .i64 c.re) := hb.cell 4 rfl
  have c5 : World.cell? (w.alloc (.cells #[.int .i64 c.wd, .int .i64 c.tr, .int .i64 c.ak, .int .i64 c.po, .int .i64 c.re, .int .i64 c.bu] 47)) ⟨w.heap.size, 5, none⟩ = some (.int .i64 c.bu) := hb.cell 5 rfl
  clear hb
  go_wp2_with fail
  refine (ticks_yes _ _ h4).mono ?_; rintro e w' ⟨rfl, rfl⟩
  go_wp2_with fail
  refine (ticks_yes _ _ h5).mono ?_; rintro e w' ⟨rfl, rfl⟩
  go_wp2_with fail
  refine (ticks_yes _ _ h6).mono ?_; rintro e w' ⟨rfl, rfl⟩
  go_wp2_with fail
  refine (ticks_yes _ _ h7).mono ?_; rintro e w' ⟨rfl, rfl⟩
  go_wp2
  go_ret
  exact ⟨rfl, (Fr.refl _ _).alloc _⟩
theorem ref_May_yes (c : CM) (w : World) (h : c.ok) : Calls Try.prog 27 #[c.val] w fun e w' => e = .returned (.bool true) ∧ Fr [] w w' := by
  obtain ⟨h1, h2, h3, h4, h5, h6, h7, h8⟩ := h
  exact ref_May8 c w h1 h2 h3 h4 h5 h6 h7 h8
theorem ref_May_no (c : CM) (w : World) (h : ¬ c.ok) : Calls Try.prog 27 #[c.val] w fun e w' => e = .returned (.bool false) ∧ Fr [] w w' := by
  by_cases h0 : 1 ≤ c.wd
  case neg => exact ref_May0 c w h0
  by_cases h1 : c.wd ≤ 64
  case neg => exact ref_May1 c w h0 h1
  by_cases h2 : 1 ≤ c.tr
  case neg => exact ref_May2 c w h0 h1 h2
  by_cases h3 : c.tr ≤ 100
  case neg => exact ref_May3 c w h0 h1 h2 h3
  by_cases h4 : tick c.ak
  case neg => exact ref_May4 c w h0 h1 h2 h3 h4
  by_cases h5 : tick c.po
  case neg => exact ref_May5 c w h0 h1 h2 h3 h4 h5
  by_cases h6 : tick c.re
  case neg => exact ref_May6 c w h0 h1 h2 h3 h4 h5 h6
  by_cases h7 : tick c.bu
  case neg => exact ref_May7 c w h0 h1 h2 h3 h4 h5 h6 h7
  exact absurd ⟨h0, h1, h2, h3, h4, h5, h6, h7⟩ h

theorem ref_Gives (c : CM) (w : World) (h : c.ok) : Calls Try.prog 18 #[c.val] w fun e w' => e = .returned (.int .i64 c.gives) ∧ Fr [] w w' := by
  have hg := c.gives_ok h
  have h1 := c.sum_ok h
  have h2 := c.tr_ok h
  have h3 := h
  unfold CM.ok tick at h3
  unfold CM.gives CM.sum at *
  have hw : IntKind.i64.wrap ((c.tr + 2) * (c.ak + c.po + c.re + c.bu)) = (c.tr + 2) * (c.ak + c.po + c.re + c.bu) := IntWalk.i64_in _ (by omega)
  go_enter Try.func18, Try.ntmps18
  have hb := Blk.new w #[.int .i64 c.wd, .int .i64 c.tr, .int .i64 c.ak, .int .i64 c.po, .int .i64 c.re, .int .i64 c.bu] 47
  go_wp2_with fail
  refine (ref_May_yes c _ h).mono ?_
  rintro e w1 ⟨rfl, f1⟩
  have hb1 := hb.fr f1 (by simp)
  have c0 : w1.cell? ⟨w.heap.size, 0, none⟩ = some (.int .i64 c.wd) := hb1.cell 0 rfl
  have c1 : w1.cell? ⟨w.heap.size, 1, none⟩ = some (.int .i64 c.tr) := hb1.cell 1 rfl
  have c2 : w1.cell? ⟨w.heap.size, 2, none⟩ = some (.int .i64 c.ak) := hb1.cell 2 rfl
  have c3 : w1.cell? ⟨w.heap.size, 3, none⟩ = some (.int .i64 c.po) := hb1.cell 3 rfl
  have c4 : w1.cell? ⟨w.heap.size, 4, none⟩ = some (.int .i64 c.re) := hb1.cell 4 rfl
  have c5 : w1.cell? ⟨w.heap.size, 5, none⟩ = some (.int .i64 c.bu) := hb1.cell 5 rfl
  go_wp2
  go_ret
  exact ⟨rfl, ((Fr.refl _ _).alloc _).tr f1⟩
theorem ref_Gives_no (c : CM) (w : World) (h : ¬ c.ok) : Calls Try.prog 18 #[c.val] w fun e w' => e = .returned (.int .i64 0) ∧ Fr [] w w' := by
  go_enter Try.func18, Try.ntmps18
  go_wp2_with fail
  refine (ref_May_no c _ h).mono ?_
  rintro e w1 ⟨rfl, f1⟩
  go_wp2
  go_ret
  exact ⟨rfl, ((Fr.refl _ _).alloc _).tr f1⟩
theorem ref_Sends (c : CM) (n : Int) (w : World) (h : c.ok) (h0 : 0 ≤ n) (hn : n ≤ 128) : Calls Try.prog 19 #[c.val, .int .i64 n] w fun e w' => e = .returned (.int .i64 (c.sends n)) ∧ Fr [] w w' := by
  have hg := CM.sends_ok h h0 hn
  have h3 := h
  unfold CM.ok tick at h3
  unfold CM.sends CM.sum at *
  have d1 : decide (n < 0) = false := by simp; omega
  have d2 : decide (128 < n) = false := by simp; omega
  have hw : IntKind.i64.wrap ((n + 2) * (c.ak + c.po + c.re + c.bu + 4)) = (n + 2) * (c.ak + c.po + c.re + c.bu + 4) := IntWalk.i64_in _ (by omega)
  go_enter Try.func19, Try.ntmps19
  have hb := Blk.new w #[.int .i64 c.wd, .int .i64 c.tr, .int .i64 c.ak, .int .i64 c.po, .int .i64 c.re, .int .i64 c.bu] 47
  go_wp2_with fail
  refine (ref_May_yes c _ h).mono ?_
  rintro e w1 ⟨rfl, f1⟩
  have hb1 := hb.fr f1 (by simp)
  have c0 : w1.cell? ⟨w.heap.size, 0, none⟩ = some (.int .i64 c.wd) := hb1.cell 0 rfl
  have c1 : w1.cell? ⟨w.heap.size, 1, none⟩ = some (.int .i64 c.tr) := hb1.cell 1 rfl
  have c2 : w1.cell? ⟨w.heap.size, 2, none⟩ = some (.int .i64 c.ak) := hb1.cell 2 rfl
  have c3 : w1.cell? ⟨w.heap.size, 3, none⟩ = some (.int .i64 c.po) := hb1.cell 3 rfl
  have c4 : w1.cell? ⟨w.heap.size, 4, none⟩ = some (.int .i64 c.re) := hb1.cell 4 rfl
  have c5 : w1.cell? ⟨w.heap.size, 5, none⟩ = some (.int .i64 c.bu) := hb1.cell 5 rfl
  go_wp2
  go_ret
  exact ⟨rfl, ((Fr.refl _ _).alloc _).tr f1⟩
theorem ref_Sends_no (c : CM) (n : Int) (w : World) (h : ¬ c.ok) : Calls Try.prog 19 #[c.val, .int .i64 n] w fun e w' => e = .returned (.int .i64 0) ∧ Fr [] w w' := by
  go_enter Try.func19, Try.ntmps19
  go_wp2_with fail
  refine (ref_May_no c _ h).mono ?_
  rintro e w1 ⟨rfl, f1⟩
  go_wp2
  go_ret
  exact ⟨rfl, ((Fr.refl _ _).alloc _).tr f1⟩
theorem ref_Sends_out (c : CM) (n : Int) (w : World) (h : n < 0 ∨ 128 < n) : Calls Try.prog 19 #[c.val, .int .i64 n] w fun e w' => e = .returned (.int .i64 0) ∧ Fr [] w w' := by
  by_cases hc : c.ok
  · rcases h with h | h
    · have d1 : decide (n < 0) = true := by simpa using h
      go_enter Try.func19, Try.ntmps19
      go_wp2_with fail
      refine (ref_May_yes c _ hc).mono ?_
      rintro e w1 ⟨rfl, f1⟩
      go_wp2
      go_ret
      exact ⟨rfl, ((Fr.refl _ _).alloc _).tr f1⟩
    · have d1 : decide (n < 0) = false := by simp; omega
      have d2 : decide (128 < n) = true := by simpa using h
      go_enter Try.func19, Try.ntmps19
      go_wp2_with fail
      refine (ref_May_yes c _ hc).mono ?_
      rintro e w1 ⟨rfl, f1⟩
      go_wp2
      go_ret
      exact ⟨rfl, ((Fr.refl _ _).alloc _).tr f1⟩
  · exact ref_Sends_no c n w hc
theorem law19_Config (c : CM) (w : World) : Calls Try.prog 16 #[c.val] w fun e w' => e = .returned c.val ∧ Fr [] w w' := by
  go_enter Try.func16, Try.ntmps16
  go_wp2
  exact bodyPost_ret (v := c.val) (by simp [results, Try.results16, go_sem]) rfl ⟨rfl, ((Fr.refl _ _).alloc _).alloc _⟩

end Go.Proofs.Ytaefahbgeokopaa
