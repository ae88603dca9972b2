
/- Package plain: what is asked; classes. -/
import Derived.Test.YtgmpikaibeenmaaPduM
import Derived.Test.YtgmpikaibeenmaaSapsZ
namespace Go.Proofs.Ytgmpikaibeenmaa
open Go.RowKit
set_option linter.unusedVariables false
set_option linter.unusedSimpArgs false
set_option maxRecDepth 100000


theorem plain_sap (n : Int) (w : World) :
    Calls Try.prog 42 #[.int .i64 n] w fun e w' => e = .returned (.bool (sapB n)) ∧ w = w' := by
  unfold sapB
  by_cases h1 : 2 ≤ n
  · have d1 : decide (2 ≤ n) = true := by simpa using h1
    by_cases h2 : n ≤ 254
    · have d2 : decide (n ≤ 254) = true := by simpa using h2
      by_cases h3 : n % 2 = 0
      · have d3 : decide (n % 2 = 0) = true := by simpa using h3
        have e3 : (n % 2 == 0) = true := by simpa using h3
        rw [d1, d2, d3]
        clear h3
        go_enter Try.func42, Try.ntmps42
        go_wp2
        go_ret
        exact ⟨rfl, rfl⟩
      · have d3 : decide (n % 2 = 0) = false := by simpa using h3
        have e3 : (n % 2 == 0) = false := by simpa using h3
        rw [d1, d2, d3]
        clear h3
        go_enter Try.func42, Try.ntmps42
        go_wp2
        go_ret
        exact ⟨rfl, rfl⟩
    · have d2 : decide (n ≤ 254) = false := by simpa using h2
      rw [d1, d2]
      go_enter Try.func42, Try.ntmps42
      go_wp2
      go_ret
      exact ⟨rfl, rfl⟩
  · have d1 : decide (2 ≤ n) = false := by simpa using h1
    rw [d1]
    go_enter Try.func42, Try.ntmps42
    go_wp2
    go_ret
    exact ⟨rfl, rfl⟩

theorem field_within (x m : Int) (w : World) : Calls Try.prog 45 #[.int .i64 x, .int .i64 m] w fun e w' => e = .returned (.bool (within x m)) ∧ w = w' := by
  unfold within
  by_cases h1 : 0 ≤ x
  · have d1 : decide (0 ≤ x) = true := by simpa using h1
    cases d2 : decide (x ≤ m)
    all_goals
      rw [d1]
      go_enter Try.func45, Try.ntmps45
      go_wp2
      go_ret
      exact ⟨rfl, rfl⟩
  · have d1 : decide (0 ≤ x) = false := by simpa using h1
    rw [d1]
    go_enter Try.func45, Try.ntmps45
    go_wp2
    go_ret
    exact ⟨rfl, rfl⟩
/-- A PDU's zero. -/
abbrev ZP : Array Value := #[.int .i64 0, .int .i64 0, .bool false, .int .i64 0, .int .i64 0, .int .i64 0, .int .i64 0, .bool false, .slice none 0 0]
theorem Blk.zp {w : World} {b : Nat} (h : Blk w b ZP 29) : w.cell? ⟨b, 0, none⟩ = some (.int .i64 0) ∧ w.cell? ⟨b, 1, none⟩ = some (.int .i64 0) ∧ w.cell? ⟨b, 2, none⟩ = some (.bool false) ∧ w.cell? ⟨b, 3, none⟩ = some (.int .i64 0) ∧ w.cell? ⟨b, 4, none⟩ = some (.int .i64 0) ∧ w.cell? ⟨b, 5, none⟩ = some (.int .i64 0) ∧ w.cell? ⟨b, 6, none⟩ = some (.int .i64 0) ∧ w.cell? ⟨b, 7, none⟩ = some (.bool false) ∧ w.cell? ⟨b, 8, none⟩ = some (.slice none 0 0) :=
  ⟨h.cell 0 rfl, h.cell 1 rfl, h.cell 2 rfl, h.cell 3 rfl, h.cell 4 rfl, h.cell 5 rfl, h.cell 6 rfl, h.cell 7 rfl, h.cell 8 rfl⟩
theorem Blk.frz9 {w : World} {b : Nat} {cs : Array Value} {t : TypeId} (h : Blk w b cs t) : w.frozen? ⟨b, 0, none⟩ = false ∧ w.frozen? ⟨b, 1, none⟩ = false ∧ w.frozen? ⟨b, 2, none⟩ = false ∧ w.frozen? ⟨b, 3, none⟩ = false ∧ w.frozen? ⟨b, 4, none⟩ = false ∧ w.frozen? ⟨b, 5, none⟩ = false ∧ w.frozen? ⟨b, 6, none⟩ = false ∧ w.frozen? ⟨b, 7, none⟩ = false ∧ w.frozen? ⟨b, 8, none⟩ = false :=
  ⟨h.free 0, h.free 1, h.free 2, h.free 3, h.free 4, h.free 5, h.free 6, h.free 7, h.free 8⟩
theorem Bts.put {N : Nat} {w w' : World} {s : Sl} {l : List Int} {B : Nat} {cs : Array Value} {t : TypeId} (h : Bts N w s l) (hb : Blk w B cs t) (ht : t ≠ 5) (hN : N ≤ B) (f : Fr [B] w w') : Bts N w' s l :=
  h.frL f fun x hx => by
    simp at hx; subst hx
    refine ⟨hN, fun cs' fz e => ?_⟩
    rw [Blk] at hb
    rw [hb] at e
    cases e
    exact ht rfl
/-- A PDU that carries bytes, or what it may not be. -/
def makeP (kind fr to least : Int) (poll : Bool) (b : List Int) : PD × Int :=
  if sapB fr = false ∨ to < least ∨ 255 < to then (PD.none, 1) else if 1024 < b.length then (PD.none, 3) else (⟨to, fr, false, 2, kind, 0, 0, poll, b⟩, 0)
/-- What a function hands out that makes a PDU. -/
def RetP (r : PD × Int) (N : Nat) (w : World) (e : Ending) (w' : World) : Prop := ∃ s : Sl, e = .returned (.tuple #[r.1.val s, .int .i64 r.2]) ∧ Bts N w' s r.1.info ∧ Fr [] w w'
set_option maxHeartbeats 2000000 in
theorem plain_made (kind fr to least : Int) (poll : Bool) (s : Sl) (b : List Int) (N : Nat) (w : World) (h : Bts N w s b) (hN : N ≤ w.heap.size) (hl : b.length ≤ 100000) :
    Calls Try.prog 27 #[.int .i64 kind, .int .i64 fr, .int .i64 to, .int .i64 least, .bool poll, .slice s.A s.n s.c] w (RetP (makeP kind fr to least poll b) N w) := by
  unfold makeP
  have hn := h.n
  obtain ⟨A, n, c⟩ := s
  simp only at hn
  subst hn
  cases hs : sapB fr with
  | false =>
    have HS := Lib.hid hs
    simp only [true_or, if_true]
    clear hs
    go_enter Try.func27, Try.ntmps27
    go_wp2_with fail
    refine (plain_sap fr _).mono ?_
    rintro e w' ⟨rfl, rfl⟩
    rw [HS.out]
    go_wp2
    exact bodyPost_ret (v := .tuple #[PD.none.val Sl.nil, .int .i64 1]) (by simp [results, Try.results27, go_sem, PD.none, Sl.nil]) rfl ⟨Sl.nil, rfl, Bts.nil _ _, by ((repeat (first | (with_reducible exact Fr.refl _ _) | (with_reducible assumption) | (with_reducible refine Fr.drew ?_) | (with_reducible refine Fr.drewN ?_ _) | (with_reducible refine Fr.alloc ?_ _) | (with_reducible refine Fr.setL ?_ _ _ _ ?_) | (focus (refine Or.inl ?_; simp; done)) | (focus (refine Or.inr ?_; simp; done)) | (focus (refine Or.inr ?_; simp; omega)) | (focus (refine Or.inr ?_; omega)))); done)⟩
  | true =>
    have HS := Lib.hid hs
    clear hs
    by_cases h1 : to < least
    · have d1 : decide (to < least) = true := by simpa using h1
      simp only [h1, true_or, or_true, if_true]
      go_enter Try.func27, Try.ntmps27
      go_wp2_with fail
      refine (plain_sap fr _).mono ?_
      rintro e w' ⟨rfl, rfl⟩
      rw [HS.out]
      go_wp2
      exact bodyPost_ret (v := .tuple #[PD.none.val Sl.nil, .int .i64 1]) (by simp [results, Try.results27, go_sem, PD.none, Sl.nil]) rfl ⟨Sl.nil, rfl, Bts.nil _ _, by ((repeat (first | (with_reducible exact Fr.refl _ _) | (with_reducible assumption) | (with_reducible refine Fr.drew ?_) | (with_reducible refine Fr.drewN ?_ _) | (with_reducible refine Fr.alloc ?_ _) | (with_reducible refine Fr.setL ?_ _ _ _ ?_) | (focus (refine Or.inl ?_; simp; done)) | (focus (refine Or.inr ?_; simp; done)) | (focus (refine Or.inr ?_; simp; omega)) | (focus (refine Or.inr ?_; omega)))); done)⟩
    · have d1 : decide (to < least) = false := by simpa using h1
      by_cases h2 : 255 < to
      · have d2 : decide (255 < to) = true := by simpa using h2
        simp only [h2, true_or, or_true, if_true]
        go_enter Try.func27, Try.ntmps27
        go_wp2_with fail
        refine (plain_sap fr _).mono ?_
        rintro e w' ⟨rfl, rfl⟩
        rw [HS.out]
        go_wp2
        exact bodyPost_ret (v := .tuple #[PD.none.val Sl.nil, .int .i64 1]) (by simp [results, Try.results27, go_sem, PD.none, Sl.nil]) rfl ⟨Sl.nil, rfl, Bts.nil _ _, by ((repeat (first | (with_reducible exact Fr.refl _ _) | (with_reducible assumption) | (with_reducible refine Fr.drew ?_) | (with_reducible refine Fr.drewN ?_ _) | (with_reducible refine Fr.alloc ?_ _) | (with_reducible refine Fr.setL ?_ _ _ _ ?_) | (focus (refine Or.inl ?_; simp; done)) | (focus (refine Or.inr ?_; simp; done)) | (focus (refine Or.inr ?_; simp; omega)) | (focus (refine Or.inr ?_; omega)))); done)⟩
      · have d2 : decide (255 < to) = false := by simpa using h2
        simp only [h1, h2, Bool.true_eq_false, or_false, if_false]
        by_cases h3 : 1024 < b.length
        · have d3 : decide ((1024 : Int) < (b.length : Int)) = true := by simp; omega
          rw [if_pos h3]
          go_enter Try.func27, Try.ntmps27
          go_wp2_with fail
          refine (plain_sap fr _).mono ?_
          rintro e w' ⟨rfl, rfl⟩
          rw [HS.out]
          go_wp2
          exact bodyPost_ret (v := .tuple #[PD.none.val Sl.nil, .int .i64 3]) (by simp [results, Try.results27, go_sem, PD.none, Sl.nil]) rfl ⟨Sl.nil, rfl, Bts.nil _ _, by ((repeat (first | (with_reducible exact Fr.refl _ _) | (with_reducible assumption) | (with_reducible refine Fr.drew ?_) | (with_reducible refine Fr.drewN ?_ _) | (with_reducible refine Fr.alloc ?_ _) | (with_reducible refine Fr.setL ?_ _ _ _ ?_) | (focus (refine Or.inl ?_; simp; done)) | (focus (refine Or.inr ?_; simp; done)) | (focus (refine Or.inr ?_; simp; omega)) | (focus (refine Or.inr ?_; omega)))); done)⟩
        · have d3 : decide ((1024 : Int) < (b.length : Int)) = false := by simp; omega
          rw [if_neg h3]
          go_enter Try.func27, Try.ntmps27
          go_wp2_with fail
          refine (plain_sap fr _).mono ?_
          rintro e w' ⟨rfl, rfl⟩
          rw [HS.out]
          go_wp2_with fail
          refine (bytes_Clone _ N ⟨A, b.length, c⟩ b (h.fr ((Fr.refl _ _).alloc _)) hl).mono ?_
          rintro e w4 ⟨s2, rfl, hB, hy, f4⟩
          have hb4 := (Blk.new w ZP 29).fr f4 (by simp)
          have hbz := hb4.zp
          have hfz := hb4.frz9
          have F4 : Fr [] w w4 := ((Fr.refl _ _).alloc _).tr f4
          obtain ⟨B, hBe⟩ : ∃ B, w.heap.size = B := ⟨_, rfl⟩
          have hBw : w.heap.size ≤ B := by omega
          rw [hBe] at hb4 hbz hfz hN
          simp only [hBe]
          clear hBe f4 hy h
          go_wp2
          refine bodyPost_ret (v := .tuple #[(⟨to, fr, false, 2, kind, 0, 0, poll, b⟩ : PD).val s2, .int .i64 0]) (by simp [results, Try.results27, go_sem, hbz]) rfl ⟨s2, rfl, hB.put hb4 (by decide) hN ?_, ?_⟩
          · ((repeat (first | (with_reducible exact Fr.refl _ _) | (with_reducible assumption) | (with_reducible refine Fr.drew ?_) | (with_reducible refine Fr.drewN ?_ _) | (with_reducible refine Fr.alloc ?_ _) | (with_reducible refine Fr.setL ?_ _ _ _ ?_) | (focus (refine Or.inl ?_; simp; done)) | (focus (refine Or.inr ?_; simp; done)) | (focus (refine Or.inr ?_; simp; omega)) | (focus (refine Or.inr ?_; omega)))); done)
          · ((repeat (first | (with_reducible exact Fr.refl _ _) | (with_reducible assumption) | (with_reducible refine Fr.drew ?_) | (with_reducible refine Fr.drewN ?_ _) | (with_reducible refine Fr.alloc ?_ _) | (with_reducible refine Fr.setL ?_ _ _ _ ?_) | (focus (refine Or.inl ?_; simp; done)) | (focus (refine Or.inr ?_; simp; done)) | (focus (refine Or.inr ?_; simp; omega)) | (focus (refine Or.inr ?_; omega)))); done)


set_option maxHeartbeats 2000000 in
theorem plain_Unit (fr to : Int) (s : Sl) (b : List Int) (N : Nat) (w : World) (h : Bts N w s b) (hN : N ≤ w.heap.size) (hl : b.length ≤ 100000) :
    Calls Try.prog 13 #[.int .i64 fr, .int .i64 to, .slice s.A s.n s.c] w (RetP (makeP 0 fr to 1 false b) N w) := by
  obtain ⟨r, hr⟩ : ∃ r, makeP 0 fr to 1 false b = r := ⟨_, rfl⟩
  have hc := plain_made 0 fr to 1 false s b N (w.alloc (.cells ZP 29)) (h.fr ((Fr.refl _ _).alloc _)) (by simp; omega) hl
  rw [hr] at hc ⊢
  clear hr
  go_enter Try.func13, Try.ntmps13
  go_wp2_with fail
  refine (hc).mono ?_
  rintro e w4 ⟨s2, rfl, hB, f4⟩
  have hb4 := (Blk.new w ZP 29).fr f4 (by simp)
  have hbz := hb4.zp
  have hfz := hb4.frz9
  have F4 : Fr [] w w4 := ((Fr.refl _ _).alloc _).tr f4
  obtain ⟨B, hBe⟩ : ∃ B, w.heap.size = B := ⟨_, rfl⟩
  have hBw : w.heap.size ≤ B := by omega
  rw [hBe] at hb4 hbz hfz hN
  simp only [hBe]
  clear hBe f4 h
  go_wp2
  refine bodyPost_ret (v := .tuple #[r.1.val s2, .int .i64 r.2]) (by simp [results, Try.results13, go_sem, hbz]) rfl ⟨s2, rfl, hB.put hb4 (by decide) hN ?_, ?_⟩
  · ((repeat (first | (with_reducible exact Fr.refl _ _) | (with_reducible assumption) | (with_reducible refine Fr.drew ?_) | (with_reducible refine Fr.drewN ?_ _) | (with_reducible refine Fr.alloc ?_ _) | (with_reducible refine Fr.setL ?_ _ _ _ ?_) | (focus (refine Or.inl ?_; simp; done)) | (focus (refine Or.inr ?_; simp; done)) | (focus (refine Or.inr ?_; simp; omega)) | (focus (refine Or.inr ?_; omega)))); done)
  · ((repeat (first | (with_reducible exact Fr.refl _ _) | (with_reducible assumption) | (with_reducible refine Fr.drew ?_) | (with_reducible refine Fr.drewN ?_ _) | (with_reducible refine Fr.alloc ?_ _) | (with_reducible refine Fr.setL ?_ _ _ _ ?_) | (focus (refine Or.inl ?_; simp; done)) | (focus (refine Or.inr ?_; simp; done)) | (focus (refine Or.inr ?_; simp; omega)) | (focus (refine Or.inr ?_; omega)))); done)

set_option maxHeartbeats 2000000 in
theorem plain_AskTest (fr to : Int) (s : Sl) (b : List Int) (N : Nat) (w : World) (h : Bts N w s b) (hN : N ≤ w.heap.size) (hl : b.length ≤ 100000) :
    Calls Try.prog 11 #[.int .i64 fr, .int .i64 to, .slice s.A s.n s.c] w (RetP (makeP 2 fr to 0 true b) N w) := by
  obtain ⟨r, hr⟩ : ∃ r, makeP 2 fr to 0 true b = r := ⟨_, rfl⟩
  have hc := plain_made 2 fr to 0 true s b N (w.alloc (.cells ZP 29)) (h.fr ((Fr.refl _ _).alloc _)) (by simp; omega) hl
  rw [hr] at hc ⊢
  clear hr
  go_enter Try.func11, Try.ntmps11
  go_wp2_with fail
  refine (hc).mono ?_
  rintro e w4 ⟨s2, rfl, hB, f4⟩
  have hb4 := (Blk.new w ZP 29).fr f4 (by simp)
  have hbz := hb4.zp
  have hfz := hb4.frz9
  have F4 : Fr [] w w4 := ((Fr.refl _ _).alloc _).tr f4
  obtain ⟨B, hBe⟩ : ∃ B, w.heap.size = B := ⟨_, rfl⟩
  have hBw : w.heap.size ≤ B := by omega
  rw [hBe] at hb4 hbz hfz hN
  simp only [hBe]
  clear hBe f4 h
  go_wp2
  refine bodyPost_ret (v := .tuple #[r.1.val s2, .int .i64 r.2]) (by simp [results, Try.results11, go_sem, hbz]) rfl ⟨s2, rfl, hB.put hb4 (by decide) hN ?_, ?_⟩
  · ((repeat (first | (with_reducible exact Fr.refl _ _) | (with_reducible assumption) | (with_reducible refine Fr.drew ?_) | (with_reducible refine Fr.drewN ?_ _) | (with_reducible refine Fr.alloc ?_ _) | (with_reducible refine Fr.setL ?_ _ _ _ ?_) | (focus (refine Or.inl ?_; simp; done)) | (focus (refine Or.inr ?_; simp; done)) | (focus (refine Or.inr ?_; simp; omega)) | (focus (refine Or.inr ?_; omega)))); done)
  · ((repeat (first | (with_reducible exact Fr.refl _ _) | (with_reducible assumption) | (with_reducible refine Fr.drew ?_) | (with_reducible refine Fr.drewN ?_ _) | (with_reducible refine Fr.alloc ?_ _) | (with_reducible refine Fr.setL ?_ _ _ _ ?_) | (focus (refine Or.inl ?_; simp; done)) | (focus (refine Or.inr ?_; simp; done)) | (focus (refine Or.inr ?_; simp; omega)) | (focus (refine Or.inr ?_; omega)))); done)

theorem Bts.new {w : World} {b : Nat} {l : List Int} (h : Blk w b (l.map (Value.int .u8)).toArray 5) (hw : ∀ x ∈ l, (Lit.int .u8 x).wf = true) (N : Nat) : Bts N w ⟨some ⟨b, 0, none⟩, l.length, l.length⟩ l :=
  ⟨Ints.blk h hw, fun _ b' hb => .inr (by simp [Sl.blk] at hb; subst hb; exact ⟨_, _, h⟩)⟩
def classB (f t n : Int) : List Int × Int := if within f 255 && within t 31 && within n 127 then ([f, t, 2 * n], 0) else ([], 1)
def RetB (r : List Int × Int) (N : Nat) (w : World) (e : Ending) (w' : World) : Prop := ∃ s : Sl, e = .returned (.tuple #[.slice s.A s.n s.c, .int .i64 r.2]) ∧ Bts N w' s r.1 ∧ Fr [] w w'
set_option maxHeartbeats 2000000 in
theorem field_PutClass (f t n : Int) (N : Nat) (w : World) : Calls Try.prog 32 #[.agg #[.int .i64 f, .int .i64 t, .int .i64 n]] w (RetB (classB f t n) N w) := by
  unfold classB
  cases h1 : within f 255 with
  | true =>
    have H1 := Lib.hid h1
    cases h2 : within t 31 with
    | true =>
      have H2 := Lib.hid h2
      cases h3 : within n 127 with
      | true =>
        have H3 := Lib.hid h3
        simp only [Bool.and_self, Bool.true_and, if_true]
        have b1 := within_iff.1 h1
        have b2 := within_iff.1 h2
        have b3 := within_iff.1 h3
        clear h1 h2 h3
        go_enter Try.func32, Try.ntmps32
        go_wp2_with fail
        refine (field_within _ _ _).mono ?_
        rintro e w' ⟨rfl, rfl⟩
        rw [H1.out]
        go_wp2_with fail
        refine (field_within _ _ _).mono ?_
        rintro e w' ⟨rfl, rfl⟩
        rw [H2.out]
        go_wp2_with fail
        refine (field_within _ _ _).mono ?_
        rintro e w' ⟨rfl, rfl⟩
        rw [H3.out]
        go_wp2
        go_ret2
        refine ⟨⟨some ⟨w.heap.size + 1, 0, none⟩, 3, 3⟩, rfl, ?_, by ((repeat (first | (with_reducible exact Fr.refl _ _) | (with_reducible assumption) | (with_reducible refine Fr.drew ?_) | (with_reducible refine Fr.drewN ?_ _) | (with_reducible refine Fr.alloc ?_ _) | (with_reducible refine Fr.setL ?_ _ _ _ ?_) | (focus (refine Or.inl ?_; simp; done)) | (focus (refine Or.inr ?_; simp; done)) | (focus (refine Or.inr ?_; simp; omega)) | (focus (refine Or.inr ?_; omega)))); done)⟩
        exact Bts.new (b := w.heap.size + 1) (l := [f, t, 2 * n]) (Blk.newAt _ _ _ _ (by simp)) (by intro x hx; simp at hx; simp [Lit.wf, IntKind.min, IntKind.max, IntKind.signed, IntKind.bits]; omega) N
      | false =>
        have H3 := Lib.hid h3
        simp only [Bool.false_and, Bool.and_false, Bool.true_and, Bool.false_eq_true, if_false]
        clear h1 h2 h3
        go_enter Try.func32, Try.ntmps32
        go_wp2_with fail
        refine (field_within _ _ _).mono ?_
        rintro e w' ⟨rfl, rfl⟩
        rw [H1.out]
        go_wp2_with fail
        refine (field_within _ _ _).mono ?_
        rintro e w' ⟨rfl, rfl⟩
        rw [H2.out]
        go_wp2_with fail
        refine (field_within _ _ _).mono ?_
        rintro e w' ⟨rfl, rfl⟩
        rw [H3.out]
        go_wp2
        go_ret2
        exact ⟨Sl.nil, rfl, Bts.nil _ _, by ((repeat (first | (with_reducible exact Fr.refl _ _) | (with_reducible assumption) | (with_reducible refine Fr.drew ?_) | (with_reducible refine Fr.drewN ?_ _) | (with_reducible refine Fr.alloc ?_ _) | (with_reducible refine Fr.setL ?_ _ _ _ ?_) | (focus (refine Or.inl ?_; simp; done)) | (focus (refine Or.inr ?_; simp; done)) | (focus (refine Or.inr ?_; simp; omega)) | (focus (refine Or.inr ?_; omega)))); done)⟩
    | false =>
      have H2 := Lib.hid h2
      simp only [Bool.false_and, Bool.and_false, Bool.true_and, Bool.false_eq_true, if_false]
      clear h1 h2
      go_enter Try.func32, Try.ntmps32
      go_wp2_with fail
      refine (field_within _ _ _).mono ?_
      rintro e w' ⟨rfl, rfl⟩
      rw [H1.out]
      go_wp2_with fail
      refine (field_within _ _ _).mono ?_
      rintro e w' ⟨rfl, rfl⟩
      rw [H2.out]
      go_wp2
      go_ret2
      exact ⟨Sl.nil, rfl, Bts.nil _ _, by ((repeat (first | (with_reducible exact Fr.refl _ _) | (with_reducible assumption) | (with_reducible refine Fr.drew ?_) | (with_reducible refine Fr.drewN ?_ _) | (with_reducible refine Fr.alloc ?_ _) | (with_reducible refine Fr.setL ?_ _ _ _ ?_) | (focus (refine Or.inl ?_; simp; done)) | (focus (refine Or.inr ?_; simp; done)) | (focus (refine Or.inr ?_; simp; omega)) | (focus (refine Or.inr ?_; omega)))); done)⟩
  | false =>
    have H1 := Lib.hid h1
    simp only [Bool.false_and, Bool.and_false, Bool.true_and, Bool.false_eq_true, if_false]
    clear h1
    go_enter Try.func32, Try.ntmps32
    go_wp2_with fail
    refine (field_within _ _ _).mono ?_
    rintro e w' ⟨rfl, rfl⟩
    rw [H1.out]
    go_wp2
    go_ret2
    exact ⟨Sl.nil, rfl, Bts.nil _ _, by ((repeat (first | (with_reducible exact Fr.refl _ _) | (with_reducible assumption) | (with_reducible refine Fr.drew ?_) | (with_reducible refine Fr.drewN ?_ _) | (with_reducible refine Fr.alloc ?_ _) | (with_reducible refine Fr.setL ?_ _ _ _ ?_) | (focus (refine Or.inl ?_; simp; done)) | (focus (refine Or.inr ?_; simp; done)) | (focus (refine Or.inr ?_; simp; omega)) | (focus (refine Or.inr ?_; omega)))); done)⟩

def xidP (fr to n : Int) : PD × Int := if (classB 129 7 n).2 ≠ 0 then (PD.none, (classB 129 7 n).2) else makeP 1 fr to 0 true (classB 129 7 n).1
set_option maxHeartbeats 2000000 in
theorem plain_AskXid (fr to n : Int) (N : Nat) (w : World) (hN : N ≤ w.heap.size) :
    Calls Try.prog 14 #[.int .i64 fr, .int .i64 to, .int .i64 n] w (RetP (xidP fr to n) N w) := by
  unfold xidP
  have hput := field_PutClass 129 7 n N (w.alloc (.cells ZP 29))
  by_cases h1 : within n 127 = true
  · have hcl : classB 129 7 n = ([129, 7, 2 * n], 0) := by unfold classB; rw [h1]; rfl
    rw [hcl] at hput ⊢
    simp only [ne_eq, not_true_eq_false, if_false]
    obtain ⟨r, hr⟩ : ∃ r, makeP 1 fr to 0 true [129, 7, 2 * n] = r := ⟨_, rfl⟩
    have hc := fun (s : Sl) (w5 : World) (h : Bts N w5 s [129, 7, 2 * n]) (hN : N ≤ w5.heap.size) => plain_made 1 fr to 0 true s _ N w5 h hN (by simp)
    rw [hr] at hc ⊢
    clear hr h1 hcl
    go_enter Try.func14, Try.ntmps14
    go_wp2_with fail
    refine hput.mono ?_
    rintro e w1 ⟨s1, rfl, hB1, f1⟩
    have hc1 := hc s1 w1 hB1 (by have := f1.size; simp at this; omega)
    clear hc hput
    go_wp2_with fail
    refine hc1.mono ?_
    rintro e w4 ⟨s2, rfl, hB, f2⟩
    have f4 := f1.tr f2
    have hb4 := (Blk.new w ZP 29).fr f4 (by simp)
    have hbz := hb4.zp
    have hfz := hb4.frz9
    have F4 : Fr [] w w4 := ((Fr.refl _ _).alloc _).tr f4
    obtain ⟨B, hBe⟩ : ∃ B, w.heap.size = B := ⟨_, rfl⟩
    have hBw : w.heap.size ≤ B := by omega
    rw [hBe] at hb4 hbz hfz hN
    simp only [hBe]
    clear hBe f4 f1 f2 hc1 hB1
    go_wp2
    refine bodyPost_ret (v := .tuple #[r.1.val s2, .int .i64 r.2]) (by simp [results, Try.results14, go_sem, hbz]) rfl ⟨s2, rfl, hB.put hb4 (by decide) hN ?_, ?_⟩
    · ((repeat (first | (with_reducible exact Fr.refl _ _) | (with_reducible assumption) | (with_reducible refine Fr.drew ?_) | (with_reducible refine Fr.drewN ?_ _) | (with_reducible refine Fr.alloc ?_ _) | (with_reducible refine Fr.setL ?_ _ _ _ ?_) | (focus (refine Or.inl ?_; simp; done)) | (focus (refine Or.inr ?_; simp; done)) | (focus (refine Or.inr ?_; simp; omega)) | (focus (refine Or.inr ?_; omega)))); done)
    · ((repeat (first | (with_reducible exact Fr.refl _ _) | (with_reducible assumption) | (with_reducible refine Fr.drew ?_) | (with_reducible refine Fr.drewN ?_ _) | (with_reducible refine Fr.alloc ?_ _) | (with_reducible refine Fr.setL ?_ _ _ _ ?_) | (focus (refine Or.inl ?_; simp; done)) | (focus (refine Or.inr ?_; simp; done)) | (focus (refine Or.inr ?_; simp; omega)) | (focus (refine Or.inr ?_; omega)))); done)
  · have hcl : classB 129 7 n = ([], 1) := by unfold classB; simp at h1; rw [h1]; rfl
    rw [hcl] at hput ⊢
    simp only [ne_eq, if_true, show ¬ ((1 : Int) = 0) by decide, not_false_eq_true]
    clear h1 hcl
    go_enter Try.func14, Try.ntmps14
    go_wp2_with fail
    refine hput.mono ?_
    rintro e w4 ⟨s1, rfl, hB1, f4⟩
    have hb4 := (Blk.new w ZP 29).fr f4 (by simp)
    have hbz := hb4.zp
    have hfz := hb4.frz9
    have F4 : Fr [] w w4 := ((Fr.refl _ _).alloc _).tr f4
    obtain ⟨B, hBe⟩ : ∃ B, w.heap.size = B := ⟨_, rfl⟩
    have hBw : w.heap.size ≤ B := by omega
    rw [hBe] at hb4 hbz hfz hN
    simp only [hBe]
    clear hBe f4 hput
    go_wp2
    refine bodyPost_ret (v := .tuple #[PD.none.val Sl.nil, .int .i64 1]) (by simp [results, Try.results14, go_sem, hbz, PD.none, Sl.nil]) rfl ⟨Sl.nil, rfl, Bts.nil _ _, ?_⟩
    ((repeat (first | (with_reducible exact Fr.refl _ _) | (with_reducible assumption) | (with_reducible refine Fr.drew ?_) | (with_reducible refine Fr.drewN ?_ _) | (with_reducible refine Fr.alloc ?_ _) | (with_reducible refine Fr.setL ?_ _ _ _ ?_) | (focus (refine Or.inl ?_; simp; done)) | (focus (refine Or.inr ?_; simp; done)) | (focus (refine Or.inr ?_; simp; omega)) | (focus (refine Or.inr ?_; omega)))); done)
def canM (c : Int) : Int := if c = 1 then 1 else if c = 2 then 3 else if c = 3 then 5 else 7
theorem plain_can (c : Int) (w : World) : Calls Try.prog 33 #[.int .i64 c] w fun e w' => e = .returned (.int .i64 (canM c)) ∧ Fr [] w w' := by
  unfold canM
  by_cases h1 : c < 1
  · have d1 : decide (c < 1) = true := by simpa using h1
    rw [if_neg (by omega), if_neg (by omega), if_neg (by omega)]
    go_enter Try.func33, Try.ntmps33
    go_wp2
    go_ret
    exact ⟨rfl, Fr.refl _ _⟩
  · have d1 : decide (c < 1) = false := by simpa using h1
    by_cases h2 : 4 < c
    · have d2 : decide (4 < c) = true := by simpa using h2
      rw [if_neg (by omega), if_neg (by omega), if_neg (by omega)]
      go_enter Try.func33, Try.ntmps33
      go_wp2
      go_ret
      exact ⟨rfl, Fr.refl _ _⟩
    · have hc : c = 1 ∨ c = 2 ∨ c = 3 ∨ c = 4 := by omega
      rcases hc with rfl | rfl | rfl | rfl
      all_goals
        go_enter Try.func33, Try.ntmps33
        go_wp2
        go_ret
        exact ⟨rfl, by ((repeat (first | (with_reducible exact Fr.refl _ _) | (with_reducible assumption) | (with_reducible refine Fr.drew ?_) | (with_reducible refine Fr.drewN ?_ _) | (with_reducible refine Fr.alloc ?_ _) | (with_reducible refine Fr.setL ?_ _ _ _ ?_) | (focus (refine Or.inl ?_; simp; done)) | (focus (refine Or.inr ?_; simp; done)) | (focus (refine Or.inr ?_; simp; omega)) | (focus (refine Or.inr ?_; omega)))); done)⟩

end Go.Proofs.Ytgmpikaibeenmaa
