
/- The reference's exchange. -/
import Derived.Test.YtgmpikaibeenmaaPlainB
import Derived.BigQuiet
namespace Go.Proofs.Ytgmpikaibeenmaa
open Go.RowKit
set_option linter.unusedVariables false
set_option linter.unusedSimpArgs false
set_option maxRecDepth 100000

set_option maxHeartbeats 2000000 in
theorem r_PutClass (n : Int) (h0 : 0 ≤ n) (h1 : n ≤ 127) (N : Nat) (w : World) : Calls Try.prog 37 #[.agg #[.int .i64 129, .int .i64 7, .int .i64 n]] w (RetB ([129, 7, 2 * n], 0) N w) := by
  have d1 : decide (n < 0) = false := by simp; omega
  have d2 : decide (127 < n) = false := by simp; omega
  have hw0 : IntKind.i64.wrap (2 * n) = 2 * n := IntWalk.i64_in _ (by omega)
  have hw1 : IntKind.u8.wrap (2 * n) = 2 * n := by simp [IntKind.wrap, IntKind.signed, IntKind.bits]; omega
  go_enter Try.func37, Try.ntmps37
  go_wp2
  go_ret2
  refine ⟨⟨some ⟨w.heap.size + 1, 0, none⟩, 3, 3⟩, rfl, ?_, by ((repeat (first | (with_reducible exact Fr.refl _ _) | (with_reducible assumption) | (with_reducible refine Fr.drew ?_) | (with_reducible refine Fr.drewN ?_ _) | (with_reducible refine Fr.alloc ?_ _) | (with_reducible refine Fr.setL ?_ _ _ _ ?_) | (focus (refine Or.inl ?_; simp; done)) | (focus (refine Or.inr ?_; simp; done)) | (focus (refine Or.inr ?_; simp; omega)) | (focus (refine Or.inr ?_; omega)))); done)⟩
  exact Bts.new (b := w.heap.size + 1) (l := [129, 7, 2 * n]) (Blk.newAt _ _ _ _ (by simp)) (by intro x hx; simp at hx; simp [Lit.wf, IntKind.min, IntKind.max, IntKind.signed, IntKind.bits]; omega) N

theorem xidP_bad {fr to n : Int} (h : sapB fr = false ∨ to < 0 ∨ 255 < to ∨ n < 0 ∨ 127 < n) : xidP fr to n = (PD.none, 1) := by
  unfold xidP classB
  by_cases h1 : within n 127 = true
  · have h2 := within_iff.1 h1
    rw [h1]
    rw [if_neg (by simp [within])]
    unfold makeP
    rw [if_pos]
    rcases h with h | h | h | h | h
    · exact .inl h
    · exact .inr (.inl h)
    · exact .inr (.inr h)
    · omega
    · omega
  · have h1' : within n 127 = false := by simpa using h1
    rw [h1']
    simp
theorem xidP_ok {fr to n : Int} (hs : sapB fr = true) (h1 : ¬to < 0) (h2 : ¬255 < to) (h3 : ¬n < 0) (h4 : ¬127 < n) : xidP fr to n = (cmdP fr to 1 true [129, 7, 2 * n], 0) := by
  unfold xidP classB
  have h5 : within n 127 = true := within_iff.2 ⟨by omega, by omega⟩
  rw [h5]
  rw [if_neg (by simp [within])]
  unfold makeP
  rw [if_neg (by rw [hs]; rintro (h | h | h) <;> first | exact absurd h (by decide) | exact h1 h | exact h2 h), if_neg (by simp [within])]
  simp [within, cmdP]

set_option maxHeartbeats 2000000 in
theorem r_AskXid (fr to n : Int) (N : Nat) (w : World) (hN : N ≤ w.heap.size) :
    Calls Try.prog 18 #[.int .i64 fr, .int .i64 to, .int .i64 n] w (RetP (xidP fr to n) N w) := by
  cases hs : sapB fr with
  | false =>
    have HS := Lib.hid hs
    rw [xidP_bad (.inl hs)]
    clear hs
    go_enter Try.func18, Try.ntmps18
    go_wp2_with fail
    refine (r_Sap fr _).mono ?_
    rintro e w' ⟨rfl, rfl⟩
    rw [HS.out]
    go_wp2
    exact bodyPost_ret (v := .tuple #[PD.none.val Sl.nil, .int .i64 1]) (by simp [results, Try.results18, go_sem, PD.none, Sl.nil]) rfl ⟨Sl.nil, rfl, Bts.nil _ _, by ((repeat (first | (with_reducible exact Fr.refl _ _) | (with_reducible assumption) | (with_reducible refine Fr.drew ?_) | (with_reducible refine Fr.drewN ?_ _) | (with_reducible refine Fr.alloc ?_ _) | (with_reducible refine Fr.setL ?_ _ _ _ ?_) | (focus (refine Or.inl ?_; simp; done)) | (focus (refine Or.inr ?_; simp; done)) | (focus (refine Or.inr ?_; simp; omega)) | (focus (refine Or.inr ?_; omega)))); done)⟩
  | true =>
    have HS := Lib.hid hs
    by_cases h1 : to < 0
    · have d1 : decide (to < 0) = true := by simp; omega
      rw [xidP_bad (.inr (.inl h1))]
      clear hs
      go_enter Try.func18, Try.ntmps18
      go_wp2_with fail
      refine (r_Sap fr _).mono ?_
      rintro e w' ⟨rfl, rfl⟩
      rw [HS.out]
      go_wp2
      exact bodyPost_ret (v := .tuple #[PD.none.val Sl.nil, .int .i64 1]) (by simp [results, Try.results18, go_sem, PD.none, Sl.nil]) rfl ⟨Sl.nil, rfl, Bts.nil _ _, by ((repeat (first | (with_reducible exact Fr.refl _ _) | (with_reducible assumption) | (with_reducible refine Fr.drew ?_) | (with_reducible refine Fr.drewN ?_ _) | (with_reducible refine Fr.alloc ?_ _) | (with_reducible refine Fr.setL ?_ _ _ _ ?_) | (focus (refine Or.inl ?_; simp; done)) | (focus (refine Or.inr ?_; simp; done)) | (focus (refine Or.inr ?_; simp; omega)) | (focus (refine Or.inr ?_; omega)))); done)⟩
    · have d1 : decide (to < 0) = false := by simp; omega
      by_cases h2 : 255 < to
      · have d2 : decide (255 < to) = true := by simp; omega
        rw [xidP_bad (.inr (.inr (.inl h2)))]
        clear hs
        go_enter Try.func18, Try.ntmps18
        go_wp2_with fail
        refine (r_Sap fr _).mono ?_
        rintro e w' ⟨rfl, rfl⟩
        rw [HS.out]
        go_wp2
        exact bodyPost_ret (v := .tuple #[PD.none.val Sl.nil, .int .i64 1]) (by simp [results, Try.results18, go_sem, PD.none, Sl.nil]) rfl ⟨Sl.nil, rfl, Bts.nil _ _, by ((repeat (first | (with_reducible exact Fr.refl _ _) | (with_reducible assumption) | (with_reducible refine Fr.drew ?_) | (with_reducible refine Fr.drewN ?_ _) | (with_reducible refine Fr.alloc ?_ _) | (with_reducible refine Fr.setL ?_ _ _ _ ?_) | (focus (refine Or.inl ?_; simp; done)) | (focus (refine Or.inr ?_; simp; done)) | (focus (refine Or.inr ?_; simp; omega)) | (focus (refine Or.inr ?_; omega)))); done)⟩
      · have d2 : decide (255 < to) = false := by simp; omega
        by_cases h3 : n < 0
        · have d3 : decide (n < 0) = true := by simp; omega
          rw [xidP_bad (.inr (.inr (.inr (.inl h3))))]
          clear hs
          go_enter Try.func18, Try.ntmps18
          go_wp2_with fail
          refine (r_Sap fr _).mono ?_
          rintro e w' ⟨rfl, rfl⟩
          rw [HS.out]
          go_wp2
          exact bodyPost_ret (v := .tuple #[PD.none.val Sl.nil, .int .i64 1]) (by simp [results, Try.results18, go_sem, PD.none, Sl.nil]) rfl ⟨Sl.nil, rfl, Bts.nil _ _, by ((repeat (first | (with_reducible exact Fr.refl _ _) | (with_reducible assumption) | (with_reducible refine Fr.drew ?_) | (with_reducible refine Fr.drewN ?_ _) | (with_reducible refine Fr.alloc ?_ _) | (with_reducible refine Fr.setL ?_ _ _ _ ?_) | (focus (refine Or.inl ?_; simp; done)) | (focus (refine Or.inr ?_; simp; done)) | (focus (refine Or.inr ?_; simp; omega)) | (focus (refine Or.inr ?_; omega)))); done)⟩
        · have d3 : decide (n < 0) = false := by simp; omega
          by_cases h4 : 127 < n
          · have d4 : decide (127 < n) = true := by simp; omega
            rw [xidP_bad (.inr (.inr (.inr (.inr h4))))]
            clear hs
            go_enter Try.func18, Try.ntmps18
            go_wp2_with fail
            refine (r_Sap fr _).mono ?_
            rintro e w' ⟨rfl, rfl⟩
            rw [HS.out]
            go_wp2
            exact bodyPost_ret (v := .tuple #[PD.none.val Sl.nil, .int .i64 1]) (by simp [results, Try.results18, go_sem, PD.none, Sl.nil]) rfl ⟨Sl.nil, rfl, Bts.nil _ _, by ((repeat (first | (with_reducible exact Fr.refl _ _) | (with_reducible assumption) | (with_reducible refine Fr.drew ?_) | (with_reducible refine Fr.drewN ?_ _) | (with_reducible refine Fr.alloc ?_ _) | (with_reducible refine Fr.setL ?_ _ _ _ ?_) | (focus (refine Or.inl ?_; simp; done)) | (focus (refine Or.inr ?_; simp; done)) | (focus (refine Or.inr ?_; simp; omega)) | (focus (refine Or.inr ?_; omega)))); done)⟩
          · have d4 : decide (127 < n) = false := by simp; omega
            rw [xidP_ok hs h1 h2 h3 h4]
            obtain ⟨r, hr⟩ : ∃ r, cmdP fr to 1 true [129, 7, 2 * n] = r := ⟨_, rfl⟩
            have hc := fun (s : Sl) (w2 : World) (hb : Bts N w2 s [129, 7, 2 * n]) (hN2 : N ≤ w2.heap.size) => r_command fr to 1 true s [129, 7, 2 * n] N w2 hb hN2 (by simp)
            have hput := r_PutClass n (by omega) (by omega) N (w.alloc (.cells ZP 29))
            rw [hr] at hc ⊢
            clear hr hs
            have HC := Lib.hid hc
            clear hc
            go_enter Try.func18, Try.ntmps18
            go_wp2_with fail
            refine (r_Sap fr _).mono ?_
            rintro e w' ⟨rfl, rfl⟩
            rw [HS.out]
            go_wp2_with fail
            refine hput.mono ?_
            rintro e w3 ⟨s1, rfl, hB1, f3⟩
            have hs3 := f3.size
            go_wp2_with fail
            refine (HC.out s1 _ hB1 (by simp at hs3; omega)).mono ?_
            rintro e w4 ⟨s2, rfl, hB, f4⟩
            have hb4 := ((Blk.new w ZP 29).fr f3 (by simp)).fr f4 (by simp)
            have hbz := hb4.zp
            have hfz := hb4.frz9
            have F4 : Fr [] w w4 := (((Fr.refl _ _).alloc _).tr f3).tr f4
            obtain ⟨B, hBe⟩ : ∃ B, w.heap.size = B := ⟨_, rfl⟩
            have hBw : w.heap.size ≤ B := by omega
            rw [hBe] at hb4 hbz hfz hN
            simp only [hBe]
            clear hBe f4 f3 hB1 hs3 hput
            go_wp2
            refine bodyPost_ret (v := .tuple #[r.val s2, .int .i64 0]) (by simp [results, Try.results18, go_sem, hbz, cmdP]) rfl ⟨s2, rfl, hB.put hb4 (by decide) hN ?_, ?_⟩
            · ((repeat (first | (with_reducible exact Fr.refl _ _) | (with_reducible assumption) | (with_reducible refine Fr.drew ?_) | (with_reducible refine Fr.drewN ?_ _) | (with_reducible refine Fr.alloc ?_ _) | (with_reducible refine Fr.setL ?_ _ _ _ ?_) | (focus (refine Or.inl ?_; simp; done)) | (focus (refine Or.inr ?_; simp; done)) | (focus (refine Or.inr ?_; simp; omega)) | (focus (refine Or.inr ?_; omega)))); done)
            · ((repeat (first | (with_reducible exact Fr.refl _ _) | (with_reducible assumption) | (with_reducible refine Fr.drew ?_) | (with_reducible refine Fr.drewN ?_ _) | (with_reducible refine Fr.alloc ?_ _) | (with_reducible refine Fr.setL ?_ _ _ _ ?_) | (focus (refine Or.inl ?_; simp; done)) | (focus (refine Or.inr ?_; simp; done)) | (focus (refine Or.inr ?_; simp; omega)) | (focus (refine Or.inr ?_; omega)))); done)

end Go.Proofs.Ytgmpikaibeenmaa
