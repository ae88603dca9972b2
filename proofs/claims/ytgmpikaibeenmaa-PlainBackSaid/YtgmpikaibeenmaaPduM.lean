
/- pdu.May. -/
import Derived.Test.YtgmpikaibeenmaaPdu
namespace Go.Proofs.Ytgmpikaibeenmaa
open Go.RowKit
set_option linter.unusedVariables false
set_option linter.unusedSimpArgs false
set_option maxRecDepth 100000

theorem within_iff {x m : Int} : within x m = true ↔ 0 ≤ x ∧ x ≤ m := by simp [within]
theorem odd_iff {x : Int} : odd x = true ↔ x % 2 = 1 := by simp [odd]

set_option maxHeartbeats 8000000 in
theorem pdu_May (d : PD) (s : Sl) (w : World) (hn : s.n = d.info.length) : Calls Try.prog 28 #[d.val s] w fun e w' => e = .returned (.bool (mayB d)) ∧ Fr [] w w' := by
  obtain ⟨to, fr, rs, fm, kd, ns, nr, po, info⟩ := d
  obtain ⟨A, n, c⟩ := s
  simp only at hn
  subst hn
  simp only [PD.val]
  cases w1 : within to 255 with
  | true =>
    have W1 := Lib.hid w1
    have w1b := within_iff.1 w1
    cases w2 : within fr 254 with
    | true =>
      have W2 := Lib.hid w2
      have w2b := within_iff.1 w2
      have bf := band1 w2b.1 (by omega)
      by_cases ho : fr % 2 = 1
      · have eo : (fr % 2 == 1) = true := by simp; omega
        have ofr : odd fr = true := by unfold odd; exact eo
        have HM := Lib.hid (show mayB (⟨to, fr, rs, fm, kd, ns, nr, po, info⟩ : PD) = false by simp [mayB, w1, w2, ofr])
        clear w1 w2
        try clear hf
        try clear hf1
        try clear hf2
        try clear hk
        try clear hn
        try clear hr
        try clear hl
        try clear ht
        go_enter Try.func28, Try.ntmps28
        go_wp2_with fail
        refine (pdu_within _ _ _).mono ?_
        rintro e w' ⟨rfl, rfl⟩
        rw [W1.out]
        go_wp2_with fail
        refine (pdu_within _ _ _).mono ?_
        rintro e w' ⟨rfl, rfl⟩
        rw [W2.out]
        go_wp2
        go_ret
        exact ⟨by rw [HM.out]; rfl, (Fr.refl _ _).alloc _⟩
      · have eo : (fr % 2 == 1) = false := by simp; omega
        have ofr : odd fr = false := by unfold odd; exact eo
        cases w4 : within ns 127 with
        | true =>
          have W4 := Lib.hid w4
          have w4b := within_iff.1 w4
          cases w5 : within nr 127 with
          | true =>
            have W5 := Lib.hid w5
            have w5b := within_iff.1 w5
            by_cases hln : (info.length : Int) ≤ 1040
            · have dl : decide (1040 < (info.length : Int)) = false := by simp; omega
              have bt := band1 w1b.1 (by omega)
              by_cases hf : fm = 0
              · have ef : (fm == 0) = true := by simp; omega
                have efn : (fm != 0) = false := by simp; omega
                by_cases hk : kd = 0
                · have ek : (kd == 0) = true := by simp; omega
                  have ekn : (kd != 0) = false := by simp; omega
                  by_cases ht : to % 2 = 0
                  · have et : (to % 2 == 0) = true := by simp; omega
                    have eod : odd to = false := by unfold odd; simp; omega
                    have HM := Lib.hid (show mayB (⟨to, fr, rs, fm, kd, ns, nr, po, info⟩ : PD) = true by simp [mayB, w1, w2, ofr, w4, w5, hln, hf, ek, eod])
                    clear w1 w2 w4 w5
                    try clear hf
                    try clear hf1
                    try clear hf2
                    try clear hk
                    try clear hn
                    try clear hr
                    try clear hl
                    try clear ht
                    go_enter Try.func28, Try.ntmps28
                    go_wp2_with fail
                    refine (pdu_within _ _ _).mono ?_
                    rintro e w' ⟨rfl, rfl⟩
                    rw [W1.out]
                    go_wp2_with fail
                    refine (pdu_within _ _ _).mono ?_
                    rintro e w' ⟨rfl, rfl⟩
                    rw [W2.out]
                    go_wp2_with fail
                    refine (pdu_within _ _ _).mono ?_
                    rintro e w' ⟨rfl, rfl⟩
                    rw [W4.out]
                    go_wp2_with fail
                    refine (pdu_within _ _ _).mono ?_
                    rintro e w' ⟨rfl, rfl⟩
                    rw [W5.out]
                    go_wp2
                    go_ret
                    exact ⟨by rw [HM.out]; rfl, (Fr.refl _ _).alloc _⟩
                  · have et : (to % 2 == 0) = false := by simp; omega
                    have eod : odd to = true := by unfold odd; simp; omega
                    have HM := Lib.hid (show mayB (⟨to, fr, rs, fm, kd, ns, nr, po, info⟩ : PD) = false by simp [mayB, w1, w2, ofr, w4, w5, hln, hf, ek, eod])
                    clear w1 w2 w4 w5
                    try clear hf
                    try clear hf1
                    try clear hf2
                    try clear hk
                    try clear hn
                    try clear hr
                    try clear hl
                    try clear ht
                    go_enter Try.func28, Try.ntmps28
                    go_wp2_with fail
                    refine (pdu_within _ _ _).mono ?_
                    rintro e w' ⟨rfl, rfl⟩
                    rw [W1.out]
                    go_wp2_with fail
                    refine (pdu_within _ _ _).mono ?_
                    rintro e w' ⟨rfl, rfl⟩
                    rw [W2.out]
                    go_wp2_with fail
                    refine (pdu_within _ _ _).mono ?_
                    rintro e w' ⟨rfl, rfl⟩
                    rw [W4.out]
                    go_wp2_with fail
                    refine (pdu_within _ _ _).mono ?_
                    rintro e w' ⟨rfl, rfl⟩
                    rw [W5.out]
                    go_wp2
                    go_ret
                    exact ⟨by rw [HM.out]; rfl, (Fr.refl _ _).alloc _⟩
                · have ek : (kd == 0) = false := by simp; omega
                  have ekn : (kd != 0) = true := by simp; omega
                  have HM := Lib.hid (show mayB (⟨to, fr, rs, fm, kd, ns, nr, po, info⟩ : PD) = false by simp [mayB, w1, w2, ofr, w4, w5, hln, hf, ek])
                  clear w1 w2 w4 w5
                  try clear hf
                  try clear hf1
                  try clear hf2
                  try clear hk
                  try clear hn
                  try clear hr
                  try clear hl
                  try clear ht
                  go_enter Try.func28, Try.ntmps28
                  go_wp2_with fail
                  refine (pdu_within _ _ _).mono ?_
                  rintro e w' ⟨rfl, rfl⟩
                  rw [W1.out]
                  go_wp2_with fail
                  refine (pdu_within _ _ _).mono ?_
                  rintro e w' ⟨rfl, rfl⟩
                  rw [W2.out]
                  go_wp2_with fail
                  refine (pdu_within _ _ _).mono ?_
                  rintro e w' ⟨rfl, rfl⟩
                  rw [W4.out]
                  go_wp2_with fail
                  refine (pdu_within _ _ _).mono ?_
                  rintro e w' ⟨rfl, rfl⟩
                  rw [W5.out]
                  go_wp2
                  go_ret
                  exact ⟨by rw [HM.out]; rfl, (Fr.refl _ _).alloc _⟩
              · have ef : (fm == 0) = false := by simp; omega
                have efn : (fm != 0) = true := by simp; omega
                by_cases hf1 : fm = 1
                · have ef1 : (fm == 1) = true := by simp; omega
                  have ef1n : (fm != 1) = false := by simp; omega
                  cases wk : within kd 2 with
                  | true =>
                    have WK := Lib.hid wk
                    have wkb := within_iff.1 wk
                    by_cases hn : ns = 0
                    · have en : (ns == 0) = true := by simp; omega
                      have enn : (ns != 0) = false := by simp; omega
                      by_cases hl : (info.length : Int) = 0
                      · have el : ((info.length : Int) == 0) = true := by rw [beq_iff_eq]; exact hl
                        by_cases ht : to % 2 = 0
                        · have et : (to % 2 == 0) = true := by simp; omega
                          have eod : odd to = false := by unfold odd; simp; omega
                          have HM := Lib.hid (show mayB (⟨to, fr, rs, fm, kd, ns, nr, po, info⟩ : PD) = true by simp [mayB, w1, w2, ofr, w4, w5, hln, hf, hf1, wk, en, el, eod])
                          clear w1 w2 w4 w5 wk
                          try clear hf
                          try clear hf1
                          try clear hf2
                          try clear hk
                          try clear hn
                          try clear hr
                          try clear hl
                          try clear ht
                          go_enter Try.func28, Try.ntmps28
                          go_wp2_with fail
                          refine (pdu_within _ _ _).mono ?_
                          rintro e w' ⟨rfl, rfl⟩
                          rw [W1.out]
                          go_wp2_with fail
                          refine (pdu_within _ _ _).mono ?_
                          rintro e w' ⟨rfl, rfl⟩
                          rw [W2.out]
                          go_wp2_with fail
                          refine (pdu_within _ _ _).mono ?_
                          rintro e w' ⟨rfl, rfl⟩
                          rw [W4.out]
                          go_wp2_with fail
                          refine (pdu_within _ _ _).mono ?_
                          rintro e w' ⟨rfl, rfl⟩
                          rw [W5.out]
                          go_wp2_with fail
                          refine (pdu_within _ _ _).mono ?_
                          rintro e w' ⟨rfl, rfl⟩
                          rw [WK.out]
                          go_wp2
                          go_ret
                          exact ⟨by rw [HM.out]; rfl, (Fr.refl _ _).alloc _⟩
                        · have et : (to % 2 == 0) = false := by simp; omega
                          have eod : odd to = true := by unfold odd; simp; omega
                          have HM := Lib.hid (show mayB (⟨to, fr, rs, fm, kd, ns, nr, po, info⟩ : PD) = false by simp [mayB, w1, w2, ofr, w4, w5, hln, hf, hf1, wk, en, el, eod])
                          clear w1 w2 w4 w5 wk
                          try clear hf
                          try clear hf1
                          try clear hf2
                          try clear hk
                          try clear hn
                          try clear hr
                          try clear hl
                          try clear ht
                          go_enter Try.func28, Try.ntmps28
                          go_wp2_with fail
                          refine (pdu_within _ _ _).mono ?_
                          rintro e w' ⟨rfl, rfl⟩
                          rw [W1.out]
                          go_wp2_with fail
                          refine (pdu_within _ _ _).mono ?_
                          rintro e w' ⟨rfl, rfl⟩
                          rw [W2.out]
                          go_wp2_with fail
                          refine (pdu_within _ _ _).mono ?_
                          rintro e w' ⟨rfl, rfl⟩
                          rw [W4.out]
                          go_wp2_with fail
                          refine (pdu_within _ _ _).mono ?_
                          rintro e w' ⟨rfl, rfl⟩
                          rw [W5.out]
                          go_wp2_with fail
                          refine (pdu_within _ _ _).mono ?_
                          rintro e w' ⟨rfl, rfl⟩
                          rw [WK.out]
                          go_wp2
                          go_ret
                          exact ⟨by rw [HM.out]; rfl, (Fr.refl _ _).alloc _⟩
                      · have el : ((info.length : Int) == 0) = false := by rw [beq_eq_false_iff_ne]; exact hl
                        have HM := Lib.hid (show mayB (⟨to, fr, rs, fm, kd, ns, nr, po, info⟩ : PD) = false by simp [mayB, w1, w2, ofr, w4, w5, hln, hf, hf1, wk, en, el])
                        clear w1 w2 w4 w5 wk
                        try clear hf
                        try clear hf1
                        try clear hf2
                        try clear hk
                        try clear hn
                        try clear hr
                        try clear hl
                        try clear ht
                        go_enter Try.func28, Try.ntmps28
                        go_wp2_with fail
                        refine (pdu_within _ _ _).mono ?_
                        rintro e w' ⟨rfl, rfl⟩
                        rw [W1.out]
                        go_wp2_with fail
                        refine (pdu_within _ _ _).mono ?_
                        rintro e w' ⟨rfl, rfl⟩
                        rw [W2.out]
                        go_wp2_with fail
                        refine (pdu_within _ _ _).mono ?_
                        rintro e w' ⟨rfl, rfl⟩
                        rw [W4.out]
                        go_wp2_with fail
                        refine (pdu_within _ _ _).mono ?_
                        rintro e w' ⟨rfl, rfl⟩
                        rw [W5.out]
                        go_wp2_with fail
                        refine (pdu_within _ _ _).mono ?_
                        rintro e w' ⟨rfl, rfl⟩
                        rw [WK.out]
                        go_wp2
                        go_ret
                        exact ⟨by rw [HM.out]; rfl, (Fr.refl _ _).alloc _⟩
                    · have en : (ns == 0) = false := by simp; omega
                      have enn : (ns != 0) = true := by simp; omega
                      have HM := Lib.hid (show mayB (⟨to, fr, rs, fm, kd, ns, nr, po, info⟩ : PD) = false by simp [mayB, w1, w2, ofr, w4, w5, hln, hf, hf1, wk, en])
                      clear w1 w2 w4 w5 wk
                      try clear hf
                      try clear hf1
                      try clear hf2
                      try clear hk
                      try clear hn
                      try clear hr
                      try clear hl
                      try clear ht
                      go_enter Try.func28, Try.ntmps28
                      go_wp2_with fail
                      refine (pdu_within _ _ _).mono ?_
                      rintro e w' ⟨rfl, rfl⟩
                      rw [W1.out]
                      go_wp2_with fail
                      refine (pdu_within _ _ _).mono ?_
                      rintro e w' ⟨rfl, rfl⟩
                      rw [W2.out]
                      go_wp2_with fail
                      refine (pdu_within _ _ _).mono ?_
                      rintro e w' ⟨rfl, rfl⟩
                      rw [W4.out]
                      go_wp2_with fail
                      refine (pdu_within _ _ _).mono ?_
                      rintro e w' ⟨rfl, rfl⟩
                      rw [W5.out]
                      go_wp2_with fail
                      refine (pdu_within _ _ _).mono ?_
                      rintro e w' ⟨rfl, rfl⟩
                      rw [WK.out]
                      go_wp2
                      go_ret
                      exact ⟨by rw [HM.out]; rfl, (Fr.refl _ _).alloc _⟩
                  | false =>
                    have WK := Lib.hid wk
                    have HM := Lib.hid (show mayB (⟨to, fr, rs, fm, kd, ns, nr, po, info⟩ : PD) = false by simp [mayB, w1, w2, ofr, w4, w5, hln, hf, hf1, wk])
                    clear w1 w2 w4 w5 wk
                    try clear hf
                    try clear hf1
                    try clear hf2
                    try clear hk
                    try clear hn
                    try clear hr
                    try clear hl
                    try clear ht
                    go_enter Try.func28, Try.ntmps28
                    go_wp2_with fail
                    refine (pdu_within _ _ _).mono ?_
                    rintro e w' ⟨rfl, rfl⟩
                    rw [W1.out]
                    go_wp2_with fail
                    refine (pdu_within _ _ _).mono ?_
                    rintro e w' ⟨rfl, rfl⟩
                    rw [W2.out]
                    go_wp2_with fail
                    refine (pdu_within _ _ _).mono ?_
                    rintro e w' ⟨rfl, rfl⟩
                    rw [W4.out]
                    go_wp2_with fail
                    refine (pdu_within _ _ _).mono ?_
                    rintro e w' ⟨rfl, rfl⟩
                    rw [W5.out]
                    go_wp2_with fail
                    refine (pdu_within _ _ _).mono ?_
                    rintro e w' ⟨rfl, rfl⟩
                    rw [WK.out]
                    go_wp2
                    go_ret
                    exact ⟨by rw [HM.out]; rfl, (Fr.refl _ _).alloc _⟩
                · have ef1 : (fm == 1) = false := by simp; omega
                  have ef1n : (fm != 1) = true := by simp; omega
                  by_cases hf2 : fm = 2
                  · have ef2 : (fm == 2) = true := by simp; omega
                    have ef2n : (fm != 2) = false := by simp; omega
                    by_cases hn : ns = 0
                    · have en : (ns == 0) = true := by simp; omega
                      have enn : (ns != 0) = false := by simp; omega
                      by_cases hr : nr = 0
                      · have er : (nr == 0) = true := by simp; omega
                        have ern : (nr != 0) = false := by simp; omega
                        have hto := w1b
                        cases hk : kindB (⟨to, fr, rs, fm, kd, ns, nr, po, info⟩ : PD) with
                        | true =>
                          have HK := Lib.hid hk
                          have HM := Lib.hid (show mayB (⟨to, fr, rs, fm, kd, ns, nr, po, info⟩ : PD) = true by unfold mayB; dsimp only; rw [if_neg hf, if_neg hf1, if_pos hf2, hk, en, er]; simp [w1, w2, ofr, w4, w5, hln])
                          clear w1 w2 w4 w5 hk
                          try clear hf
                          try clear hf1
                          try clear hf2
                          try clear hk
                          try clear hn
                          try clear hr
                          try clear hl
                          try clear ht
                          go_enter Try.func28, Try.ntmps28
                          go_wp2_with fail
                          refine (pdu_within _ _ _).mono ?_
                          rintro e w' ⟨rfl, rfl⟩
                          rw [W1.out]
                          go_wp2_with fail
                          refine (pdu_within _ _ _).mono ?_
                          rintro e w' ⟨rfl, rfl⟩
                          rw [W2.out]
                          go_wp2_with fail
                          refine (pdu_within _ _ _).mono ?_
                          rintro e w' ⟨rfl, rfl⟩
                          rw [W4.out]
                          go_wp2_with fail
                          refine (pdu_within _ _ _).mono ?_
                          rintro e w' ⟨rfl, rfl⟩
                          rw [W5.out]
                          go_wp2_with fail
                          refine (pdu_kind (⟨to, fr, rs, fm, kd, ns, nr, po, info⟩ : PD) ⟨A, info.length, c⟩ _ rfl hto.1 hto.2).mono ?_
                          rintro e w' ⟨rfl, f1⟩
                          rw [HK.out]
                          go_wp2
                          go_ret
                          exact ⟨by rw [HM.out]; rfl, ((Fr.refl _ _).alloc _).tr f1⟩
                        | false =>
                          have HK := Lib.hid hk
                          have HM := Lib.hid (show mayB (⟨to, fr, rs, fm, kd, ns, nr, po, info⟩ : PD) = false by unfold mayB; dsimp only; rw [if_neg hf, if_neg hf1, if_pos hf2, hk, en, er]; simp [w1, w2, ofr, w4, w5, hln])
                          clear w1 w2 w4 w5 hk
                          try clear hf
                          try clear hf1
                          try clear hf2
                          try clear hk
                          try clear hn
                          try clear hr
                          try clear hl
                          try clear ht
                          go_enter Try.func28, Try.ntmps28
                          go_wp2_with fail
                          refine (pdu_within _ _ _).mono ?_
                          rintro e w' ⟨rfl, rfl⟩
                          rw [W1.out]
                          go_wp2_with fail
                          refine (pdu_within _ _ _).mono ?_
                          rintro e w' ⟨rfl, rfl⟩
                          rw [W2.out]
                          go_wp2_with fail
                          refine (pdu_within _ _ _).mono ?_
                          rintro e w' ⟨rfl, rfl⟩
                          rw [W4.out]
                          go_wp2_with fail
                          refine (pdu_within _ _ _).mono ?_
                          rintro e w' ⟨rfl, rfl⟩
                          rw [W5.out]
                          go_wp2_with fail
                          refine (pdu_kind (⟨to, fr, rs, fm, kd, ns, nr, po, info⟩ : PD) ⟨A, info.length, c⟩ _ rfl hto.1 hto.2).mono ?_
                          rintro e w' ⟨rfl, f1⟩
                          rw [HK.out]
                          go_wp2
                          go_ret
                          exact ⟨by rw [HM.out]; rfl, ((Fr.refl _ _).alloc _).tr f1⟩
                      · have er : (nr == 0) = false := by simp; omega
                        have ern : (nr != 0) = true := by simp; omega
                        have HM := Lib.hid (show mayB (⟨to, fr, rs, fm, kd, ns, nr, po, info⟩ : PD) = false by simp [mayB, w1, w2, ofr, w4, w5, hln, hf, hf1, hf2, en, er])
                        clear w1 w2 w4 w5
                        try clear hf
                        try clear hf1
                        try clear hf2
                        try clear hk
                        try clear hn
                        try clear hr
                        try clear hl
                        try clear ht
                        go_enter Try.func28, Try.ntmps28
                        go_wp2_with fail
                        refine (pdu_within _ _ _).mono ?_
                        rintro e w' ⟨rfl, rfl⟩
                        rw [W1.out]
                        go_wp2_with fail
                        refine (pdu_within _ _ _).mono ?_
                        rintro e w' ⟨rfl, rfl⟩
                        rw [W2.out]
                        go_wp2_with fail
                        refine (pdu_within _ _ _).mono ?_
                        rintro e w' ⟨rfl, rfl⟩
                        rw [W4.out]
                        go_wp2_with fail
                        refine (pdu_within _ _ _).mono ?_
                        rintro e w' ⟨rfl, rfl⟩
                        rw [W5.out]
                        go_wp2
                        go_ret
                        exact ⟨by rw [HM.out]; rfl, (Fr.refl _ _).alloc _⟩
                    · have en : (ns == 0) = false := by simp; omega
                      have enn : (ns != 0) = true := by simp; omega
                      have HM := Lib.hid (show mayB (⟨to, fr, rs, fm, kd, ns, nr, po, info⟩ : PD) = false by simp [mayB, w1, w2, ofr, w4, w5, hln, hf, hf1, hf2, en])
                      clear w1 w2 w4 w5
                      try clear hf
                      try clear hf1
                      try clear hf2
                      try clear hk
                      try clear hn
                      try clear hr
                      try clear hl
                      try clear ht
                      go_enter Try.func28, Try.ntmps28
                      go_wp2_with fail
                      refine (pdu_within _ _ _).mono ?_
                      rintro e w' ⟨rfl, rfl⟩
                      rw [W1.out]
                      go_wp2_with fail
                      refine (pdu_within _ _ _).mono ?_
                      rintro e w' ⟨rfl, rfl⟩
                      rw [W2.out]
                      go_wp2_with fail
                      refine (pdu_within _ _ _).mono ?_
                      rintro e w' ⟨rfl, rfl⟩
                      rw [W4.out]
                      go_wp2_with fail
                      refine (pdu_within _ _ _).mono ?_
                      rintro e w' ⟨rfl, rfl⟩
                      rw [W5.out]
                      go_wp2
                      go_ret
                      exact ⟨by rw [HM.out]; rfl, (Fr.refl _ _).alloc _⟩
                  · have ef2 : (fm == 2) = false := by simp; omega
                    have ef2n : (fm != 2) = true := by simp; omega
                    have HM := Lib.hid (show mayB (⟨to, fr, rs, fm, kd, ns, nr, po, info⟩ : PD) = false by simp [mayB, w1, w2, ofr, w4, w5, hln, hf, hf1, hf2])
                    clear w1 w2 w4 w5
                    try clear hf
                    try clear hf1
                    try clear hf2
                    try clear hk
                    try clear hn
                    try clear hr
                    try clear hl
                    try clear ht
                    go_enter Try.func28, Try.ntmps28
                    go_wp2_with fail
                    refine (pdu_within _ _ _).mono ?_
                    rintro e w' ⟨rfl, rfl⟩
                    rw [W1.out]
                    go_wp2_with fail
                    refine (pdu_within _ _ _).mono ?_
                    rintro e w' ⟨rfl, rfl⟩
                    rw [W2.out]
                    go_wp2_with fail
                    refine (pdu_within _ _ _).mono ?_
                    rintro e w' ⟨rfl, rfl⟩
                    rw [W4.out]
                    go_wp2_with fail
                    refine (pdu_within _ _ _).mono ?_
                    rintro e w' ⟨rfl, rfl⟩
                    rw [W5.out]
                    go_wp2
                    go_ret
                    exact ⟨by rw [HM.out]; rfl, (Fr.refl _ _).alloc _⟩
            · have dl : decide (1040 < (info.length : Int)) = true := by simp; omega
              have HM := Lib.hid (show mayB (⟨to, fr, rs, fm, kd, ns, nr, po, info⟩ : PD) = false by simp [mayB, w1, w2, ofr, w4, w5, hln])
              clear w1 w2 w4 w5
              try clear hf
              try clear hf1
              try clear hf2
              try clear hk
              try clear hn
              try clear hr
              try clear hl
              try clear ht
              go_enter Try.func28, Try.ntmps28
              go_wp2_with fail
              refine (pdu_within _ _ _).mono ?_
              rintro e w' ⟨rfl, rfl⟩
              rw [W1.out]
              go_wp2_with fail
              refine (pdu_within _ _ _).mono ?_
              rintro e w' ⟨rfl, rfl⟩
              rw [W2.out]
              go_wp2_with fail
              refine (pdu_within _ _ _).mono ?_
              rintro e w' ⟨rfl, rfl⟩
              rw [W4.out]
              go_wp2_with fail
              refine (pdu_within _ _ _).mono ?_
              rintro e w' ⟨rfl, rfl⟩
              rw [W5.out]
              go_wp2
              go_ret
              exact ⟨by rw [HM.out]; rfl, (Fr.refl _ _).alloc _⟩
          | false =>
            have W5 := Lib.hid w5
            have HM := Lib.hid (show mayB (⟨to, fr, rs, fm, kd, ns, nr, po, info⟩ : PD) = false by simp [mayB, w1, w2, ofr, w4, w5])
            clear w1 w2 w4 w5
            try clear hf
            try clear hf1
            try clear hf2
            try clear hk
            try clear hn
            try clear hr
            try clear hl
            try clear ht
            go_enter Try.func28, Try.ntmps28
            go_wp2_with fail
            refine (pdu_within _ _ _).mono ?_
            rintro e w' ⟨rfl, rfl⟩
            rw [W1.out]
            go_wp2_with fail
            refine (pdu_within _ _ _).mono ?_
            rintro e w' ⟨rfl, rfl⟩
            rw [W2.out]
            go_wp2_with fail
            refine (pdu_within _ _ _).mono ?_
            rintro e w' ⟨rfl, rfl⟩
            rw [W4.out]
            go_wp2_with fail
            refine (pdu_within _ _ _).mono ?_
            rintro e w' ⟨rfl, rfl⟩
            rw [W5.out]
            go_wp2
            go_ret
            exact ⟨by rw [HM.out]; rfl, (Fr.refl _ _).alloc _⟩
        | false =>
          have W4 := Lib.hid w4
          have HM := Lib.hid (show mayB (⟨to, fr, rs, fm, kd, ns, nr, po, info⟩ : PD) = false by simp [mayB, w1, w2, ofr, w4])
          clear w1 w2 w4
          try clear hf
          try clear hf1
          try clear hf2
          try clear hk
          try clear hn
          try clear hr
          try clear hl
          try clear ht
          go_enter Try.func28, Try.ntmps28
          go_wp2_with fail
          refine (pdu_within _ _ _).mono ?_
          rintro e w' ⟨rfl, rfl⟩
          rw [W1.out]
          go_wp2_with fail
          refine (pdu_within _ _ _).mono ?_
          rintro e w' ⟨rfl, rfl⟩
          rw [W2.out]
          go_wp2_with fail
          refine (pdu_within _ _ _).mono ?_
          rintro e w' ⟨rfl, rfl⟩
          rw [W4.out]
          go_wp2
          go_ret
          exact ⟨by rw [HM.out]; rfl, (Fr.refl _ _).alloc _⟩
    | false =>
      have W2 := Lib.hid w2
      have HM := Lib.hid (show mayB (⟨to, fr, rs, fm, kd, ns, nr, po, info⟩ : PD) = false by simp [mayB, w1, w2])
      clear w1 w2
      try clear hf
      try clear hf1
      try clear hf2
      try clear hk
      try clear hn
      try clear hr
      try clear hl
      try clear ht
      go_enter Try.func28, Try.ntmps28
      go_wp2_with fail
      refine (pdu_within _ _ _).mono ?_
      rintro e w' ⟨rfl, rfl⟩
      rw [W1.out]
      go_wp2_with fail
      refine (pdu_within _ _ _).mono ?_
      rintro e w' ⟨rfl, rfl⟩
      rw [W2.out]
      go_wp2
      go_ret
      exact ⟨by rw [HM.out]; rfl, (Fr.refl _ _).alloc _⟩
  | false =>
    have W1 := Lib.hid w1
    have HM := Lib.hid (show mayB (⟨to, fr, rs, fm, kd, ns, nr, po, info⟩ : PD) = false by simp [mayB, w1])
    clear w1
    try clear hf
    try clear hf1
    try clear hf2
    try clear hk
    try clear hn
    try clear hr
    try clear hl
    try clear ht
    go_enter Try.func28, Try.ntmps28
    go_wp2_with fail
    refine (pdu_within _ _ _).mono ?_
    rintro e w' ⟨rfl, rfl⟩
    rw [W1.out]
    go_wp2
    go_ret
    exact ⟨by rw [HM.out]; rfl, (Fr.refl _ _).alloc _⟩
end Go.Proofs.Ytgmpikaibeenmaa
