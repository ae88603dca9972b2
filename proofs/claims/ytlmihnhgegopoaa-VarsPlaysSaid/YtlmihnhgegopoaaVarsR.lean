/- The reference's numbers (chapter 16) and its ring: what each call comes to. -/
import Derived.Test.YtlmihnhgegopoaaVarsW
namespace Go.Proofs.Ytlmihnhgegopoaa
open Go.RowKit
set_option linter.unusedVariables false
set_option linter.unusedSimpArgs false

theorem tm_sum (a n : Int) : Int.tmod (Int.tmod (Int.tmod a 128 + Int.tmod n 128) 128 + 128) 128 = (a + n) % 128 := by
  have h1 := tm_lo a
  have h2 := tm_lo n
  rw [tm_plain]; rw [tme a, tme n]; omega
theorem tm_dif (a n : Int) : Int.tmod (Int.tmod (Int.tmod a 128 - Int.tmod n 128) 128 + 128) 128 = (a - n) % 128 := by
  have h1 := tm_lo a
  have h2 := tm_lo n
  rw [tm_plain]; rw [tme a, tme n]; omega
theorem w64p {x : Int} (h0 : -9223372036854775808 ≤ x) (h1 : x ≤ 9223372036854775807) : wrap64 x = x := by unfold wrap64; omega
theorem tm_sumw (a n : Int) : Int.tmod (wrap64 (Int.tmod (wrap64 (Int.tmod a 128 + Int.tmod n 128)) 128 + 128)) 128 = (a + n) % 128 := by
  have h1 := tm_lo a
  have h2 := tm_lo n
  rw [w64p (x := Int.tmod a 128 + Int.tmod n 128) (by omega) (by omega)]
  have h3 := tm_lo (Int.tmod a 128 + Int.tmod n 128)
  rw [w64p (by omega) (by omega), tm_sum]
theorem tm_difw (a n : Int) : Int.tmod (wrap64 (Int.tmod (wrap64 (Int.tmod a 128 - Int.tmod n 128)) 128 + 128)) 128 = (a - n) % 128 := by
  have h1 := tm_lo a
  have h2 := tm_lo n
  rw [w64p (x := Int.tmod a 128 - Int.tmod n 128) (by omega) (by omega)]
  have h3 := tm_lo (Int.tmod a 128 - Int.tmod n 128)
  rw [w64p (by omega) (by omega), tm_dif]

theorem r1_Add (a n : Int) (w : World) :
    Calls Try.prog 26 #[.int .i64 a, .int .i64 n] w fun e w' => e = .returned (.int .i64 ((a + n) % 128)) ∧ w = w' := by
  go_enter Try.func26, Try.ntmps26
  go_wp2
  go_ret
  exact ⟨ret_int (by first | exact tm_sumw a n | exact tm_sum a n), rfl⟩

theorem r1_Dist (a b : Int) (w : World) :
    Calls Try.prog 28 #[.int .i64 a, .int .i64 b] w fun e w' => e = .returned (.int .i64 ((b - a) % 128)) ∧ w = w' := by
  go_enter Try.func28, Try.ntmps28
  go_wp2
  go_ret
  exact ⟨ret_int (by first | exact tm_difw b a | exact tm_dif b a), rfl⟩

theorem r1_In (x a b : Int) (w : World) :
    Calls Try.prog 27 #[.int .i64 x, .int .i64 a, .int .i64 b] w fun e w' => e = .returned (.bool (decide ((x - a) % 128 ≤ (b - a) % 128))) ∧ w = w' := by
  go_enter Try.func27, Try.ntmps27
  go_wp2_with fail
  refine (r1_Dist _ _ _).mono ?_
  rintro e w1 ⟨rfl, rfl⟩
  go_wp2_with fail
  refine (r1_Dist _ _ _).mono ?_
  rintro e w1 ⟨rfl, rfl⟩
  go_wp2
  go_ret
  exact ⟨rfl, rfl⟩

theorem ref_Out (b : Nat) (s r a : Int) (w : World) (h : IsR w b s r a) :
    Calls Try.prog 19 #[.pointer (some ⟨b, 0, none⟩)] w fun e w' => e = .returned (.int .i64 ((s - a) % 128)) ∧ Fr [] w w' := by
  have c0 := After.cell h.c0
  have c2 := After.cell h.c2
  go_enter Try.func19, Try.ntmps19
  go_wp2
  refine wp_region_after (by kernel_rfl) (by kernel_rfl) ?_
  repeat (go_big_quiet_step ((go_at_call 28; exact Calls.after_same (r1_Dist _ _ _))))
  refine wpQuiet_nil ?_
  rintro _ ⟨⟨w1, w1f⟩, rfl⟩
  go_wp2
  go_ret
  exact ⟨rfl, w1f⟩

theorem ref_Sent (b : Nat) (s r a : Int) (w : World) (h : IsR w b s r a) :
    Calls Try.prog 16 #[.pointer (some ⟨b, 0, none⟩)] w fun e w' =>
      e = .returned (.int .i64 (if (s - a) % 128 = 127 then -1 else s)) ∧ IsR w' b (if (s - a) % 128 = 127 then s else (s + 1) % 128) r a ∧ Fr [b] w w' := by
  by_cases hd : (s - a) % 128 = 127
  · rw [if_pos hd, if_pos hd]
    have hd' : ((s - a) % 128 == 127) = true := by rw [beq_iff_eq]; exact hd
    clear hd
    go_enter Try.func16, Try.ntmps16
    go_wp2_with fail
    refine (ref_Out _ _ _ _ _ h).mono ?_
    rintro e w1 ⟨rfl, f1⟩
    go_wp2
    go_ret
    exact ⟨rfl, h.fr f1 (by simp), f1.to1 _⟩
  · rw [if_neg hd, if_neg hd]
    have hd' : ((s - a) % 128 == 127) = false := by rw [beq_eq_false_iff_ne]; exact hd
    clear hd
    go_enter Try.func16, Try.ntmps16
    go_wp2_with fail
    refine (ref_Out _ _ _ _ _ h).mono ?_
    rintro e w1 ⟨rfl, f1⟩
    have h1 := h.fr f1 (by simp)
    have c0 := h1.c0
    have f0 := h1.f 0
    go_wp2_with fail
    refine (r1_Add _ _ _).mono ?_
    rintro e w2 ⟨rfl, rfl⟩
    go_wp2
    go_ret
    exact ⟨rfl, h1.s0 _, (f1.to1 b).set1 _ _⟩

theorem ref_Sent' (b : Nat) (s r a : Int) (w : World) (h : IsR w b s r a) :
    Calls Try.prog 16 #[.pointer (some ⟨b, 0, none⟩)] w fun e w' =>
      e = .returned (.int .i64 (sentN s a)) ∧ IsR w' b (sentS s a) r a ∧ Fr [b] w w' := ref_Sent b s r a w h

theorem ref_Took (b : Nat) (s r a : Int) (w : World) (h : IsR w b s r a) :
    Calls Try.prog 17 #[.pointer (some ⟨b, 0, none⟩)] w fun e w' =>
      e = .returned (.int .i64 r) ∧ IsR w' b s ((r + 1) % 128) a ∧ Fr [b] w w' := by
  have c1 := h.c1
  have f1 := h.f 1
  go_enter Try.func17, Try.ntmps17
  go_wp2_with fail
  refine (r1_Add _ _ _).mono ?_
  rintro e w2 ⟨rfl, rfl⟩
  go_wp2
  go_ret
  exact ⟨rfl, h.s1 _, (Fr.refl _ _).set1 _ _⟩

theorem ref_Back (b : Nat) (s r a : Int) (w : World) (h : IsR w b s r a) :
    Calls Try.prog 20 #[.pointer (some ⟨b, 0, none⟩)] w fun e w' =>
      e = .returned (.int .i64 ((s - a) % 128)) ∧ IsR w' b a r a ∧ Fr [b] w w' := by
  go_enter Try.func20, Try.ntmps20
  go_wp2_with fail
  refine (ref_Out _ _ _ _ _ h).mono ?_
  rintro e w1 ⟨rfl, f1⟩
  have h1 := h.fr f1 (by simp)
  have c0 := h1.c0
  have c2 := h1.c2
  have f0 := h1.f 0
  go_wp2
  go_ret
  exact ⟨rfl, h1.s0 _, (f1.to1 b).set1 _ _⟩

theorem ref_Acked_low (b : Nat) (s r a n : Int) (w : World) (h : IsR w b s r a) (hn : n < 0) :
    Calls Try.prog 18 #[.pointer (some ⟨b, 0, none⟩), .int .i64 n] w fun e w' =>
      e = .returned (.int .i64 (-1)) ∧ IsR w' b s r a ∧ Fr [b] w w' := by
  go_enter Try.func18, Try.ntmps18
  go_wp2
  go_quiet (fail)
  go_wp2
  go_ret
  exact ⟨rfl, h, (Fr.refl _ _).drewN _⟩

theorem ref_Acked_high (b : Nat) (s r a n : Int) (w : World) (h : IsR w b s r a) (hn : 127 < n) :
    Calls Try.prog 18 #[.pointer (some ⟨b, 0, none⟩), .int .i64 n] w fun e w' =>
      e = .returned (.int .i64 (-1)) ∧ IsR w' b s r a ∧ Fr [b] w w' := by
  have h1 : ¬ n < 0 := by omega
  have h2 : decide (n < 0) = false := by simpa using h1
  go_enter Try.func18, Try.ntmps18
  go_wp2
  go_quiet (fail)
  go_wp2
  go_ret
  exact ⟨rfl, h, (Fr.refl _ _).drewN _⟩

theorem ref_Acked_yes (b : Nat) (s r a n : Int) (w : World) (h : IsR w b s r a) (hn0 : 0 ≤ n) (hn1 : n ≤ 127) (hin : (n - a) % 128 ≤ (s - a) % 128) :
    Calls Try.prog 18 #[.pointer (some ⟨b, 0, none⟩), .int .i64 n] w fun e w' =>
      e = .returned (.int .i64 ((n - a) % 128)) ∧ IsR w' b s r n ∧ Fr [b] w w' := by
  have h2 : decide (n < 0) = false := by simp; omega
  have h3 : decide (127 < n) = false := by simp; omega
  have c0 := After.cell h.c0
  have c2 := After.cell h.c2
  have hd : decide ((n - a) % 128 ≤ (s - a) % 128) = true := decide_eq_true hin
  go_enter Try.func18, Try.ntmps18
  go_wp2
  refine wp_region_after (by kernel_rfl) (by kernel_rfl) ?_
  repeat (go_big_quiet_step ((go_at_call 27; exact Calls.after_same (r1_In _ _ _ _))))
  refine wpQuiet_nil ?_
  rintro _ ⟨⟨w1, w1f⟩, rfl⟩
  clear c0 c2
  have h1 := h.fr w1f (by simp)
  have c2 := h1.c2
  have f2 := h1.f 2
  go_wp2_with fail
  refine (r1_Dist _ _ _).mono ?_
  rintro e w2 ⟨rfl, rfl⟩
  go_wp2
  go_ret
  exact ⟨rfl, h1.s2 _, (w1f.to1 b).set1 _ _⟩

theorem ref_Acked_no (b : Nat) (s r a n : Int) (w : World) (h : IsR w b s r a) (hn0 : 0 ≤ n) (hn1 : n ≤ 127) (hin : ¬ (n - a) % 128 ≤ (s - a) % 128) :
    Calls Try.prog 18 #[.pointer (some ⟨b, 0, none⟩), .int .i64 n] w fun e w' =>
      e = .returned (.int .i64 (-1)) ∧ IsR w' b s r a ∧ Fr [b] w w' := by
  have h2 : decide (n < 0) = false := by simp; omega
  have h3 : decide (127 < n) = false := by simp; omega
  have c0 := After.cell h.c0
  have c2 := After.cell h.c2
  have hd : decide ((n - a) % 128 ≤ (s - a) % 128) = false := decide_eq_false hin
  go_enter Try.func18, Try.ntmps18
  go_wp2
  refine wp_region_after (by kernel_rfl) (by kernel_rfl) ?_
  repeat (go_big_quiet_step ((go_at_call 27; exact Calls.after_same (r1_In _ _ _ _))))
  refine wpQuiet_nil ?_
  rintro _ ⟨⟨w1, w1f⟩, rfl⟩
  clear c0 c2
  go_wp2
  go_ret
  exact ⟨rfl, h.fr w1f (by simp), w1f.to1 b⟩

theorem ref_Acked (b : Nat) (s r a n : Int) (w : World) (h : IsR w b s r a) :
    Calls Try.prog 18 #[.pointer (some ⟨b, 0, none⟩), .int .i64 n] w fun e w' =>
      e = .returned (.int .i64 (ackN s a n)) ∧ IsR w' b s r (ackA s a n) ∧ Fr [b] w w' := by
  unfold ackN ackA
  by_cases h1 : n < 0
  · rw [if_neg (by omega), if_neg (by omega)]; exact ref_Acked_low b s r a n w h h1
  · by_cases h2 : 127 < n
    · rw [if_neg (by omega), if_neg (by omega)]; exact ref_Acked_high b s r a n w h h2
    · by_cases h3 : (n - a) % 128 ≤ (s - a) % 128
      · rw [if_pos ⟨by omega, by omega, h3⟩, if_pos ⟨by omega, by omega, h3⟩]; exact ref_Acked_yes b s r a n w h (by omega) (by omega) h3
      · rw [if_neg (by omega), if_neg (by omega)]; exact ref_Acked_no b s r a n w h (by omega) (by omega) h3

/-- The package's own word of waking: true. -/
theorem vars_awake (w : World) : Calls Try.prog 7 #[] w fun e w' => e = .returned (.bool true) ∧ Fr [] w w' := by
  have hb := Blk.new w #[.int .i64 0, .int .i64 0, .int .i64 0] 25
  have f0 := (Fr.refl [] w).alloc (.cells #[.int .i64 0, .int .i64 0, .int .i64 0] 25)
  go_enter Try.func7, Try.ntmps7
  go_wp2_with fail
  refine (vars_Sent _ _ _ _ _ hb).mono ?_
  rintro e w1 ⟨rfl, i1, f1⟩
  simp only [show ((0 : Int) - 0) % 128 = 0 from rfl, show ((0 : Int) + 1) % 128 = 1 from rfl, if_neg (show ¬ (0 : Int) = 127 by decide)] at i1 ⊢
  go_wp2_with fail
  refine (vars_Sent _ _ _ _ _ i1).mono ?_
  rintro e w2 ⟨rfl, i2, f2⟩
  simp only [show ((1 : Int) - 0) % 128 = 1 from rfl, show ((1 : Int) + 1) % 128 = 2 from rfl, if_neg (show ¬ (1 : Int) = 127 by decide)] at i2 ⊢
  go_wp2_with fail
  refine (vars_Acked _ _ _ _ _ _ i2).mono ?_
  rintro e w3 ⟨rfl, i3, f3⟩
  rw [show ackN 2 0 1 = 1 by decide]
  rw [show ackA 2 0 1 = 1 by decide] at i3
  go_wp2_with fail
  refine (vars_Out _ _ _ _ _ i3).mono ?_
  rintro e w4 ⟨rfl, f4⟩
  rw [show ((2 : Int) - 1) % 128 = 1 from rfl]
  go_wp2_with fail
  refine (vars_Va _ _ _ _ _ (i3.fr f4 (by simp))).mono ?_
  rintro e w5 ⟨rfl, f5⟩
  go_wp2
  go_ret
  exact ⟨rfl, f0.trans (((f1.tr f2).tr f3).tr0 (f4.tr f5)) (by simp)⟩
end Go.Proofs.Ytlmihnhgegopoaa
