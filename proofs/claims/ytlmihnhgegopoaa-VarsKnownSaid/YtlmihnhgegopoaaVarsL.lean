/- The laws of chapter 16, walked. -/
import Derived.Test.YtlmihnhgegopoaaVarsR
import Derived.Laws.BitsLemmas
import Derived.Test.YtlmihnhgegopoaaArg
namespace Go.Proofs.Ytlmihnhgegopoaa
open Go.RowKit
set_option linter.unusedVariables false
set_option linter.unusedSimpArgs false

theorem vars_known (w : World) : Calls Try.prog 5 #[] w fun e w' => e = .returned (.bool true) ∧ Fr [] w w' := by
  go_enter Try.func5, Try.ntmps5
  go_wp2_with fail
  refine (vars_awake _).mono ?_
  rintro e w0 ⟨rfl, f0⟩
  have hb := Blk.new w0 #[.int .i64 0, .int .i64 0, .int .i64 0] 25
  have fa := (Fr.refl [] w0).alloc (.cells #[.int .i64 0, .int .i64 0, .int .i64 0] 25)
  go_wp2_with fail
  refine (vars_Sent _ _ _ _ _ hb).mono ?_
  rintro e w1 ⟨rfl, i1, f1⟩
  simp only [show ((0 : Int) - 0) % 128 = 0 from rfl, show ((0 : Int) + 1) % 128 = 1 from rfl, if_neg (show ¬ (0 : Int) = 127 by decide)] at i1 ⊢
  go_wp2_with fail
  refine (vars_Sent _ _ _ _ _ i1).mono ?_
  rintro e w2 ⟨rfl, i2, f2⟩
  simp only [show ((1 : Int) - 0) % 128 = 1 from rfl, show ((1 : Int) + 1) % 128 = 2 from rfl, if_neg (show ¬ (1 : Int) = 127 by decide)] at i2 ⊢
  go_wp2_with fail
  refine (vars_Acked _ _ _ _ _ _ i2).mono ?_
  rintro e w3 ⟨rfl, i3, f3⟩
  rw [show ackN 2 0 1 = 1 by decide]
  rw [show ackA 2 0 1 = 1 by decide] at i3
  go_wp2_with fail
  refine (vars_Acked _ _ _ _ _ _ i3).mono ?_
  rintro e w4 ⟨rfl, i4, f4⟩
  rw [show ackN 2 1 0 = -1 by decide]
  rw [show ackA 2 1 0 = 1 by decide] at i4
  go_wp2_with fail
  refine (vars_Back _ _ _ _ _ i4).mono ?_
  rintro e w5 ⟨rfl, i5, f5⟩
  rw [show ((2 : Int) - 1) % 128 = 1 from rfl]
  go_wp2_with fail
  refine (vars_Vs _ _ _ _ _ i5).mono ?_
  rintro e w6 ⟨rfl, f6⟩
  go_wp2_with fail
  refine (vars_Took _ _ _ _ _ (i5.fr f6 (by simp))).mono ?_
  rintro e w7 ⟨rfl, i7, f7⟩
  go_wp2_with fail
  refine (vars_Vr _ _ _ _ _ i7).mono ?_
  rintro e w8 ⟨rfl, f8⟩
  go_wp2
  go_ret
  exact ⟨rfl, f0.trans (fa.trans ((((((f1.tr f2).tr f3).tr f4).tr f5).tr0 f6).tr (f7.tr0 f8)) (by simp)) (by simp)⟩

theorem mask127 (x : Int) (h0 : 0 ≤ x) (h1 : x < 256) : Go.bits .and .i64 x 127 = x % 128 :=
  bits_mask .i64 8 (by decide) (fun n h0 h1 => by rw [IntKind.wrap_i64]; omega) 7 (by decide) x h0 h1

theorem sent_next {s a : Int} (k : Nat) (hk : k < 127) (h : (s - a) % 128 = k) : ¬ (s - a) % 128 = 127 := by omega

set_option maxHeartbeats 1000000 in
theorem vars_acks (st ou nr : Int) (hs0 : 0 ≤ st) (hs1 : st ≤ 255) (ho0 : 0 ≤ ou) (ho1 : ou ≤ 255) (hn0 : -9223372036854775808 ≤ nr) (hn1 : nr ≤ 9223372036854775807) (w : World) :
    Calls Try.prog 3 #[.int .u8 st, .int .u8 ou, .int .i64 nr] w fun e w' => e = .returned (.bool true) ∧ Fr [] w w' := by
  obtain ⟨K, hK⟩ : ∃ K : Nat, Go.bits .and .i64 st 127 = (K : Int) := ⟨(st % 128).toNat, by rw [mask127 st hs0 (by omega)]; omega⟩
  have hK1 : (K : Int) ≤ 127 := by rw [← hK, mask127 st hs0 (by omega)]; omega
  obtain ⟨N, hN⟩ : ∃ N : Nat, ou % 128 = (N : Int) := ⟨(ou % 128).toNat, by omega⟩
  have hN1 : (N : Int) ≤ 127 := by omega
  go_enter Try.func3, Try.ntmps3
  go_wp2_with fail
  refine (vars_awake _).mono ?_
  rintro e w0 ⟨rfl, f0⟩
  have hb := Blk.new w0 #[.int .i64 0, .int .i64 0, .int .i64 0] 25
  have fa := (Fr.refl [] w0).alloc (.cells #[.int .i64 0, .int .i64 0, .int .i64 0] 25)
  have hbl : w.heap.size ≤ w0.heap.size := f0.size
  go_wp2
  have hB : w.heap.size ≤ w0.heap.size := f0.size
  generalize w0.heap.size = B at *
  have fb : Fr [] w (w0.alloc (.cells #[.int .i64 0, .int .i64 0, .int .i64 0] 25)) := f0.tr0 fa
  generalize w0.alloc (.cells #[.int .i64 0, .int .i64 0, .int .i64 0] 25) = wa at *
  clear fa f0
  go_loopw [8] (fun i wr => ∃ k : Nat, (k : Int) ≤ K ∧ i = .int .i64 k ∧ IsV wr B k 0 k ∧ Fr [] w wr) (fun i _ => K - (intOf i).toNat)
  case atStart => exact ⟨0, by omega, rfl, hb, fb⟩
  case round =>
    obtain ⟨k, hk, rfl, hi, hf⟩ := hrel
    by_cases hlt : (k : Int) < K
    · go_wp2_with fail
      refine (vars_Sent _ _ _ _ _ hi).mono ?_
      rintro e w1 ⟨rfl, i1, f1⟩
      rw [if_neg (show ¬ ((k : Int) - k) % 128 = 127 by omega)] at i1 ⊢
      have i1' : IsV w1 B ((k : Int) + 1) 0 k := by rw [show ((k : Int) + 1) % 128 = k + 1 by omega] at i1; exact i1
      clear i1
      go_wp2_with fail
      refine (vars_Acked _ _ _ _ _ _ i1').mono ?_
      rintro e w2 ⟨rfl, i2, f2⟩
      have i2' : IsV w2 B ((k : Int) + 1) 0 ((k : Int) + 1) := by
        rw [show ackA ((k : Int) + 1) k (((k : Int) + 1) % 128) = k + 1 by unfold ackA; rw [if_pos (by omega)]; omega] at i2; exact i2
      clear i2 i1'
      go_wp2
      go_roundw
      case rel => exact ⟨k + 1, by omega, by go_num, i2', hf.trans (f1.tr f2) (by simp; omega)⟩
      case measure => simp [intOf]; omega
    · have hkK : (k : Int) = K := by omega
      have hKk : k = K := by omega
      subst hKk
      clear hkK
      go_wp2
      go_loopw [10] (fun i wx => ∃ j : Nat, (j : Int) ≤ N ∧ i = .int .i64 j ∧ IsV wx B (((k : Int) + j) % 128) 0 k ∧ Fr [] w wx) (fun i _ => N - (intOf i).toNat)
      case atStart => exact ⟨0, by omega, rfl, by rw [show ((k : Int) + (0 : Nat)) % 128 = k by omega]; exact hi, hf⟩
      case round =>
        obtain ⟨j, hj, rfl, hi2, hf2⟩ := hrel
        by_cases hlt : (j : Int) < N
        · go_wp2_with fail
          refine (vars_Sent _ _ _ _ _ hi2).mono ?_
          rintro e w1 ⟨rfl, i1, f1⟩
          have i1' : IsV w1 B (((k : Int) + (j + 1 : Nat)) % 128) 0 k := by
            rw [if_neg (by omega)] at i1; rw [show ((k : Int) + (j + 1 : Nat)) % 128 = (((k : Int) + j) % 128 + 1) % 128 by omega]; exact i1
          clear i1
          go_wp2
          go_roundw
          case rel => exact ⟨j + 1, by omega, by go_num, i1', hf2.trans f1 (by simp; omega)⟩
          case measure => simp [intOf]; omega
        · have hjN : j = N := by omega
          subst hjN
          go_wp2_with fail
          refine (vars_Va _ _ _ _ _ hi2).mono ?_
          rintro e w1 ⟨rfl, f1⟩
          go_wp2_with fail
          refine (vars_Vs _ _ _ _ _ (hi2.fr f1 (by simp))).mono ?_
          rintro e w2 ⟨rfl, f2⟩
          go_wp2_with fail
          refine (vars_Acked _ _ _ _ _ _ ((hi2.fr f1 (by simp)).fr f2 (by simp))).mono ?_
          rintro e w3 ⟨rfl, i3, f3⟩
          have ff : Fr [] w w3 := ((hf2.tr0 f1).tr0 f2).trans f3 (by simp; omega)
          have hs : ((((k : Int) + j) % 128 - k) % 128) = j := by omega
          have he : (wrap64 ((nr - (k : Int)).tmod 128 + 128)).tmod 128 = (nr - k) % 128 := tm_wrap _
          by_cases hr : (0 ≤ nr ∧ nr ≤ 127) ∧ (nr - k) % 128 ≤ j
          · obtain ⟨⟨hr0, hr1⟩, hr2⟩ := hr
            rw [show ackA (((k : Int) + j) % 128) k nr = nr by unfold ackA; rw [if_pos (by omega)]] at i3
            rw [show ackN (((k : Int) + j) % 128) k nr = (nr - k) % 128 by unfold ackN; rw [if_pos (by omega)]]
            have ho : (((k : Int) + j) % 128 - nr) % 128 = j - (nr - k) % 128 := by omega
            go_wp2_with fail
            refine (vars_Va _ _ _ _ _ i3).mono ?_
            rintro e w4 ⟨rfl, f4⟩
            go_wp2_with fail
            refine (vars_Vs _ _ _ _ _ (i3.fr f4 (by simp))).mono ?_
            rintro e w5 ⟨rfl, f5⟩
            go_wp2_with fail
            refine (vars_Out _ _ _ _ _ ((i3.fr f4 (by simp)).fr f5 (by simp))).mono ?_
            rintro e w6 ⟨rfl, f6⟩
            rw [ho]
            go_wp2
            go_ret
            exact ⟨rfl, ((ff.tr0 f4).tr0 f5).tr0 f6⟩
          · rw [show ackA (((k : Int) + j) % 128) k nr = k by unfold ackA; rw [if_neg (by omega)]] at i3
            rw [show ackN (((k : Int) + j) % 128) k nr = -1 by unfold ackN; rw [if_neg (by omega)]]
            by_cases hlo : nr < 0
            · go_wp2_with fail
              refine (vars_Va _ _ _ _ _ i3).mono ?_
              rintro e w4 ⟨rfl, f4⟩
              go_wp2_with fail
              refine (vars_Vs _ _ _ _ _ (i3.fr f4 (by simp))).mono ?_
              rintro e w5 ⟨rfl, f5⟩
              go_wp2_with fail
              refine (vars_Out _ _ _ _ _ ((i3.fr f4 (by simp)).fr f5 (by simp))).mono ?_
              rintro e w6 ⟨rfl, f6⟩
              rw [hs]
              go_wp2
              go_ret
              exact ⟨rfl, ((ff.tr0 f4).tr0 f5).tr0 f6⟩
            · by_cases hhi : 127 < nr
              · go_wp2_with fail
                refine (vars_Va _ _ _ _ _ i3).mono ?_
                rintro e w4 ⟨rfl, f4⟩
                go_wp2_with fail
                refine (vars_Vs _ _ _ _ _ (i3.fr f4 (by simp))).mono ?_
                rintro e w5 ⟨rfl, f5⟩
                go_wp2_with fail
                refine (vars_Out _ _ _ _ _ ((i3.fr f4 (by simp)).fr f5 (by simp))).mono ?_
                rintro e w6 ⟨rfl, f6⟩
                rw [hs]
                go_wp2
                go_ret
                exact ⟨rfl, ((ff.tr0 f4).tr0 f5).tr0 f6⟩
              · have hgt : (j : Int) < (nr - k) % 128 := by omega
                go_wp2_with fail
                refine (vars_Va _ _ _ _ _ i3).mono ?_
                rintro e w4 ⟨rfl, f4⟩
                go_wp2_with fail
                refine (vars_Vs _ _ _ _ _ (i3.fr f4 (by simp))).mono ?_
                rintro e w5 ⟨rfl, f5⟩
                go_wp2_with fail
                refine (vars_Out _ _ _ _ _ ((i3.fr f4 (by simp)).fr f5 (by simp))).mono ?_
                rintro e w6 ⟨rfl, f6⟩
                rw [hs]
                go_wp2
                go_ret
                exact ⟨rfl, ((ff.tr0 f4).tr0 f5).tr0 f6⟩
theorem vars_acks_row (w : World) (st : Int) (h0 : (Lit.int .u8 st).wf = true) (ou : Int) (h1 : (Lit.int .u8 ou).wf = true) (nr : Int) (h2 : (Lit.int .i64 nr).wf = true) :
    Calls Try.prog 3 #[.int .u8 st, .int .u8 ou, .int .i64 nr] w fun e w' => e = .returned (.bool true) ∧ Fr [] w w' :=
  vars_acks st ou nr (wf_u8 h0).1 (wf_u8 h0).2 (wf_u8 h1).1 (wf_u8 h1).2 (wf_i64 h2).1 (wf_i64 h2).2 w
end Go.Proofs.Ytlmihnhgegopoaa
