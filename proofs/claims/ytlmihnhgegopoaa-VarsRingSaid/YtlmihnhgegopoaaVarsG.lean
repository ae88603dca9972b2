/- VarsRing, walked. -/
import Derived.Test.YtlmihnhgegopoaaVarsR
import Derived.Test.YtlmihnhgegopoaaArg
import Derived.Laws.BitsLemmas
namespace Go.Proofs.Ytlmihnhgegopoaa
open Go.RowKit
set_option linter.unusedVariables false
set_option linter.unusedSimpArgs false

set_option maxRecDepth 100000 in
set_option maxHeartbeats 2000000 in
theorem vars_ring (w : World) (A : Option Addr) (cap : Nat) (l : List Int) (hm : l.length ≤ 9223372036854775807) (ha : ArgInts .u8 w A l) :
    Calls Try.prog 4 #[.slice A l.length cap] w fun e w' => e = .returned (.bool true) ∧ Fr [] w w' := by
  by_cases h800 : 800 < l.length
  · go_enter Try.func4, Try.ntmps4
    go_wp2_with fail
    refine (vars_awake _).mono ?_
    rintro e w0 ⟨rfl, f0⟩
    go_wp2
    go_ret
    exact ⟨rfl, f0⟩
  · go_enter Try.func4, Try.ntmps4
    go_wp2_with fail
    refine (vars_awake _).mono ?_
    rintro e w0 ⟨rfl, f0⟩
    have hb := Blk.new w0 #[.int .i64 0, .int .i64 0, .int .i64 0] 25
    have fa := (Fr.refl [] w0).alloc (.cells #[.int .i64 0, .int .i64 0, .int .i64 0] 25)
    go_wp2
    have hB : w.heap.size ≤ w0.heap.size := f0.size
    generalize w0.heap.size = B at *
    have fb : Fr [] w (w0.alloc (.cells #[.int .i64 0, .int .i64 0, .int .i64 0] 25)) := f0.tr0 fa
    generalize w0.alloc (.cells #[.int .i64 0, .int .i64 0, .int .i64 0] 25) = wa at *
    clear fa f0
    go_loopw [4, 5, 6] (fun s a i wr => ∃ (k : Nat) (S C : Int), k ≤ l.length ∧ 0 ≤ C ∧ C ≤ S ∧ S ≤ C + 127 ∧ S ≤ 63 * k ∧ s = .int .i64 S ∧ a = .int .i64 C ∧ i = .int .i64 k ∧ IsV wr B (S % 128) 0 (C % 128) ∧ Fr [] w wr) (fun _ _ i _ => l.length - (intOf i).toNat)
    case atStart => exact ⟨0, 0, 0, by omega, by omega, by omega, by omega, by omega, rfl, rfl, rfl, hb, fb⟩
    case round =>
      obtain ⟨k, S, C, hk, hC, hCS, hSC, hSk, rfl, rfl, rfl, hi, hf⟩ := hrel
      by_cases hlt : k < l.length
      · obtain ⟨b, off, x, rfl, hc0, hw, hx⟩ := ha.at_ k hlt
        have hbB : b ≠ B := by have h := World.block_lt_of_cell? w _ hc0; simp only at h; omega
        have hc := hf.cell hc0 (by simp)
        clear hc0
        have hx2 := wf_u8 hw
        clear hx hw
        obtain ⟨x0, x1⟩ := hx2
        rcases (by omega : x % 4 = 0 ∨ x % 4 = 1 ∨ x % 4 = 2 ∨ x % 4 = 3) with h4 | h4 | h4 | h4
        · go_wp2
          obtain ⟨wo, hwo⟩ : ∃ wo : World, wo = wr := ⟨_, rfl⟩
          rw [← hwo] at hi hf hc ⊢
          clear hwo h4
          go_loopw [4, 7] (fun s j wx => ∃ (j' : Nat) (S' : Int), (j' : Int) ≤ x / 4 ∧ C ≤ S' ∧ S' ≤ C + 127 ∧ S' ≤ S + j' ∧ s = .int .i64 S' ∧ j = .int .i64 j' ∧ wx.cell? ⟨b, off + k, none⟩ = some (.int .u8 x) ∧ IsV wx B (S' % 128) 0 (C % 128) ∧ Fr [] w wx) (fun _ j _ => (x / 4).toNat - (intOf j).toNat)
          case atStart => exact ⟨0, S, by omega, by omega, by omega, by omega, rfl, rfl, hc, hi, hf⟩
          case round =>
            clear hc
            obtain ⟨j, T, hj, hT0, hT1, hT2, rfl, rfl, hc2, hi2, hf2⟩ := hrel
            by_cases hjl : (j : Int) < x / 4
            · go_wp2_with fail
              refine (vars_Sent _ _ _ _ _ hi2).mono ?_
              rintro e w1 ⟨rfl, i1, f1⟩
              by_cases hfull : T - C = 127
              · rw [if_pos (show (T % 128 - C % 128) % 128 = 127 by omega)] at i1 ⊢
                have hc3 : w1.cell? ⟨b, off + k, none⟩ = some (.int .u8 x) := f1.cell hc2 (by simp; exact hbB)
                have hfb : (T - C == 127) = true := by rw [beq_iff_eq]; exact hfull
                clear hfull
                go_wp2
                go_roundw
                case rel => exact ⟨j + 1, T, by omega, by omega, by omega, by omega, rfl, by go_num, hc3, i1, hf2.trans f1 (by simp; omega)⟩
                case measure => simp [intOf]; omega
              · rw [if_neg (show ¬ (T % 128 - C % 128) % 128 = 127 by omega)] at i1 ⊢
                have hc3 : w1.cell? ⟨b, off + k, none⟩ = some (.int .u8 x) := f1.cell hc2 (by simp; exact hbB)
                have i1' : IsV w1 B ((T + 1) % 128) 0 (C % 128) := by rw [show (T + 1) % 128 = (T % 128 + 1) % 128 by omega]; exact i1
                have hfb : (T - C == 127) = false := by rw [beq_eq_false_iff_ne]; exact hfull
                have hT3 : T < C + 127 := by omega
                have hm0 : 0 ≤ T % 128 := by omega
                clear hfull i1
                go_wp2
                go_roundw
                case rel => exact ⟨j + 1, T + 1, by omega, by omega, by omega, by omega, rfl, by go_num, hc3, i1', hf2.trans f1 (by simp; omega)⟩
                case measure => simp [intOf]; omega
            · go_wp2_with fail
              refine (vars_Out _ _ _ _ _ hi2).mono ?_
              rintro e y1 ⟨rfl, g1⟩
              rw [show (T % 128 - C % 128) % 128 = T - C by omega]
              go_wp2_with fail
              refine (vars_Va _ _ _ _ _ (hi2.fr g1 (by simp))).mono ?_
              rintro e y2 ⟨rfl, g2⟩
              go_wp2_with fail
              refine (vars_Vs _ _ _ _ _ ((hi2.fr g1 (by simp)).fr g2 (by simp))).mono ?_
              rintro e y3 ⟨rfl, g3⟩
              go_wp2
              go_roundw
              case rel => exact ⟨k + 1, T, C, by omega, by omega, by omega, by omega, by omega, rfl, rfl, by go_num, ((hi2.fr g1 (by simp)).fr g2 (by simp)).fr g3 (by simp), ((hf2.tr0 g1).tr0 g2).tr0 g3⟩
              case measure => simp [intOf]; omega
        · go_wp2
          obtain ⟨wo, hwo⟩ : ∃ wo : World, wo = wr := ⟨_, rfl⟩
          rw [← hwo] at hi hf hc ⊢
          clear hwo h4
          go_loopw [4, 7] (fun s j wx => ∃ (j' : Nat) (S' : Int), (j' : Int) ≤ x / 4 ∧ C ≤ S' ∧ S' ≤ C + 127 ∧ S' ≤ S + j' ∧ s = .int .i64 S' ∧ j = .int .i64 j' ∧ wx.cell? ⟨b, off + k, none⟩ = some (.int .u8 x) ∧ IsV wx B (S' % 128) 0 (C % 128) ∧ Fr [] w wx) (fun _ j _ => (x / 4).toNat - (intOf j).toNat)
          case atStart => exact ⟨0, S, by omega, by omega, by omega, by omega, rfl, rfl, hc, hi, hf⟩
          case round =>
            clear hc
            obtain ⟨j, T, hj, hT0, hT1, hT2, rfl, rfl, hc2, hi2, hf2⟩ := hrel
            by_cases hjl : (j : Int) < x / 4
            · go_wp2_with fail
              refine (vars_Sent _ _ _ _ _ hi2).mono ?_
              rintro e w1 ⟨rfl, i1, f1⟩
              by_cases hfull : T - C = 127
              · rw [if_pos (show (T % 128 - C % 128) % 128 = 127 by omega)] at i1 ⊢
                have hc3 : w1.cell? ⟨b, off + k, none⟩ = some (.int .u8 x) := f1.cell hc2 (by simp; exact hbB)
                have hfb : (T - C == 127) = true := by rw [beq_iff_eq]; exact hfull
                clear hfull
                go_wp2
                go_roundw
                case rel => exact ⟨j + 1, T, by omega, by omega, by omega, by omega, rfl, by go_num, hc3, i1, hf2.trans f1 (by simp; omega)⟩
                case measure => simp [intOf]; omega
              · rw [if_neg (show ¬ (T % 128 - C % 128) % 128 = 127 by omega)] at i1 ⊢
                have hc3 : w1.cell? ⟨b, off + k, none⟩ = some (.int .u8 x) := f1.cell hc2 (by simp; exact hbB)
                have i1' : IsV w1 B ((T + 1) % 128) 0 (C % 128) := by rw [show (T + 1) % 128 = (T % 128 + 1) % 128 by omega]; exact i1
                have hfb : (T - C == 127) = false := by rw [beq_eq_false_iff_ne]; exact hfull
                have hT3 : T < C + 127 := by omega
                have hm0 : 0 ≤ T % 128 := by omega
                clear hfull i1
                go_wp2
                go_roundw
                case rel => exact ⟨j + 1, T + 1, by omega, by omega, by omega, by omega, rfl, by go_num, hc3, i1', hf2.trans f1 (by simp; omega)⟩
                case measure => simp [intOf]; omega
            · go_wp2_with fail
              refine (vars_Out _ _ _ _ _ hi2).mono ?_
              rintro e y1 ⟨rfl, g1⟩
              rw [show (T % 128 - C % 128) % 128 = T - C by omega]
              go_wp2_with fail
              refine (vars_Va _ _ _ _ _ (hi2.fr g1 (by simp))).mono ?_
              rintro e y2 ⟨rfl, g2⟩
              go_wp2_with fail
              refine (vars_Vs _ _ _ _ _ ((hi2.fr g1 (by simp)).fr g2 (by simp))).mono ?_
              rintro e y3 ⟨rfl, g3⟩
              go_wp2
              go_roundw
              case rel => exact ⟨k + 1, T, C, by omega, by omega, by omega, by omega, by omega, rfl, rfl, by go_num, ((hi2.fr g1 (by simp)).fr g2 (by simp)).fr g3 (by simp), ((hf2.tr0 g1).tr0 g2).tr0 g3⟩
              case measure => simp [intOf]; omega
        · have hu0 : 0 ≤ x / 4 % (S - C + 1) := Int.emod_nonneg _ (by omega)
          have hu1 : x / 4 % (S - C + 1) ≤ S - C := by have := Int.emod_lt_of_pos (x / 4) (show 0 < S - C + 1 by omega); omega
          have hu2 : 0 ≤ C + x / 4 % (S - C + 1) := by omega
          obtain ⟨U, hU⟩ : ∃ U, x / 4 % (S - C + 1) = U := ⟨_, rfl⟩
          rw [hU] at hu0 hu1 hu2
          go_wp2_with fail
          refine (vars_Acked _ _ _ _ _ _ hi).mono ?_
          rintro e w1 ⟨rfl, i1, f1⟩
          rw [show ackN (S % 128) (C % 128) ((C + U) % 128) = U by unfold ackN; rw [if_pos (by omega)]; omega]
          rw [show ackA (S % 128) (C % 128) ((C + U) % 128) = (C + U) % 128 by unfold ackA; rw [if_pos (by omega)]] at i1
          have hf1 : Fr [] w w1 := hf.trans f1 (by simp; omega)
          go_wp2_with fail
          refine (vars_Out _ _ _ _ _ i1).mono ?_
          rintro e y1 ⟨rfl, g1⟩
          rw [show (S % 128 - (C + U) % 128) % 128 = S - (C + U) by omega]
          go_wp2_with fail
          refine (vars_Va _ _ _ _ _ (i1.fr g1 (by simp))).mono ?_
          rintro e y2 ⟨rfl, g2⟩
          go_wp2_with fail
          refine (vars_Vs _ _ _ _ _ ((i1.fr g1 (by simp)).fr g2 (by simp))).mono ?_
          rintro e y3 ⟨rfl, g3⟩
          go_wp2
          go_roundw
          case rel => exact ⟨k + 1, S, (C + U), by omega, by omega, by omega, by omega, by omega, rfl, rfl, by go_num, ((i1.fr g1 (by simp)).fr g2 (by simp)).fr g3 (by simp), ((hf1.tr0 g1).tr0 g2).tr0 g3⟩
          case measure => simp [intOf]; omega
        · go_wp2_with fail
          refine (vars_Back _ _ _ _ _ hi).mono ?_
          rintro e w1 ⟨rfl, i1, f1⟩
          rw [show (S % 128 - C % 128) % 128 = S - C by omega]
          have hf1 : Fr [] w w1 := hf.trans f1 (by simp; omega)
          go_wp2_with fail
          refine (vars_Out _ _ _ _ _ i1).mono ?_
          rintro e y1 ⟨rfl, g1⟩
          rw [show (C % 128 - C % 128) % 128 = C - C by omega]
          go_wp2_with fail
          refine (vars_Va _ _ _ _ _ (i1.fr g1 (by simp))).mono ?_
          rintro e y2 ⟨rfl, g2⟩
          go_wp2_with fail
          refine (vars_Vs _ _ _ _ _ ((i1.fr g1 (by simp)).fr g2 (by simp))).mono ?_
          rintro e y3 ⟨rfl, g3⟩
          go_wp2
          go_roundw
          case rel => exact ⟨k + 1, C, C, by omega, by omega, by omega, by omega, by omega, rfl, rfl, by go_num, ((i1.fr g1 (by simp)).fr g2 (by simp)).fr g3 (by simp), ((hf1.tr0 g1).tr0 g2).tr0 g3⟩
          case measure => simp [intOf]; omega
      · go_wp2
        go_ret
        exact ⟨rfl, hf⟩
end Go.Proofs.Ytlmihnhgegopoaa
