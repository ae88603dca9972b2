/- VarsPlays, walked. -/
import Derived.Test.YtlmihnhgegopoaaVarsR
import Derived.Test.YtlmihnhgegopoaaArg
import Derived.Laws.BitsLemmas
import Derived.Deep.DeepCutAuto
import Derived.Deep.CutBlock
namespace Go.Proofs.Ytlmihnhgegopoaa
open Go.RowKit
set_option linter.unusedVariables false
set_option linter.unusedSimpArgs false

theorem and63 (x : Int) : 0 ≤ Go.bits .and .i64 x 63 ∧ Go.bits .and .i64 x 63 ≤ 63 := by
  have h : (BitVec.ofInt 64 x &&& BitVec.ofInt 64 63).toNat ≤ 63 := by
    rw [BitVec.toNat_and]
    exact Nat.le_trans Nat.and_le_right (by decide)
  have e : Go.bits .and .i64 x 63 = IntKind.i64.wrap (((BitVec.ofInt 64 x &&& BitVec.ofInt 64 63).toNat : Nat) : Int) := rfl
  rw [e, IntKind.wrap_i64]
  omega

set_option maxRecDepth 100000 in
set_option maxHeartbeats 4000000 in
theorem vars_plays (w : World) (A : Option Addr) (n cap : Nat) (g : Nat → Nat → Int) (hm : n ≤ 9223372036854775807) (ha : ArgRec [.i64, .i64] w A n g) :
    Calls Try.prog 6 #[.slice A n cap] w fun e w' => e = .returned (.bool true) ∧ Fr [] w w' := by
  by_cases h600 : 600 < n
  · go_enter Try.func6, Try.ntmps6
    go_wp2_with fail
    refine (vars_awake _).mono ?_
    rintro e w0 ⟨rfl, f0⟩
    go_wp2
    go_ret
    exact ⟨rfl, f0⟩
  · go_enter Try.func6, Try.ntmps6
    go_wp2_with fail
    refine (vars_awake _).mono ?_
    rintro e w0 ⟨rfl, f0⟩
    have hb := Blk.new w0 #[.int .i64 0, .int .i64 0, .int .i64 0] 25
    have hr := Blk.new (w0.alloc (.cells #[.int .i64 0, .int .i64 0, .int .i64 0] 25)) #[.int .i64 0, .int .i64 0, .int .i64 0] 35
    have hb2 := hb.alloc (.cells #[.int .i64 0, .int .i64 0, .int .i64 0] 35)
    rw [World.size_alloc] at hr
    have fa := ((Fr.refl [] w0).alloc (.cells #[.int .i64 0, .int .i64 0, .int .i64 0] 25)).alloc (.cells #[.int .i64 0, .int .i64 0, .int .i64 0] 35)
    go_wp2_with fail
    refine (vars_awake _).mono ?_
    rintro e w1 ⟨rfl, f1⟩
    have hB : w.heap.size ≤ w0.heap.size := f0.size
    have iv0 : IsV w1 w0.heap.size 0 0 0 := Blk.fr hb2 f1 (by simp)
    have ir0 : IsR w1 (w0.heap.size + 1) 0 0 0 := Blk.fr hr f1 (by simp)
    have fw : Fr [] w w1 := f0.tr0 (fa.tr0 f1)
    clear hb hr hb2 fa f1 f0
    go_wp2
    generalize w0.heap.size = B at *
    go_loopw [5] (fun i wr => ∃ (k : Nat) (s r a : Int), k ≤ n ∧ 0 ≤ s ∧ s ≤ 127 ∧ 0 ≤ r ∧ r ≤ 127 ∧ 0 ≤ a ∧ a ≤ 127 ∧ i = .int .i64 k ∧ IsV wr B s r a ∧ IsR wr (B + 1) s r a ∧ Fr [] w wr) (fun i _ => n - (intOf i).toNat)
    case atStart => exact ⟨0, 0, 0, 0, by omega, by omega, by omega, by omega, by omega, by omega, by omega, rfl, iv0, ir0, fw⟩
    case round =>
      obtain ⟨k, s, r, a, hk, s0, s1, r0, r1, a0, a1, rfl, hv, hr, hf⟩ := hrel
      by_cases hlt : k < n
      · obtain ⟨b, off, rfl, hc⟩ := ha.at_ k hlt
        have d0 := hf.cell (hc 0 (by decide)).1 (by simp)
        have d1 := hf.cell (hc 1 (by decide)).1 (by simp)
        simp only [List.length_cons, List.length_nil, Nat.zero_add, Nat.reduceAdd, Nat.add_zero, List.getElem_cons_zero, List.getElem_cons_succ] at d0 d1
        have hbB : b < B := by have h := World.block_lt_of_cell? w _ (hc 0 (by decide)).1; simp only at h; omega
        clear hc
        generalize g k 0 = D at *
        generalize g k 1 = N at *
        have d1' := After.cell d1
        have r0' := After.cell hr.c0
        have r2' := After.cell hr.c2
        go_upto_block 2 with (fail)
        go_cut [6] (fun ok wx => ok = .bool true ∧ ∃ s' r' a' : Int, 0 ≤ s' ∧ s' ≤ 127 ∧ 0 ≤ r' ∧ r' ≤ 127 ∧ 0 ≤ a' ∧ a' ≤ 127 ∧ IsV wx B s' r' a' ∧ IsR wx (B + 1) s' r' a' ∧ Fr [] w wx)
        case first =>
          clear d1'
          by_cases h3 : D ≤ 3
          · go_wp2_with fail
            refine (vars_Sent' _ _ _ _ _ hv).mono ?_
            rintro e w2 ⟨rfl, v2, f2⟩
            go_wp2_with fail
            refine (ref_Sent' _ _ _ _ _ (hr.fr f2 (by simp))).mono ?_
            rintro e w3 ⟨rfl, r3, f3⟩
            go_wp2
            go_meet
            exact ⟨rfl, _, _, _, sentS_lo s0, sentS_hi s1, r0, r1, a0, a1, v2.fr f3 (by simp), r3, (hf.trans f2 (by simp; omega)).trans f3 (by simp; omega)⟩
          by_cases h4 : D = 4
          · have h4b : (D == 4) = true := by rw [beq_iff_eq]; exact h4
            clear h4
            go_wp2_with fail
            refine (vars_Took _ _ _ _ _ hv).mono ?_
            rintro e w2 ⟨rfl, v2, f2⟩
            go_wp2_with fail
            refine (ref_Took _ _ _ _ _ (hr.fr f2 (by simp))).mono ?_
            rintro e w3 ⟨rfl, r3, f3⟩
            go_wp2
            go_meet
            exact ⟨rfl, _, _, _, s0, s1, by omega, by omega, a0, a1, v2.fr f3 (by simp), r3, (hf.trans f2 (by simp; omega)).trans f3 (by simp; omega)⟩
          have h4b : (D == 4) = false := by rw [beq_eq_false_iff_ne]; exact h4
          by_cases h6 : D ≤ 6
          · go_wp2_with fail
            refine (vars_Acked _ _ _ _ _ _ hv).mono ?_
            rintro e w2 ⟨rfl, v2, f2⟩
            have d2 := f2.cell d1 (by simp; omega)
            go_wp2_with fail
            refine (ref_Acked _ _ _ _ _ _ (hr.fr f2 (by simp))).mono ?_
            rintro e w3 ⟨rfl, r3, f3⟩
            go_wp2
            go_meet
            exact ⟨rfl, _, _, _, s0, s1, r0, r1, ackA_lo a0, ackA_hi a1, v2.fr f3 (by simp), r3, (hf.trans f2 (by simp; omega)).trans f3 (by simp; omega)⟩
          by_cases h7 : D = 7
          · have h7b : (D == 7) = true := by rw [beq_iff_eq]; exact h7
            clear h7
            have q0 := (and63 N).1
            have q1 := (and63 N).2
            have d1' := After.cell d1
            have o0 : 0 ≤ (s - a) % 128 := by omega
            have o1 : (s - a) % 128 ≤ 127 := by omega
            go_wp2
            refine wp_region_after (by kernel_rfl) (by kernel_rfl) ?_
            repeat (go_big_quiet_step ((go_at_call 19; exact Calls.after (ref_Out _ _ _ _ _ (hr.fr (After.fr _) (by simp))))))
            refine wpQuiet_nil ?_
            rintro _ ⟨⟨wz, wzf⟩, rfl⟩
            clear d1' r0' r2'
            go_wp2_with fail
            refine (vars_Acked _ _ _ _ _ _ (hv.fr wzf (by simp))).mono ?_
            rintro e w2 ⟨rfl, v2, f2⟩
            go_wp2_with fail
            refine (ref_Acked _ _ _ _ _ _ ((hr.fr wzf (by simp)).fr f2 (by simp))).mono ?_
            rintro e w3 ⟨rfl, r3, f3⟩
            go_wp2
            go_meet
            exact ⟨rfl, _, _, _, s0, s1, r0, r1, ackA_lo a0, ackA_hi a1, v2.fr f3 (by simp), r3, ((hf.tr0 wzf).trans f2 (by simp; omega)).trans f3 (by simp; omega)⟩
          have h7b : (D == 7) = false := by rw [beq_eq_false_iff_ne]; exact h7
          by_cases h8 : D = 8
          · have h8b : (D == 8) = true := by rw [beq_iff_eq]; exact h8
            clear h8
            go_wp2_with fail
            refine (vars_Back _ _ _ _ _ hv).mono ?_
            rintro e w2 ⟨rfl, v2, f2⟩
            go_wp2_with fail
            refine (ref_Back _ _ _ _ _ (hr.fr f2 (by simp))).mono ?_
            rintro e w3 ⟨rfl, r3, f3⟩
            go_wp2
            go_meet
            exact ⟨rfl, _, _, _, a0, a1, r0, r1, a0, a1, v2.fr f3 (by simp), r3, (hf.trans f2 (by simp; omega)).trans f3 (by simp; omega)⟩
          have h8b : (D == 8) = false := by rw [beq_eq_false_iff_ne]; exact h8
          by_cases h9 : D = 9
          · have h9b : (D == 9) = true := by rw [beq_iff_eq]; exact h9
            clear h9
            go_wp2_with fail
            refine (vars_Clear _ _ _ _ _ hv).mono ?_
            rintro e w2 ⟨rfl, v2, f2⟩
            have r2 := hr.fr f2 (by simp)
            have rc0 := r2.c0
            have rc1 := r2.c1
            have rc2 := r2.c2
            have rf0 := r2.f 0
            have rf1 := r2.f 1
            have rf2 := r2.f 2
            go_wp2
            go_meet
            exact ⟨rfl, 0, 0, 0, by omega, by omega, by omega, by omega, by omega, by omega, ((Blk.far (Blk.far (Blk.far v2 (by simp) _) (by simp) _) (by simp) _)), ((r2.s0 _).s1 _).s2 _, (((hf.trans f2 (by simp; omega)).setCell _ (.inr (by simp; omega))).setCell _ (.inr (by simp; omega))).setCell _ (.inr (by simp; omega))⟩
          have h9b : (D == 9) = false := by rw [beq_eq_false_iff_ne]; exact h9
          go_wp2
          go_meet
          exact ⟨rfl, _, _, _, s0, s1, r0, r1, a0, a1, hv, hr, hf⟩
        case rest =>
          obtain ⟨rfl, s', r', a', e0, e1, e2, e3, e4, e5, hv', hr', hf'⟩ := hcut
          clear d1' r0' r2'
          have r0' := After.cell hr'.c0
          have r1' := After.cell hr'.c1
          have r2' := After.cell hr'.c2
          go_wp2
          refine wp_region_after (by kernel_rfl) (by kernel_rfl) ?_
          repeat (go_big_quiet_step ((first | (go_at_call 11; exact Calls.after (vars_Vs _ _ _ _ _ (hv'.fr (After.fr _) (by simp)))) | (go_at_call 15; exact Calls.after (vars_Vr _ _ _ _ _ (hv'.fr (After.fr _) (by simp)))) | (go_at_call 10; exact Calls.after (vars_Va _ _ _ _ _ (hv'.fr (After.fr _) (by simp)))) | (go_at_call 12; exact Calls.after (vars_Out _ _ _ _ _ (hv'.fr (After.fr _) (by simp)))) | (go_at_call 19; exact Calls.after (ref_Out _ _ _ _ _ (hr'.fr (After.fr _) (by simp)))))))
          refine wpQuiet_nil ?_
          rintro _ ⟨⟨wy, wyf⟩, rfl⟩
          go_wp2
          go_roundw
          case rel => exact ⟨k + 1, s', r', a', by omega, e0, e1, e2, e3, e4, e5, by go_num, hv'.fr wyf (by simp), hr'.fr wyf (by simp), hf'.tr0 wyf⟩
          case measure => simp [intOf]; omega
      · go_wp2
        go_ret
        exact ⟨rfl, hf⟩
end Go.Proofs.Ytlmihnhgegopoaa
