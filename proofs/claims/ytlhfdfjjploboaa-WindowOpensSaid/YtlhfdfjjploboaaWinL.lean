/- The laws of chapter 17, walked. -/
import Derived.Test.YtlhfdfjjploboaaWinR
import Derived.Test.YtlhfdfjjploboaaArg
import Derived.Laws.BitsLemmas
import Derived.Deep.DeepCutAuto
import Derived.Deep.CutBlock
namespace Go.Proofs.Ytlhfdfjjploboaa
open Go.RowKit Go.Shelf
set_option linter.unusedVariables false
set_option linter.unusedSimpArgs false

theorem win_awake (w : World) : Calls Try.prog 22 #[] w fun e w' => e = .returned (.bool true) ∧ Fr [] w w' := by
  go_enter Try.func22, Try.ntmps22
  go_wp2_with fail
  refine (win_New_yes 4 _ (by omega) (by omega)).mono ?_
  rintro e w1 ⟨rfl, i1, f1⟩
  go_wp2_with fail
  refine (win_Slow _ _ _ _ _ i1 (by omega)).mono ?_
  rintro e w2 ⟨rfl, i2, f2⟩
  go_wp2_with fail
  refine (win_Acked' _ 4 3 (1, 0) _ i2 ⟨by decide, by decide, by decide, by decide⟩ (by omega) (by omega)).mono ?_
  rintro e w3 ⟨rfl, i3, f3⟩
  rw [show (wk 4 (3 : Int).toNat (1, 0)) = (3, 0) by decide] at i3
  go_wp2_with fail
  refine (win_Now _ _ _ _ _ i3).mono ?_
  rintro e w4 ⟨rfl, rfl⟩
  go_wp2
  go_ret
  exact ⟨rfl, f1.trans (f2.tr f3) (by simp)⟩

theorem win_known (w : World) : Calls Try.prog 8 #[] w fun e w' => e = .returned (.bool true) ∧ Fr [] w w' := by
  go_enter Try.func8, Try.ntmps8
  go_wp2_with fail
  refine (win_awake _).mono ?_
  rintro e w0 ⟨rfl, f0⟩
  go_wp2_with fail
  refine (win_New_no 0 _ (by omega)).mono ?_
  rintro e w0' ⟨rfl, rfl⟩
  go_wp2_with fail
  refine (win_New_yes 4 _ (by omega) (by omega)).mono ?_
  rintro e w1 ⟨rfl, i1, f1⟩
  go_wp2_with fail
  refine (win_Now _ _ _ _ _ i1).mono ?_
  rintro e w1' ⟨rfl, rfl⟩
  go_wp2_with fail
  refine (win_Slow _ _ _ _ _ i1 (by omega)).mono ?_
  rintro e w2 ⟨rfl, i2, f2⟩
  go_wp2_with fail
  refine (win_Acked' _ 4 1 (1, 0) _ i2 ⟨by decide, by decide, by decide, by decide⟩ (by omega) (by omega)).mono ?_
  rintro e w3 ⟨rfl, i3, f3⟩
  rw [show (wk 4 (1 : Int).toNat (1, 0)) = (2, 0) by decide] at i3
  go_wp2_with fail
  refine (win_Now _ _ _ _ _ i3).mono ?_
  rintro e w3' ⟨rfl, rfl⟩
  go_wp2_with fail
  refine (win_Acked' _ 4 2 (2, 0) _ i3 ⟨by decide, by decide, by decide, by decide⟩ (by omega) (by omega)).mono ?_
  rintro e w4 ⟨rfl, i4, f4⟩
  rw [show (wk 4 (2 : Int).toNat (2, 0)) = (3, 0) by decide] at i4
  go_wp2_with fail
  refine (win_Now _ _ _ _ _ i4).mono ?_
  rintro e w4' ⟨rfl, rfl⟩
  go_wp2_with fail
  refine (win_Acked' _ 4 2 (3, 0) _ i4 ⟨by decide, by decide, by decide, by decide⟩ (by omega) (by omega)).mono ?_
  rintro e w5 ⟨rfl, i5, f5⟩
  rw [show (wk 4 (2 : Int).toNat (3, 0)) = (3, 2) by decide] at i5
  go_wp2_with fail
  refine (win_Now _ _ _ _ _ i5).mono ?_
  rintro e w5' ⟨rfl, rfl⟩
  go_wp2
  go_ret
  exact ⟨rfl, f0.tr0 (f1.trans (((f2.tr f3).tr f4).tr f5) (by simp))⟩

set_option maxRecDepth 100000 in
set_option maxHeartbeats 4000000 in
theorem win_plays (w : World) (most : Int) (hw : (Lit.int .i64 most).wf = true) (A : Option Addr) (n cap : Nat) (g : Nat → Nat → Int) (hm : n ≤ 9223372036854775807) (ha : ArgRec [.i64, .i64] w A n g) :
    Calls Try.prog 10 #[.int .i64 most, .slice A n cap] w fun e w' => e = .returned (.bool true) ∧ Fr [] w w' := by
  by_cases h200 : 200 < n
  · go_enter Try.func10, Try.ntmps10
    go_wp2_with fail
    refine (win_awake _).mono ?_
    rintro e w0 ⟨rfl, f0⟩
    go_wp2
    go_ret
    exact ⟨rfl, f0⟩
  by_cases hmost : most < 1 ∨ 64 < most
  · go_enter Try.func10, Try.ntmps10
    go_wp2_with fail
    refine (win_awake _).mono ?_
    rintro e w0 ⟨rfl, f0⟩
    go_wp2_with fail
    refine (win_New_no most _ hmost).mono ?_
    rintro e w1 ⟨rfl, rfl⟩
    go_wp2_with fail
    refine (ref_New_no most _ hmost).mono ?_
    rintro e w1 ⟨rfl, rfl⟩
    go_wp2
    go_ret
    exact ⟨rfl, f0⟩
  have hm1 : 1 ≤ most := by omega
  have hm2 : most ≤ 64 := by omega
  clear hmost hw
  go_enter Try.func10, Try.ntmps10
  go_wp2_with fail
  refine (win_awake _).mono ?_
  rintro e w0 ⟨rfl, f0⟩
  go_wp2_with fail
  refine (win_New_yes most _ hm1 hm2).mono ?_
  rintro e w1 ⟨rfl, i1, f1⟩
  go_wp2_with fail
  refine (ref_New_yes most _ hm1 hm2).mono ?_
  rintro e w2 ⟨rfl, m2, f2, hs2⟩
  have i2 := i1.fr f2 (by simp)
  have hB1 : w.heap.size ≤ w0.heap.size := f0.size
  have hB2 : w0.heap.size < w1.heap.size := i1.lt
  have fw : Fr [] w w2 := (f0.tr0 f1).tr0 f2
  clear i1 f0 f1 f2 hs2
  generalize w0.heap.size = B at *
  generalize w1.heap.size = M at *
  go_wp2
  go_loopw [9] (fun i wr => ∃ (k : Nat) (p : Int × Int), k ≤ n ∧ WOk most p ∧ i = .int .i64 k ∧ IsW wr B most p.1 p.2 ∧ IsM wr M most p.1 p.2 ∧ Fr [] w wr) (fun i _ => n - (intOf i).toNat)
  case atStart => exact ⟨0, (most, 0), by omega, ⟨by simp only; omega, by simp only; omega, by simp only; omega, by simp only; omega⟩, rfl, i2, m2, fw⟩
  case round =>
    obtain ⟨k, p, hk, hok, rfl, hv, hr, hf⟩ := hrel
    by_cases hlt : k < n
    · obtain ⟨b, off, rfl, hc⟩ := ha.at_ k hlt
      have d0 := hf.cell (hc 0 (by decide)).1 (by simp)
      have d1 := hf.cell (hc 1 (by decide)).1 (by simp)
      simp only [List.length_cons, List.length_nil, Nat.zero_add, Nat.reduceAdd, Nat.add_zero, List.getElem_cons_zero, List.getElem_cons_succ] at d0 d1
      have hbB : b < w.heap.size := by have h := World.block_lt_of_cell? w _ (hc 0 (by decide)).1; simp only at h; omega
      clear hc
      generalize g k 0 = D at *
      generalize g k 1 = N at *
      by_cases hN : 100000 < N
      · go_wp2
        go_ret
        exact ⟨rfl, hf⟩
      have hMB : M ≠ B := by omega
      have hokS : WOk most (1, 0) := ⟨by simp only; omega, by simp only; omega, by simp only; omega, by simp only; omega⟩
      have hokF : WOk most (most, 0) := ⟨by simp only; omega, by simp only; omega, by simp only; omega, by simp only; omega⟩
      go_upto_block 2 with (fail)
      go_cut [] (fun wx => ∃ q : Int × Int, WOk most q ∧ IsW wx B most q.1 q.2 ∧ IsM wx M most q.1 q.2 ∧ Fr [] w wx)
      case first =>
        by_cases h1 : D ≤ 1
        · go_wp2_with fail
          refine (win_Slow _ _ _ _ _ hv hm1).mono ?_
          rintro e x1 ⟨rfl, v1, g1⟩
          go_wp2_with fail
          refine (ref_Slow _ _ _ _ _ (hr.fr g1 (by simp; omega))).mono ?_
          rintro e x2 ⟨rfl, r2, g2⟩
          go_wp2
          go_meet
          exact ⟨(1, 0), hokS, v1.fr g2 (by simp; omega), r2, (hf.trans g1 (by simp; omega)).trans g2 (by simp; omega)⟩
        by_cases h7 : D ≤ 7
        · go_wp2_with fail
          refine (win_Acked' _ _ _ p _ hv hok hm2 (by omega)).mono ?_
          rintro e x1 ⟨rfl, v1, g1⟩
          have d1' := g1.cell d1 (by simp; omega)
          go_wp2_with fail
          refine (ref_AckedW _ _ _ p _ (hr.fr g1 (by simp; omega)) hok hm2 (by omega)).mono ?_
          rintro e x2 ⟨rfl, r2, g2⟩
          go_wp2
          go_meet
          exact ⟨_, hok.run _, v1.fr g2 (by simp; omega), r2, (hf.trans g1 (by simp; omega)).trans g2 (by simp; omega)⟩
        · go_wp2_with fail
          refine (win_Fresh _ _ _ _ _ hv).mono ?_
          rintro e x1 ⟨rfl, v1, g1⟩
          go_wp2_with fail
          refine (ref_Fresh _ _ _ _ _ (hr.fr g1 (by simp; omega))).mono ?_
          rintro e x2 ⟨rfl, r2, g2⟩
          go_wp2
          go_meet
          exact ⟨(most, 0), hokF, v1.fr g2 (by simp; omega), r2, (hf.trans g1 (by simp; omega)).trans g2 (by simp; omega)⟩
      case rest =>
        obtain ⟨q, hq, hv', hr', hf'⟩ := hcut
        have rc := After.cell hr'.c1
        go_wp2
        refine wp_region_after (by kernel_rfl) (by kernel_rfl) ?_
        repeat (go_big_quiet_step ((go_at_call 24; exact Calls.after_same (win_Now _ _ _ _ _ (hv'.fr (After.fr _) (by simp))))))
        refine wpQuiet_nil ?_
        rintro _ ⟨⟨wy, wyf⟩, rfl⟩
        go_wp2
        go_roundw
        case rel => exact ⟨k + 1, q, by omega, hq, by go_num, hv'.fr wyf (by simp), hr'.fr wyf (by simp), hf'.tr0 wyf⟩
        case measure => simp [intOf]; omega
    · go_wp2
      go_ret
      exact ⟨rfl, hf⟩
end Go.Proofs.Ytlhfdfjjploboaa
