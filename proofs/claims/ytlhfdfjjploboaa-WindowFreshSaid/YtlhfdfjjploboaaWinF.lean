/- WindowFresh and WindowSteps, walked. -/
import Derived.Test.YtlhfdfjjploboaaWinL
import Derived.Deep.RegionWith
namespace Go.Proofs.Ytlhfdfjjploboaa
open Go.RowKit Go.Shelf
set_option linter.unusedVariables false
set_option linter.unusedSimpArgs false

theorem wk_one (n : Int) (hn : 1 ≤ n) : (wk n (1 : Int).toNat (1, 0)).1 = min 2 n := by
  show (wstep n (1, 0)).1 = min 2 n
  unfold wstep
  by_cases h : (1 : Int) < n
  · simp only [if_pos h]; rw [if_pos (by omega)]; simp only; omega
  · simp only [if_neg h]; omega

set_option maxRecDepth 100000 in
set_option maxHeartbeats 4000000 in
theorem win_fresh (w : World) (most : Int) (hw : (Lit.int .u8 most).wf = true) (A : Option Addr) (cap : Nat) (l : List Int) (hm : l.length ≤ 9223372036854775807) (ha : ArgInts .u8 w A l) :
    Calls Try.prog 12 #[.int .u8 most, .slice A l.length cap] w fun e w' => e = .returned (.bool true) ∧ Fr [] w w' := by
  have hw0 := (wf_u8 hw).1
  have hw1 := (wf_u8 hw).2
  clear hw
  by_cases h100 : 100 < l.length
  · go_enter Try.func12, Try.ntmps12
    go_wp2_with fail
    refine (win_awake _).mono ?_
    rintro e w0 ⟨rfl, f0⟩
    go_wp2
    go_ret
    exact ⟨rfl, f0⟩
  obtain ⟨N, hN⟩ : ∃ N, 1 + most % 64 = N := ⟨_, rfl⟩
  have hN1 : 1 ≤ N := by omega
  have hN2 : N ≤ 64 := by omega
  go_enter Try.func12, Try.ntmps12
  go_wp2_with fail
  refine (win_awake _).mono ?_
  rintro e w0 ⟨rfl, f0⟩
  go_wp2_with fail
  refine (win_New_yes N _ hN1 hN2).mono ?_
  rintro e w1 ⟨rfl, i1, f1⟩
  go_wp2_with fail
  refine (win_Now _ _ _ _ _ i1).mono ?_
  rintro e w1' ⟨rfl, rfl⟩
  have hB : w.heap.size ≤ w0.heap.size := f0.size
  have fw : Fr [] w w1 := f0.tr0 f1
  clear f0 f1
  generalize w0.heap.size = B at *
  go_wp2
  clear hN
  go_loopw [8] (fun i wr => ∃ (k : Nat) (d c : Int), k ≤ l.length ∧ i = .int .i64 k ∧ IsW wr B N d c ∧ Fr [] w wr) (fun i _ => l.length - (intOf i).toNat)
  case atStart => exact ⟨0, N, 0, by omega, rfl, i1, fw⟩
  case round =>
    obtain ⟨k, d, c, hk, rfl, hi, hf⟩ := hrel
    have ok1 : WOk N (1, 0) := ⟨by simp only; omega, by simp only; omega, by simp only; omega, by simp only; omega⟩
    by_cases hlt : k < l.length
    · obtain ⟨b, off, x, rfl, hc0, hwx, hx⟩ := ha.at_ k hlt
      have hbB : b ≠ B := by have h := World.block_lt_of_cell? w _ hc0; simp only at h; omega
      have hx0 := (wf_u8 hwx).1
      have hx1 := (wf_u8 hwx).2
      clear hwx hx
      go_wp2_with fail
      refine (win_Slow _ _ _ _ _ hi hN1).mono ?_
      rintro e x1 ⟨rfl, i2, g1⟩
      have c1 := (hf.trans g1 (by simp; omega)).cell hc0 (by simp)
      go_wp2_with fail
      refine (win_Acked' _ _ x (1, 0) _ i2 ok1 hN2 (by omega)).mono ?_
      rintro e x2 ⟨rfl, i3, g2⟩
      have c2 := ((hf.trans g1 (by simp; omega)).trans g2 (by simp; omega)).cell hc0 (by simp)
      clear c1
      go_wp2_with fail
      refine (win_Acked' _ _ (-x) _ _ i3 (ok1.run _) hN2 (by omega)).mono ?_
      rintro e x3 ⟨rfl, i4, g3⟩
      clear c2
      go_wp2_with fail
      refine (win_Fresh _ _ _ _ _ i4).mono ?_
      rintro e x4 ⟨rfl, i5, g4⟩
      go_wp2_with fail
      refine (win_Now _ _ _ _ _ i5).mono ?_
      rintro e x4' ⟨rfl, rfl⟩
      go_wp2_with fail
      refine (win_Slow _ _ _ _ _ i5 hN1).mono ?_
      rintro e x5 ⟨rfl, i6, g5⟩
      go_wp2_with fail
      refine (win_Now _ _ _ _ _ i6).mono ?_
      rintro e x5' ⟨rfl, rfl⟩
      go_wp2_with fail
      refine (win_Acked' _ _ 1 (1, 0) _ i6 ok1 hN2 (by omega)).mono ?_
      rintro e x6 ⟨rfl, i7, g6⟩
      rw [wk_one N hN1] at i7
      go_wp2_with fail
      refine (win_Now _ _ _ _ _ i7).mono ?_
      rintro e x6' ⟨rfl, rfl⟩
      go_wp2
      have ff : Fr [] w x6 := (((((hf.trans g1 (by simp; omega)).trans g2 (by simp; omega)).trans g3 (by simp; omega)).trans g4 (by simp; omega)).trans g5 (by simp; omega)).trans g6 (by simp; omega)
      go_roundw
      case rel => exact ⟨k + 1, _, _, by omega, by go_num, i7, ff⟩
      case measure => simp [intOf]; omega
    · go_wp2
      go_ret
      exact ⟨rfl, hf⟩

theorem wk_snoc (m : Int) (k : Nat) (p : Int × Int) : wk m (1 : Int).toNat (wk m k p) = wk m (k + 1) p := (wk_add m k 1 p).symm

set_option maxRecDepth 100000 in
set_option maxHeartbeats 8000000 in
theorem win_steps_law (w : World) (most : Int) (hw : (Lit.int .u8 most).wf = true) (A : Option Addr) (cap : Nat) (l : List Int) (hm : l.length ≤ 9223372036854775807) (ha : ArgInts .u8 w A l) :
    Calls Try.prog 9 #[.int .u8 most, .slice A l.length cap] w fun e w' => e = .returned (.bool true) ∧ Fr [] w w' := by
  have hw0 := (wf_u8 hw).1
  have hw1 := (wf_u8 hw).2
  clear hw
  by_cases h200 : 200 < l.length
  · go_enter Try.func9, Try.ntmps9
    go_wp2_with fail
    refine (win_awake _).mono ?_
    rintro e w0 ⟨rfl, f0⟩
    go_wp2
    go_ret
    exact ⟨rfl, f0⟩
  obtain ⟨N, hN⟩ : ∃ N, 1 + most % 64 = N := ⟨_, rfl⟩
  have hN1 : 1 ≤ N := by omega
  have hN2 : N ≤ 64 := by omega
  go_enter Try.func9, Try.ntmps9
  go_wp2_with fail
  refine (win_awake _).mono ?_
  rintro e w0 ⟨rfl, f0⟩
  go_wp2_with fail
  refine (win_New_yes N _ hN1 hN2).mono ?_
  rintro e w1 ⟨rfl, i1, f1⟩
  go_wp2_with fail
  refine (win_New_yes N _ hN1 hN2).mono ?_
  rintro e w2 ⟨rfl, m2, f2⟩
  have i2 := i1.fr f2 (by simp)
  have hB1 : w.heap.size ≤ w0.heap.size := f0.size
  have hB2 : w0.heap.size < w1.heap.size := i1.lt
  have fw : Fr [] w w2 := (f0.tr0 f1).tr0 f2
  clear i1 f0 f1 f2
  generalize w0.heap.size = B at *
  generalize w1.heap.size = M at *
  have hMB : M ≠ B := by omega
  go_wp2
  clear hN
  go_loopw [10] (fun i wr => ∃ (k : Nat) (p : Int × Int), k ≤ l.length ∧ i = .int .i64 k ∧ WOk N p ∧ IsW wr B N p.1 p.2 ∧ IsW wr M N p.1 p.2 ∧ Fr [] w wr) (fun i _ => l.length - (intOf i).toNat)
  case atStart => exact ⟨0, (N, 0), by omega, rfl, ⟨by simp only; omega, by simp only; omega, by simp only; omega, by simp only; omega⟩, i2, m2, fw⟩
  case round =>
    obtain ⟨k, p, hk, rfl, hok, ha1, hb1, hf⟩ := hrel
    have ok1 : WOk N (1, 0) := ⟨by simp only; omega, by simp only; omega, by simp only; omega, by simp only; omega⟩
    by_cases hlt : k < l.length
    · obtain ⟨b, off, x, rfl, hc0, hwx, hx⟩ := ha.at_ k hlt
      have hbB : b < w.heap.size := by have h := World.block_lt_of_cell? w _ hc0; simp only at h; omega
      have hx0 := (wf_u8 hwx).1
      have hx1 := (wf_u8 hwx).2
      clear hwx hx
      have cc := hf.cell hc0 (by simp)
      go_upto_if 49 with (fail)
      go_cut [] (fun wx => ∃ q : Int × Int, WOk N q ∧ IsW wx B N q.1 q.2 ∧ IsW wx M N q.1 q.2 ∧ Fr [] w wx)
      case first =>
        go_wp2_with fail
        · refine (win_Slow _ _ _ _ _ ha1 hN1).mono ?_
          rintro e x1 ⟨rfl, v1, g1⟩
          go_wp2_with fail
          refine (win_Slow _ _ _ _ _ (hb1.fr g1 (by simp; omega)) hN1).mono ?_
          rintro e x2 ⟨rfl, v2, g2⟩
          go_wp2
          go_meet
          exact ⟨(1, 0), ok1, v1.fr g2 (by simp; omega), v2, (hf.trans g1 (by simp; omega)).trans g2 (by simp; omega)⟩
        · go_meet
          exact ⟨p, hok, ha1, hb1, hf⟩
      case rest =>
        clear ha1 hb1 hok cc hf
        obtain ⟨q, hq, ha2, hb2, hf2⟩ := hcut
        have cc := hf2.cell hc0 (by simp)
        go_wp2_with fail
        refine (win_Now _ _ _ _ _ ha2).mono ?_
        rintro e x1 ⟨rfl, rfl⟩
        go_wp2_with fail
        refine (win_Acked' _ _ _ q _ ha2 hq hN2 (by omega)).mono ?_
        rintro e x2 ⟨rfl, a3, g3⟩
        obtain ⟨wo, hwo⟩ : ∃ wo : World, wo = x2 := ⟨_, rfl⟩
        rw [← hwo] at a3 g3 ⊢
        have hb3 := hb2.fr g3 (by simp; omega)
        have hf3 : Fr [] w wo := hf2.trans g3 (by simp; omega)
        clear cc hwo
        have cc := hf3.cell hc0 (by simp)
        go_wp2
        go_loopw [12] (fun j wy => ∃ (t : Nat), (t : Int) ≤ x / 8 ∧ j = .int .i64 t ∧ wy.cell? ⟨b, off + k, none⟩ = some (.int .u8 x) ∧ IsW wy B N (wk N (x / 8).toNat q).1 (wk N (x / 8).toNat q).2 ∧ IsW wy M N (wk N t q).1 (wk N t q).2 ∧ Fr [] w wy) (fun j _ => (x / 8).toNat - (intOf j).toNat)
        case atStart => exact ⟨0, by omega, rfl, cc, a3, hb3, hf3⟩
        case round =>
          clear cc a3 hb3 hf3
          obtain ⟨t, ht, rfl, cc, a3, hb3, hf3⟩ := hrel
          by_cases hlt2 : (t : Int) < x / 8
          · go_wp2_with fail
            refine (win_Acked' _ _ 1 _ _ hb3 (hq.run t) hN2 (by omega)).mono ?_
            rintro e x3 ⟨rfl, b4, g4⟩
            rw [wk_snoc] at b4
            have cc4 := g4.cell cc (by simp; omega)
            go_wp2
            go_roundw
            case rel => exact ⟨t + 1, by omega, by go_num, cc4, a3.fr g4 (by simp; omega), b4, hf3.trans g4 (by simp; omega)⟩
            case measure => simp [intOf]; omega
          · have hte : (x / 8).toNat = t := by omega
            rw [hte] at a3
            have gr := @wk_grows N t q
            have okr := hq.run (m := N) t
            generalize wk N t q = r at *
            obtain ⟨o1, o2, o3, o4⟩ := okr
            have ht8 : x / 8 = (t : Int) := by omega
            have hcc := After.cell cc
            have hd1 : decide (r.1 < q.1) = false := by simp; omega
            have hd2 : decide (q.1 + x / 8 < r.1) = false := by simp; omega
            have hd3 : decide (N < r.1) = false := by simp; omega
            have hd4 : decide (r.1 < 1) = false := by simp; omega
            have hq0 : 1 ≤ q.1 := hq.1
            have hq1 : q.1 ≤ N := hq.2.1
            have hws : IntKind.i64.wrap (q.1 + x / 8) = q.1 + x / 8 := IntWalk.i64_in _ (by omega)
            clear ht8
            go_wp2
            refine wp_region_after (by kernel_rfl) (by kernel_rfl) ?_
            repeat (go_big_quiet_step ((first | (go_at_call_of 24 (Value.pointer (some (Addr.mk B 0 none))); exact Calls.after_same (win_Now _ _ _ _ _ (a3.fr (After.fr _) (by simp)))) | (go_at_call 24; exact Calls.after_same (win_Now _ _ _ _ _ (hb3.fr (After.fr _) (by simp)))))))
            refine wpQuiet_nil ?_
            rintro _ ⟨⟨wy, wyf⟩, rfl⟩
            go_wp2
            go_roundw
            case rel => exact ⟨k + 1, r, by omega, by go_num, ⟨o1, o2, o3, o4⟩, a3.fr wyf (by simp), hb3.fr wyf (by simp), hf3.tr0 wyf⟩
            case measure => simp [intOf]; omega
    · go_wp2
      go_ret
      exact ⟨rfl, hf⟩
end Go.Proofs.Ytlhfdfjjploboaa
