/- WindowOpens, walked. -/
import Derived.Test.YtlhfdfjjploboaaWinL
namespace Go.Proofs.Ytlhfdfjjploboaa
open Go.RowKit Go.Shelf
set_option linter.unusedVariables false
set_option linter.unusedSimpArgs false

/-- How wide it is behind so many that came through since a loss. -/
def Opened (m s : Int) (p : Int × Int) : Prop := (p.1 < m → p.1 * (p.1 - 1) + 2 * p.2 = 2 * s) ∧ (¬ p.1 < m → m * (m - 1) ≤ 2 * s)

theorem Opened.step {m s : Int} {p : Int × Int} (hk : WOk m p) (h : Opened m s p) : Opened m (s + 1) (wstep m p) := by
  obtain ⟨k1, k2, k3, k4⟩ := hk
  obtain ⟨h1, h2⟩ := h
  unfold wstep
  by_cases a : p.1 < m
  · have e := h1 a
    rw [if_pos a]
    by_cases b : p.2 + 1 = p.1
    · rw [if_pos b]
      have e3 : (p.1 + 1) * (p.1 + 1 - 1) = p.1 * (p.1 - 1) + 2 * p.1 := by
        rw [show p.1 + 1 - 1 = p.1 by omega, Int.add_mul, Int.mul_sub]; omega
      refine ⟨fun _ => ?_, fun hn => ?_⟩
      · simp only; rw [e3]; omega
      · simp only at hn
        rw [show m = p.1 + 1 by omega, e3]; omega
    · rw [if_neg b]
      exact ⟨fun _ => by simp only; omega, fun hn => absurd a hn⟩
  · rw [if_neg a]
    have := h2 a
    exact ⟨fun hx => absurd hx a, fun _ => by omega⟩

theorem Opened.run {m : Int} (k : Nat) : ∀ {s : Int} {p : Int × Int}, WOk m p → Opened m s p → Opened m (s + k) (wk m k p) := by
  induction k with
  | zero => intro s p _ h; rw [show s + ((0 : Nat) : Int) = s by omega]; exact h
  | succ k ih =>
    intro s p hk h
    have := ih hk.step (h.step hk)
    rw [show s + 1 + (k : Int) = s + ((k + 1 : Nat) : Int) by omega] at this
    exact this

theorem opened_less {m s a : Int} {p : Int × Int} (hk : WOk m p) (h : Opened m s p) (ha0 : 1 ≤ a) (ha : a < p.1) : a * (a + 1) / 2 ≤ s := by
  obtain ⟨k1, k2, k3, k4⟩ := hk
  have h1 : a * (a + 1) ≤ (p.1 - 1) * p.1 := Int.mul_le_mul (by omega) (by omega) (by omega) (by omega)
  have h2 : (p.1 - 1) * p.1 ≤ 2 * s := by
    rw [Int.mul_comm]
    by_cases a : p.1 < m
    · have := h.1 a; omega
    · have := h.2 a; rw [show p.1 = m by omega]; exact this
  omega

theorem opened_stop {m s : Int} {p : Int × Int} (hk : WOk m p) (h : Opened m s p) (hl : p.1 < m) : s < p.1 * (p.1 + 1) / 2 := by
  obtain ⟨k1, k2, k3, k4⟩ := hk
  have e := h.1 hl
  have e3 : p.1 * (p.1 + 1) = p.1 * (p.1 - 1) + 2 * p.1 := by rw [Int.mul_add, Int.mul_sub]; omega
  rw [e3]; omega

theorem prod_bd {a m : Int} (h0 : 1 ≤ a) (h1 : a ≤ m) (h2 : m ≤ 64) : 0 ≤ a * (a + 1) ∧ a * (a + 1) ≤ 4160 := by
  have hx : a * (a + 1) ≤ 64 * 65 := Int.mul_le_mul (by omega) (by omega) (by omega) (by omega)
  have hy : 0 ≤ a * (a + 1) := Int.mul_nonneg (by omega) (by omega)
  omega

set_option maxRecDepth 100000 in
set_option maxHeartbeats 8000000 in
theorem win_opens (w : World) (most : Int) (hw : (Lit.int .u8 most).wf = true) (A : Option Addr) (cap : Nat) (l : List Int) (hm : l.length ≤ 9223372036854775807) (ha : ArgInts .u8 w A l) :
    Calls Try.prog 11 #[.int .u8 most, .slice A l.length cap] w fun e w' => e = .returned (.bool true) ∧ Fr [] w w' := by
  have hw0 := (wf_u8 hw).1
  have hw1 := (wf_u8 hw).2
  clear hw
  by_cases h200 : 200 < l.length
  · go_enter Try.func11, Try.ntmps11
    go_wp2_with fail
    refine (win_awake _).mono ?_
    rintro e w0 ⟨rfl, f0⟩
    go_wp2
    go_ret
    exact ⟨rfl, f0⟩
  obtain ⟨N, hN⟩ : ∃ N, 1 + most % 64 = N := ⟨_, rfl⟩
  have hN1 : 1 ≤ N := by omega
  have hN2 : N ≤ 64 := by omega
  go_enter Try.func11, Try.ntmps11
  go_wp2_with fail
  refine (win_awake _).mono ?_
  rintro e w0 ⟨rfl, f0⟩
  go_wp2_with fail
  refine (win_New_yes N _ hN1 hN2).mono ?_
  rintro e w1 ⟨rfl, i1, f1⟩
  go_wp2_with fail
  refine (win_Now _ _ _ _ _ i1).mono ?_
  rintro e w1' ⟨rfl, rfl⟩
  go_wp2_with fail
  refine (win_Slow _ _ _ _ _ i1 hN1).mono ?_
  rintro e w2 ⟨rfl, i2, g2⟩
  have hB : w.heap.size ≤ w0.heap.size := f0.size
  have fw : Fr [] w w2 := (f0.tr0 f1).trans g2 (by simp; omega)
  clear f0 f1 g2 i1
  generalize w0.heap.size = B at *
  go_wp2
  clear hN
  have hop0 : Opened N 0 (1, 0) := ⟨fun _ => by decide, fun h => by simp only at h; rw [show N = 1 by omega]; decide⟩
  go_loopw [8, 9] (fun s i wr => ∃ (k : Nat) (S : Int) (p : Int × Int), k ≤ l.length ∧ 0 ≤ S ∧ S ≤ 255 * k ∧ s = .int .i64 S ∧ i = .int .i64 k ∧ WOk N p ∧ Opened N S p ∧ IsW wr B N p.1 p.2 ∧ Fr [] w wr) (fun _ i _ => l.length - (intOf i).toNat)
  case atStart => exact ⟨0, 0, (1, 0), by omega, by omega, by omega, rfl, rfl, ⟨by decide, by simp only; omega, by decide, by decide⟩, hop0, i2, fw⟩
  case round =>
    obtain ⟨k, S, p, hk, hS0, hS1, rfl, rfl, hok, hop, hi, hf⟩ := hrel
    by_cases hlt : k < l.length
    · obtain ⟨b, off, x, rfl, hc0, hwx, hx⟩ := ha.at_ k hlt
      have hbB : b ≠ B := by have h := World.block_lt_of_cell? w _ hc0; simp only at h; omega
      have hx0 := (wf_u8 hwx).1
      have hx1 := (wf_u8 hwx).2
      clear hwx hx
      have c0 := hf.cell hc0 (by simp)
      go_wp2_with fail
      refine (win_Acked' _ _ x p _ hi hok hN2 (by omega)).mono ?_
      rintro e x1 ⟨rfl, i3, g1⟩
      have c1 := g1.cell c0 (by simp; exact hbB)
      have hf1 : Fr [] w x1 := hf.trans g1 (by simp; omega)
      have ok2 := hok.run (m := N) x.toNat
      have op2 := Opened.run x.toNat hok hop
      rw [show S + ((x.toNat : Nat) : Int) = S + x by omega] at op2
      generalize wk N x.toNat p = q at *
      clear c0 hi hf hok hop g1
      go_wp2
      obtain ⟨wo, hwo⟩ : ∃ wo : World, wo = x1 := ⟨_, rfl⟩
      rw [← hwo] at i3 c1 hf1 ⊢
      clear hwo
      go_loopw [10] (fun d wy => ∃ a : Int, 1 ≤ a ∧ a ≤ q.1 ∧ d = .int .i64 a ∧ wy = wo) (fun d _ => (q.1 - intOf d).toNat)
      case atStart => exact ⟨1, by omega, ok2.1, rfl, rfl⟩
      case round =>
        obtain ⟨a, ha1, ha2, rfl, rfl⟩ := hrel
        have hq1 := ok2.1
        have hq2 := ok2.2.1
        obtain ⟨hp0, hp1⟩ := prod_bd ha1 (show a ≤ N by omega) hN2
        by_cases haq : a < q.1
        · have haN : a < N := by omega
          have hle := opened_less ok2 op2 ha1 haq
          go_wp2
          go_roundw
          case rel => exact ⟨a + 1, by omega, by omega, rfl, trivial⟩
          case measure => simp [intOf]; omega
        · obtain rfl : a = q.1 := by omega
          by_cases haN : q.1 < N
          · have hst := opened_stop ok2 op2 haN
            have hst' : ¬ q.1 * (q.1 + 1) / 2 ≤ S + x := by omega
            go_wp2_with fail
            refine (win_Now _ _ _ _ _ i3).mono ?_
            rintro e x2 ⟨rfl, rfl⟩
            go_wp2
            go_roundw
            case rel => exact ⟨k + 1, S + x, q, by omega, by omega, by omega, rfl, by go_num, ok2, op2, i3, hf1⟩
            case measure => simp [intOf]; omega
          · go_wp2_with fail
            refine (win_Now _ _ _ _ _ i3).mono ?_
            rintro e x2 ⟨rfl, rfl⟩
            go_wp2
            go_roundw
            case rel => exact ⟨k + 1, S + x, q, by omega, by omega, by omega, rfl, by go_num, ok2, op2, i3, hf1⟩
            case measure => simp [intOf]; omega
    · go_wp2_with fail
      refine (win_Fresh _ _ _ _ _ hi).mono ?_
      rintro e x1 ⟨rfl, i3, g1⟩
      go_wp2_with fail
      refine (win_Now _ _ _ _ _ i3).mono ?_
      rintro e x2 ⟨rfl, rfl⟩
      go_wp2
      go_ret
      exact ⟨rfl, hf.trans g1 (by simp; omega)⟩
end Go.Proofs.Ytlhfdfjjploboaa
