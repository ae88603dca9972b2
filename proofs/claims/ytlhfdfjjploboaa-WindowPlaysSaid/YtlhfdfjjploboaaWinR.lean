/- The reference's window (chapter 17), and the package's, told by plain steps. -/
import Derived.Test.YtlhfdfjjploboaaWinW
import Derived.Test.YtlhfdfjjploboaaWinM
namespace Go.Proofs.Ytlhfdfjjploboaa
open Go.RowKit Go.Shelf
set_option linter.unusedVariables false
set_option linter.unusedSimpArgs false

theorem wfin_wk (m n : Int) : ∀ (k : Nat) (s : WS), (n - s.i).toNat = k → (wfin m n k s).d = (wk m k (s.d, s.c)).1 ∧ (wfin m n k s).c = (wk m k (s.d, s.c)).2
  | 0, s, _ => ⟨rfl, rfl⟩
  | k + 1, s, hk => by
    simp only [wfin]
    by_cases h : s.d < m
    · rw [if_pos ⟨by omega, h⟩]
      have ih := wfin_wk m n k s.next (by rw [WS.next_i]; omega)
      have e : wstep m (s.d, s.c) = (s.next.d, s.next.c) := by
        unfold wstep WS.next
        simp only [if_pos h]
        by_cases b : s.c + 1 = s.d
        · rw [if_pos b, if_pos b]
        · rw [if_neg b, if_neg b]
      show _ = (wk m k (wstep m (s.d, s.c))).1 ∧ _ = (wk m k (wstep m (s.d, s.c))).2
      rw [e]; exact ih
    · rw [if_neg (fun x => h x.2), wk_full m (k + 1) (s.d, s.c) h]; exact ⟨rfl, rfl⟩

theorem win_Acked' (b : Nat) (m n : Int) (p : Int × Int) (w : World) (h : IsW w b m p.1 p.2) (hp : WOk m p) (hm : m ≤ 64) (hn : n ≤ 4611686018427387904) :
    Calls Try.prog 26 #[.pointer (some ⟨b, 0, none⟩), .int .i64 n] w fun e w' => e = .returned (.tuple #[]) ∧ IsW w' b m (wk m n.toNat p).1 (wk m n.toNat p).2 ∧ Fr [b] w w' := by
  obtain ⟨h1, h2, h3, h4⟩ := hp
  refine (win_Acked b m p.1 p.2 n w h hm (by omega) h3 (by omega) hn).mono ?_
  rintro e w' ⟨he, hi, hf⟩
  have := wfin_wk m n n.toNat ⟨p.1, p.2, 0⟩ (by simp only; omega)
  unfold ackedW at hi
  rw [this.1, this.2] at hi
  exact ⟨he, hi, hf⟩

theorem ref_New_no (n : Int) (w : World) (hn : n < 1 ∨ 64 < n) :
    Calls Try.prog 27 #[.int .i64 n] w fun e w' => e = .returned (.tuple #[.pointer none, .int .i64 1]) ∧ w = w' := by
  rcases hn with hn | hn
  · go_enter Try.func27, Try.ntmps27
    go_wp2
    go_ret2
    exact ⟨rfl, rfl⟩
  · have h1 : ¬ n < 1 := by omega
    have h2 : decide (n < 1) = false := by simpa using h1
    go_enter Try.func27, Try.ntmps27
    go_wp2
    go_ret2
    exact ⟨rfl, rfl⟩

theorem ref_New_yes (n : Int) (w : World) (h1 : 1 ≤ n) (h2 : n ≤ 64) :
    Calls Try.prog 27 #[.int .i64 n] w fun e w' => e = .returned (.tuple #[.pointer (some ⟨w.heap.size, 0, none⟩), .int .i64 0]) ∧ IsM w' w.heap.size n n 0 ∧ Fr [] w w' ∧ w.heap.size < w'.heap.size := by
  have d1 : decide (n < 1) = false := by simp; omega
  have d2 : decide (64 < n) = false := by simp; omega
  go_enter Try.func27, Try.ntmps27
  go_wp2
  go_ret2
  exact ⟨rfl, Blk.new _ _ _, (Fr.refl _ _).alloc _, by simp⟩

theorem ref_Slow (b : Nat) (m d c : Int) (w : World) (h : IsM w b m d c) :
    Calls Try.prog 28 #[.pointer (some ⟨b, 0, none⟩)] w fun e w' => e = .returned (.tuple #[]) ∧ IsM w' b m 1 0 ∧ Fr [b] w w' := by
  have h1 := h.c1
  have h2 := h.c2
  have f1 := h.f 1
  have f2 := h.f 2
  go_enter Try.func28, Try.ntmps28
  go_wp2
  go_end0
  exact ⟨rfl, (h.s1 _).s2 _, ((Fr.refl _ _).set1 _ _).set1 _ _⟩

theorem ref_Fresh (b : Nat) (m d c : Int) (w : World) (h : IsM w b m d c) :
    Calls Try.prog 31 #[.pointer (some ⟨b, 0, none⟩)] w fun e w' => e = .returned (.tuple #[]) ∧ IsM w' b m m 0 ∧ Fr [b] w w' := by
  have h0 := h.c0
  have h1 := h.c1
  have h2 := h.c2
  have f1 := h.f 1
  have f2 := h.f 2
  go_enter Try.func31, Try.ntmps31
  go_wp2
  go_end0
  exact ⟨rfl, (h.s1 _).s2 _, ((Fr.refl _ _).set1 _ _).set1 _ _⟩

set_option maxHeartbeats 2000000 in
theorem ref_AckedW (b : Nat) (m n : Int) (p : Int × Int) (w : World) (h : IsM w b m p.1 p.2) (hp : WOk m p) (hm : m ≤ 64) (hn : n ≤ 4611686018427387904) :
    Calls Try.prog 29 #[.pointer (some ⟨b, 0, none⟩), .int .i64 n] w fun e w' => e = .returned (.tuple #[]) ∧ IsM w' b m (wk m n.toNat p).1 (wk m n.toNat p).2 ∧ Fr [b] w w' := by
  obtain ⟨R, hR⟩ : ∃ R, wk m n.toNat p = R := ⟨_, rfl⟩
  rw [hR]
  have hR' : wk m (n - 0).toNat p = R := by rw [← hR]; congr 1; omega
  clear hR
  go_enter Try.func29, Try.ntmps29
  go_wp2
  go_loopw [4] (fun i wr => ∃ (j : Int) (d c : Int), i = .int .i64 j ∧ 0 ≤ j ∧ IsM wr b m d c ∧ WOk m (d, c) ∧ wk m (n - j).toNat (d, c) = R ∧ Fr [b] w wr) (fun i _ => (n - intOf i).toNat)
  case atStart => exact ⟨0, p.1, p.2, rfl, by omega, h, hp, hR', Fr.refl _ _⟩
  case round =>
    obtain ⟨j, d, c, rfl, hj, hi, hok, hw, hf⟩ := hrel
    have c0 := hi.c0
    have c1 := hi.c1
    have c2 := hi.c2
    have f1 := hi.f 1
    have f2 := hi.f 2
    obtain ⟨o1, o2, o3, o4⟩ := hok
    simp only at o1 o2 o3 o4
    have HW := Lib.hid hw
    clear hw
    by_cases h1 : j < n
    · have d1 : decide (j < n) = true := by simpa using h1
      by_cases h2 : d < m
      · have d2 : decide (d < m) = true := by simpa using h2
        go_wp2
        go_quiet (fail)
        go_wp2
        by_cases h3 : c + 1 = d
        · have h3' : d ≤ c + 1 := by omega
          have H3 := Lib.hid h3
          clear h3
          go_quiet (fail)
          go_wp2
          go_roundw
          case rel =>
            refine ⟨j + 1, d + 1, 0, rfl, by omega, (((hi.s2 (c + 1)).s1 (d + 1)).s2 0), ⟨by simp only; omega, by simp only; omega, by simp only; omega, by simp only; omega⟩, ?_, ?_⟩
            · rw [← HW.out, show (n - j).toNat = (n - (j + 1)).toNat + 1 by omega]
              show _ = wk m _ (wstep m (d, c))
              unfold wstep; simp only [if_pos h2, if_pos H3.out]
            · exact ((((hf.drewN _).set1 _ _).drewN _).set1 _ _).set1 _ _
          case measure => simp [intOf]; omega
        · have h3' : ¬ d ≤ c + 1 := by omega
          have H3 := Lib.hid h3
          clear h3
          go_quiet (fail)
          go_wp2
          go_roundw
          case rel =>
            refine ⟨j + 1, d, c + 1, rfl, by omega, hi.s2 (c + 1), ⟨by simp only; omega, by simp only; omega, by simp only; omega, by simp only; omega⟩, ?_, ?_⟩
            · rw [← HW.out, show (n - j).toNat = (n - (j + 1)).toNat + 1 by omega]
              show _ = wk m _ (wstep m (d, c))
              unfold wstep; simp only [if_pos h2, if_neg H3.out]
            · exact ((hf.drewN _).set1 _ _).drewN _
          case measure => simp [intOf]; omega
      · have d2 : decide (d < m) = false := by simpa using h2
        go_wp2
        go_quiet (fail)
        go_wp2
        go_end0
        rw [wk_full m _ (d, c) (by simp only; omega)] at HW
        rw [← HW.out]
        exact ⟨rfl, hi, hf.drewN _⟩
    · have d1 : decide (j < n) = false := by simpa using h1
      go_wp2
      go_quiet (fail)
      go_wp2
      go_end0
      rw [show (n - j).toNat = 0 by omega] at HW
      rw [← HW.out]
      exact ⟨rfl, hi, hf.drewN _⟩
end Go.Proofs.Ytlhfdfjjploboaa
