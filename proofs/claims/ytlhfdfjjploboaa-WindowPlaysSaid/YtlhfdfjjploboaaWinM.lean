/- How a window opens, as plain numbers: so many steps. No program. -/
namespace Go.Proofs.Ytlhfdfjjploboaa

/-- One that came through, at a window of at most m. -/
def wstep (m : Int) (p : Int × Int) : Int × Int := if p.1 < m then (if p.2 + 1 = p.1 then (p.1 + 1, 0) else (p.1, p.2 + 1)) else p
def wk (m : Int) : Nat → Int × Int → Int × Int
  | 0, p => p
  | k + 1, p => wk m k (wstep m p)

theorem wk_add (m : Int) (a b : Nat) : ∀ p, wk m (a + b) p = wk m b (wk m a p) := by
  induction a with
  | zero => intro p; rw [Nat.zero_add]; rfl
  | succ a ih => intro p; rw [Nat.succ_add]; exact ih _
theorem wk_full (m : Int) (k : Nat) (p : Int × Int) (h : ¬ p.1 < m) : wk m k p = p := by
  induction k with
  | zero => rfl
  | succ k ih => show wk m k (wstep m p) = p; rw [show wstep m p = p by unfold wstep; rw [if_neg h]]; exact ih

/-- What is so of a window. -/
def WOk (m : Int) (p : Int × Int) : Prop := 1 ≤ p.1 ∧ p.1 ≤ m ∧ 0 ≤ p.2 ∧ p.2 < p.1
theorem WOk.step {m : Int} {p : Int × Int} (h : WOk m p) : WOk m (wstep m p) := by
  obtain ⟨h1, h2, h3, h4⟩ := h
  unfold wstep
  by_cases a : p.1 < m
  · rw [if_pos a]
    by_cases b : p.2 + 1 = p.1
    · rw [if_pos b]; exact ⟨by simp only; omega, by simp only; omega, by simp only; omega, by simp only; omega⟩
    · rw [if_neg b]; exact ⟨by simp only; omega, by simp only; omega, by simp only; omega, by simp only; omega⟩
  · rw [if_neg a]; exact ⟨h1, h2, h3, h4⟩
theorem WOk.run {m : Int} (k : Nat) : ∀ {p : Int × Int}, WOk m p → WOk m (wk m k p) := by
  induction k with
  | zero => intro p h; exact h
  | succ k ih => intro p h; exact ih h.step

/-- It grows, by no more than one a step. -/
theorem wstep_grows {m : Int} {p : Int × Int} : p.1 ≤ (wstep m p).1 ∧ (wstep m p).1 ≤ p.1 + 1 := by
  unfold wstep
  by_cases a : p.1 < m
  · rw [if_pos a]
    by_cases b : p.2 + 1 = p.1
    · rw [if_pos b]; simp only; omega
    · rw [if_neg b]; simp only; omega
  · rw [if_neg a]; omega
theorem wk_grows {m : Int} (k : Nat) : ∀ {p : Int × Int}, p.1 ≤ (wk m k p).1 ∧ (wk m k p).1 ≤ p.1 + k := by
  induction k with
  | zero => intro p; show p.1 ≤ p.1 ∧ p.1 ≤ p.1 + ((0 : Nat) : Int); omega
  | succ k ih =>
    intro p
    have h1 := @wstep_grows m p
    have h2 := @ih (wstep m p)
    show p.1 ≤ (wk m k (wstep m p)).1 ∧ (wk m k (wstep m p)).1 ≤ p.1 + ((k + 1 : Nat) : Int)
    omega
end Go.Proofs.Ytlhfdfjjploboaa
