/- Package grid: all rows. -/
import Derived.Test.YtaefahbgeokopaaGridI
namespace Go.Proofs.Ytaefahbgeokopaa
open Go.RowKit Go.Shelf
set_option linter.unusedVariables false
set_option linter.unusedSimpArgs false

def pairsC : Array Value := #[.int .i64 8, .int .i64 11, .int .i64 23, .int .i64 24, .int .i64 29, .int .i64 9, .int .i64 12, .int .i64 25, .int .i64 26, .int .i64 30, .int .i64 10, .int .i64 13, .int .i64 23, .int .i64 24, .int .i64 29]
theorem grid_pairs (w : World) :
    Calls Try.prog 40 #[] w fun r w' => ∃ b, r = .returned (.slice (some ⟨b, 0, none⟩) 3 3) ∧ Blk w' b pairsC 96 ∧ w.heap.size ≤ b ∧ Fr [] w w' := by
  go_enter Try.func40, Try.ntmps40
  go_wp2
  go_ret
  exact ⟨_, rfl, Blk.new _ _ _, Nat.le_refl _, (Fr.refl _ _).alloc _⟩

def rowsL (j : Nat) (T : Tb) : Tb := match j with
  | 0 => T
  | 1 => answersM 8 11 23 24 29 T
  | 2 => answersM 9 12 25 26 30 (answersM 8 11 23 24 29 T)
  | _ => answersM 10 13 23 24 29 (answersM 9 12 25 26 30 (answersM 8 11 23 24 29 T))
def rowsM : Tb := infosM (rowsL 3 (busyM (sharedM (setupM blankM))))

/-- A table that is laid: rows that nothing but itself holds. -/
def IsRows (w : World) (v : Value) : Prop := ∃ g cap bs, v = .slice (some ⟨g, 0, none⟩) 14 cap ∧ IsT w g bs rowsM

set_option maxHeartbeats 2000000 in
set_option maxRecDepth 100000 in
theorem grid_Rows (w : World) :
    Calls Try.prog 33 #[] w fun r w' => ∃ g cap bs, r = .returned (.slice (some ⟨g, 0, none⟩) 14 cap) ∧ IsT w' g bs rowsM ∧ w.heap.size ≤ g ∧ (∀ s, s < 14 → w.heap.size ≤ bs s) ∧ Fr [] w w' := by
  go_enter Try.func33, Try.ntmps33
  go_wp2_with fail
  refine (grid_blank _).mono ?_
  rintro e w1 ⟨g, cap, bs, rfl, hI, hg, hbs, f1⟩
  have h1 : Tab w1 w1 g bs blankM := ⟨hI, Fr.refl _ _⟩
  clear hI
  go_wp2_with fail
  refine (grid_setup _ _ g cap bs _ h1).mono ?_
  rintro e w2 ⟨rfl, h2⟩
  clear h1
  go_wp2_with fail
  refine (grid_shared _ _ g cap bs _ h2).mono ?_
  rintro e w3 ⟨rfl, h3⟩
  clear h2
  go_wp2_with fail
  refine (grid_busy _ _ g cap bs _ h3).mono ?_
  rintro e w4 ⟨rfl, h4⟩
  clear h3
  go_wp2_with fail
  refine (grid_pairs _).mono ?_
  rintro e w5 ⟨b, rfl, hb, hbn, f5⟩
  have hbt : b ∉ tbL bs := fun hm => by have := h4.is.lt _ hm; omega
  have h5 : Tab w1 w5 g bs (busyM (sharedM (setupM blankM))) := ⟨h4.is.fr f5, h4.fr.tr0 f5⟩
  clear h4 f5
  go_wp2
  go_loopw [13] (fun i wr => ∃ j : Nat, i = .int .i64 j ∧ j ≤ 3 ∧ Tab w1 wr g bs (rowsL j (busyM (sharedM (setupM blankM)))) ∧ Blk wr b pairsC 96) (fun i _ => 3 - (intOf i).toNat)
  case atStart => exact ⟨0, rfl, by omega, h5, hb⟩
  case round =>
    obtain ⟨j, rfl, hj, hT, hB⟩ := hrel
    by_cases e0 : j = 0
    · subst e0
      have c0 : wr.cell? ⟨b, 0, none⟩ = some (.int .i64 8) := hB.cell 0 rfl
      have c1 : wr.cell? ⟨b, 1, none⟩ = some (.int .i64 11) := hB.cell 1 rfl
      have c2 : wr.cell? ⟨b, 2, none⟩ = some (.int .i64 23) := hB.cell 2 rfl
      have c3 : wr.cell? ⟨b, 3, none⟩ = some (.int .i64 24) := hB.cell 3 rfl
      have c4 : wr.cell? ⟨b, 4, none⟩ = some (.int .i64 29) := hB.cell 4 rfl
      obtain ⟨wo, rfl⟩ : ∃ wo, wo = wr := ⟨_, rfl⟩
      go_wp2_with fail
      have hB' : Blk (wo.alloc (.cells #[.int .i64 8, .int .i64 11, .int .i64 23, .int .i64 24, .int .i64 29] 96)) b pairsC 96 := hB.alloc _
      refine (grid_answers _ _ g cap bs _ 8 11 23 24 29 ⟨hT.is.fr ((Fr.refl _ _).alloc _), Fr.refl _ _⟩ (by decide) (by decide) (by decide) (by decide) (by decide) (by decide)).mono ?_
      rintro e w6 ⟨rfl, h6'⟩
      have h6 : Tab w1 w6 g bs _ := ⟨h6'.is, (hT.fr.alloc _).tr h6'.fr⟩
      have hB6 := hB'.fr h6'.fr hbt
      clear c0 c1 c2 c3 c4
      go_wp2
      go_roundw
      case rel => exact ⟨1, by simp, by omega, h6, hB6⟩
      case measure => simp [intOf]
    by_cases e1 : j = 1
    · subst e1
      have c0 : wr.cell? ⟨b, 5, none⟩ = some (.int .i64 9) := hB.cell 5 rfl
      have c1 : wr.cell? ⟨b, 6, none⟩ = some (.int .i64 12) := hB.cell 6 rfl
      have c2 : wr.cell? ⟨b, 7, none⟩ = some (.int .i64 25) := hB.cell 7 rfl
      have c3 : wr.cell? ⟨b, 8, none⟩ = some (.int .i64 26) := hB.cell 8 rfl
      have c4 : wr.cell? ⟨b, 9, none⟩ = some (.int .i64 30) := hB.cell 9 rfl
      obtain ⟨wo, rfl⟩ : ∃ wo, wo = wr := ⟨_, rfl⟩
      go_wp2_with fail
      have hB' : Blk (wo.alloc (.cells #[.int .i64 9, .int .i64 12, .int .i64 25, .int .i64 26, .int .i64 30] 96)) b pairsC 96 := hB.alloc _
      refine (grid_answers _ _ g cap bs _ 9 12 25 26 30 ⟨hT.is.fr ((Fr.refl _ _).alloc _), Fr.refl _ _⟩ (by decide) (by decide) (by decide) (by decide) (by decide) (by decide)).mono ?_
      rintro e w6 ⟨rfl, h6'⟩
      have h6 : Tab w1 w6 g bs _ := ⟨h6'.is, (hT.fr.alloc _).tr h6'.fr⟩
      have hB6 := hB'.fr h6'.fr hbt
      clear c0 c1 c2 c3 c4
      go_wp2
      go_roundw
      case rel => exact ⟨2, by simp, by omega, h6, hB6⟩
      case measure => simp [intOf]
    by_cases e2 : j = 2
    · subst e2
      have c0 : wr.cell? ⟨b, 10, none⟩ = some (.int .i64 10) := hB.cell 10 rfl
      have c1 : wr.cell? ⟨b, 11, none⟩ = some (.int .i64 13) := hB.cell 11 rfl
      have c2 : wr.cell? ⟨b, 12, none⟩ = some (.int .i64 23) := hB.cell 12 rfl
      have c3 : wr.cell? ⟨b, 13, none⟩ = some (.int .i64 24) := hB.cell 13 rfl
      have c4 : wr.cell? ⟨b, 14, none⟩ = some (.int .i64 29) := hB.cell 14 rfl
      obtain ⟨wo, rfl⟩ : ∃ wo, wo = wr := ⟨_, rfl⟩
      go_wp2_with fail
      have hB' : Blk (wo.alloc (.cells #[.int .i64 10, .int .i64 13, .int .i64 23, .int .i64 24, .int .i64 29] 96)) b pairsC 96 := hB.alloc _
      refine (grid_answers _ _ g cap bs _ 10 13 23 24 29 ⟨hT.is.fr ((Fr.refl _ _).alloc _), Fr.refl _ _⟩ (by decide) (by decide) (by decide) (by decide) (by decide) (by decide)).mono ?_
      rintro e w6 ⟨rfl, h6'⟩
      have h6 : Tab w1 w6 g bs _ := ⟨h6'.is, (hT.fr.alloc _).tr h6'.fr⟩
      have hB6 := hB'.fr h6'.fr hbt
      clear c0 c1 c2 c3 c4
      go_wp2
      go_roundw
      case rel => exact ⟨3, by simp, by omega, h6, hB6⟩
      case measure => simp [intOf]
    obtain rfl : j = 3 := by omega
    go_wp2_with fail
    refine (grid_infos w1 _ g cap bs _ hT).mono ?_
    rintro e w6 ⟨rfl, h6⟩
    go_wp2
    go_ret
    exact ⟨g, cap, bs, rfl, h6.is, hg, hbs, f1.trans h6.fr (fun x hx => .inr (by obtain ⟨s, hs, rfl⟩ := tbL_mem.1 hx; exact hbs s hs))⟩
end Go.Proofs.Ytaefahbgeokopaa
