/- For any three numbers, adding, how far, which is ahead, and what lies between answer as the reference does. No condition. -/
import Derived.Test.YtlhfdfjjploboaaPSeqNumbersx1
namespace Go.Proofs.Ytlhfdfjjploboaa.Pure
open Go.RowKit Go.Proofs.Ytlhfdfjjploboaa.PSeqNumbers Go.Proofs.YtlhfdfjjploboaaW.PrintWords Go.Proofs.YtlhfdfjjploboaaW.PrintLast
set_option linter.unusedSimpArgs false

theorem w64 {x : Int} (h0 : -9223372036854775808 ≤ x) (h1 : x ≤ 9223372036854775807) : wrap64 x = x := by
  unfold wrap64; omega

theorem tme (a : Int) : Int.tmod a 128 = if 0 ≤ a then a % 128 else -((-a) % 128) := by
  by_cases h : 0 ≤ a
  · rw [if_pos h, Int.tmod_eq_emod_of_nonneg h]
  · rw [if_neg h, ← Int.neg_neg (Int.tmod a 128), ← Int.neg_tmod, Int.tmod_eq_emod_of_nonneg (by omega)]

theorem tm (a : Int) : Int.tmod (Int.tmod a 128 + 128) 128 = a % 128 := by
  rw [tme (Int.tmod a 128 + 128), tme a]; omega

theorem tm_lo (a : Int) : -128 < Int.tmod a 128 ∧ Int.tmod a 128 < 128 := by
  rw [tme a]; omega

theorem rest_eq (a : Int) : seq_rest_int.f a = some (a % 128) := by
  have := tm_lo a
  unfold seq_rest_int.f
  rw [w64 (by omega) (by omega), tm]

theorem rd0 (a b : Int) : rd [a, b] 0 = a := rfl
theorem rd1 (a b : Int) : rd [a, b] 1 = b := rfl

theorem fold_eq (k : Nat) (a b : Int) : seq_fold_int.f (k + 3) [a, b] = some ((a + b) % 128) := by
  unfold seq_fold_int.f
  have e2 : (([a, b] : List Int).length : Int) = 2 := rfl
  rw [e2]
  simp only [seq_fold_int.l0]
  rw [if_pos (by omega), if_pos (by omega), e2, if_pos (by omega), rd0, rest_eq]; simp only [Option.bind_some]
  rw [w64 (x := 0 + a % 128) (by omega) (by omega), rest_eq]; simp only [Option.bind_some]
  rw [w64 (x := 0 + 1) (by omega) (by omega)]
  rw [if_pos (by omega), if_pos (by omega), if_pos (by omega), show (0 + 1 : Int) = 1 from rfl, rd1, rest_eq]; simp only [Option.bind_some]
  rw [w64 (x := (0 + a % 128) % 128 + b % 128) (by omega) (by omega), rest_eq]; simp only [Option.bind_some]
  rw [w64 (x := 1 + 1) (by omega) (by omega)]
  rw [if_neg (by omega)]
  congr 1; omega

theorem add_eq (k : Nat) (a n : Int) : seq_Add.f (k + 3) a n = some ((a + n) % 128) := by
  unfold seq_Add.f; rw [fold_eq]; rfl

theorem dist_eq (k : Nat) (a b : Int) : seq_Dist.f (k + 3) a b = some ((b - a) % 128) := by
  unfold seq_Dist.f; rw [rest_eq]; simp only [Option.bind_some]
  rw [w64 (by omega) (by omega), fold_eq]; simp only [Option.bind_some]
  congr 1; omega

theorem awake_eq (k : Nat) : antiphonlaw9_awake.f (k + 3) = some true := by
  unfold antiphonlaw9_awake.f
  rw [add_eq]; simp only [Option.bind_some]
  rw [dist_eq]; simp

theorem less_eq (k : Nat) (a b : Int) : seq_Less.f (k + 3) a b = some (if (b - a) % 128 = 0 then 0 else if (b - a) % 128 < 64 then -1 else 1) := by
  unfold seq_Less.f; rw [dist_eq]; simp only [Option.bind_some]
  by_cases h : (b - a) % 128 = 0
  · rw [if_pos h, if_pos h]
  · rw [if_neg h, if_neg h]
    by_cases h2 : (b - a) % 128 < 64
    · rw [if_pos h2, if_pos h2]
    · rw [if_neg h2, if_neg h2]

theorem in_eq (k : Nat) (x a b : Int) : seq_In.f (k + 3) x a b = some (decide ((x - a) % 128 ≤ (b - a) % 128)) := by
  unfold seq_In.f; rw [dist_eq]; simp only [Option.bind_some]
  rw [dist_eq]; simp only [Option.bind_some]

theorem radd_eq (a n : Int) : antiphonref1_Add.f a n = some ((a + n) % 128) := by
  have h1 := tm_lo a
  have h2 := tm_lo n
  unfold antiphonref1_Add.f
  have h3 := tm_lo (Int.tmod a 128 + Int.tmod n 128)
  rw [w64 (x := Int.tmod a 128 + Int.tmod n 128) (by omega) (by omega), w64 (by omega) (by omega), tm]
  congr 1; rw [tme a, tme n]; omega

theorem rdist_eq (a b : Int) : antiphonref1_Dist.f a b = some ((b - a) % 128) := by
  have h1 := tm_lo a
  have h2 := tm_lo b
  unfold antiphonref1_Dist.f
  have h3 := tm_lo (Int.tmod b 128 - Int.tmod a 128)
  rw [w64 (x := Int.tmod b 128 - Int.tmod a 128) (by omega) (by omega), w64 (by omega) (by omega), tm]
  congr 1; rw [tme a, tme b]; omega

theorem rless_eq (a b : Int) : antiphonref1_Less.f a b = some (if (b - a) % 128 = 0 then 0 else if (b - a) % 128 < 64 then -1 else 1) := by
  unfold antiphonref1_Less.f; rw [rdist_eq]; simp only [Option.bind_some]
  by_cases h : (b - a) % 128 = 0
  · rw [if_pos h, if_pos h]
  · rw [if_neg h, if_neg h]
    by_cases h2 : (b - a) % 128 < 64
    · rw [if_pos h2, if_pos h2]
    · rw [if_neg h2, if_neg h2]

theorem rin_eq (x a b : Int) : antiphonref1_In.f x a b = some (decide ((x - a) % 128 ≤ (b - a) % 128)) := by
  unfold antiphonref1_In.f; rw [rdist_eq]; simp only [Option.bind_some]
  rw [rdist_eq]; simp only [Option.bind_some]

theorem SeqNumbers : antiphonlaw9_SeqNumbers.Pure := by
  intro a b c _ _ _
  refine ⟨3, ?_⟩
  have key : antiphonlaw9_SeqNumbers.f (0 + 3) a b c = some true := by
    unfold antiphonlaw9_SeqNumbers.f
    simp [awake_eq, add_eq, dist_eq, less_eq, in_eq, radd_eq, rdist_eq, rless_eq, rin_eq]
  exact key

end Go.Proofs.Ytlhfdfjjploboaa.Pure
