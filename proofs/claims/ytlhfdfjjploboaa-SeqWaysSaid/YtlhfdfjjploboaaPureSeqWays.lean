/- For any three numbers of the ring: up by how far it is one comes there; there and back is once round or nothing; what lies between is what one comes by. No condition. -/
import Derived.Test.YtlhfdfjjploboaaPSeqWaysx1
namespace Go.Proofs.Ytlhfdfjjploboaa.Pure
open Go.RowKit Go.Proofs.Ytlhfdfjjploboaa.PSeqWays Go.Proofs.YtlhfdfjjploboaaW.PrintWords Go.Proofs.YtlhfdfjjploboaaW.PrintLast
set_option linter.unusedSimpArgs false

theorem w64 {x : Int} (h0 : -9223372036854775808 ≤ x) (h1 : x ≤ 9223372036854775807) : wrap64 x = x := by
  unfold wrap64; omega

theorem tme (a : Int) : Int.tmod a 128 = if 0 ≤ a then a % 128 else -((-a) % 128) := by
  by_cases h : 0 ≤ a
  · rw [if_pos h, Int.tmod_eq_emod_of_nonneg h]
  · rw [if_neg h, ← Int.neg_neg (Int.tmod a 128), ← Int.neg_tmod, Int.tmod_eq_emod_of_nonneg (by omega)]

theorem tm (a : Int) : Int.tmod (Int.tmod a 128 + 128) 128 = a % 128 := by
  rw [tme (Int.tmod a 128 + 128), tme a]; omega

theorem tm_lo (a : Int) : -128 < Int.tmod a 128 ∧ Int.tmod a 128 < 128 := by
  rw [tme a]; omega

theorem rest_eq (a : Int) : seq_rest_int.f a = some (a % 128) := by
  have := tm_lo a
  unfold seq_rest_int.f
  rw [w64 (by omega) (by omega), tm]

theorem rd0 (a b : Int) : rd [a, b] 0 = a := rfl
theorem rd1 (a b : Int) : rd [a, b] 1 = b := rfl

theorem fold_eq (k : Nat) (a b : Int) : seq_fold_int.f (k + 3) [a, b] = some ((a + b) % 128) := by
  unfold seq_fold_int.f
  have e2 : (([a, b] : List Int).length : Int) = 2 := rfl
  rw [e2]
  simp only [seq_fold_int.l0]
  rw [if_pos (by omega), if_pos (by omega), e2, if_pos (by omega), rd0, rest_eq]; simp only [Option.bind_some]
  rw [w64 (x := 0 + a % 128) (by omega) (by omega), rest_eq]; simp only [Option.bind_some]
  rw [w64 (x := 0 + 1) (by omega) (by omega)]
  rw [if_pos (by omega), if_pos (by omega), if_pos (by omega), show (0 + 1 : Int) = 1 from rfl, rd1, rest_eq]; simp only [Option.bind_some]
  rw [w64 (x := (0 + a % 128) % 128 + b % 128) (by omega) (by omega), rest_eq]; simp only [Option.bind_some]
  rw [w64 (x := 1 + 1) (by omega) (by omega)]
  rw [if_neg (by omega)]
  congr 1; omega

theorem add_eq (k : Nat) (a n : Int) : seq_Add.f (k + 3) a n = some ((a + n) % 128) := by
  unfold seq_Add.f; rw [fold_eq]; rfl

theorem dist_eq (k : Nat) (a b : Int) : seq_Dist.f (k + 3) a b = some ((b - a) % 128) := by
  unfold seq_Dist.f; rw [rest_eq]; simp only [Option.bind_some]
  rw [w64 (by omega) (by omega), fold_eq]; simp only [Option.bind_some]
  congr 1; omega

theorem awake_eq (k : Nat) : antiphonlaw9_awake.f (k + 3) = some true := by
  unfold antiphonlaw9_awake.f
  rw [add_eq]; simp only [Option.bind_some]
  rw [dist_eq]; simp

theorem less_eq (k : Nat) (a b : Int) : seq_Less.f (k + 3) a b = some (if (b - a) % 128 = 0 then 0 else if (b - a) % 128 < 64 then -1 else 1) := by
  unfold seq_Less.f; rw [dist_eq]; simp only [Option.bind_some]
  by_cases h : (b - a) % 128 = 0
  · rw [if_pos h, if_pos h]
  · rw [if_neg h, if_neg h]
    by_cases h2 : (b - a) % 128 < 64
    · rw [if_pos h2, if_pos h2]
    · rw [if_neg h2, if_neg h2]

theorem in_eq (k : Nat) (x a b : Int) : seq_In.f (k + 3) x a b = some (decide ((x - a) % 128 ≤ (b - a) % 128)) := by
  unfold seq_In.f; rw [dist_eq]; simp only [Option.bind_some]
  rw [dist_eq]; simp only [Option.bind_some]

theorem mask127 (x : Int) (h0 : 0 ≤ x) (h1 : x < 256) : Go.bits .and .i64 x 127 = x % 128 :=
  bits_mask .i64 8 (by decide) (fun n h0 h1 => by rw [IntKind.wrap_i64]; omega) 7 (by decide) x h0 h1

theorem less_of (k : Nat) (a b v : Int) (h : (if (b - a) % 128 = 0 then (0 : Int) else if (b - a) % 128 < 64 then -1 else 1) = v) : seq_Less.f (k + 3) a b = some v := by
  rw [less_eq, h]

theorem in_of (k : Nat) (x a b : Int) (v : Bool) (h : decide ((x - a) % 128 ≤ (b - a) % 128) = v) : seq_In.f (k + 3) x a b = some v := by
  rw [in_eq, h]

/-- What the loop over the steps comes to. -/
theorem loop_eq (x y z : Int) (x0 : 0 ≤ x) (x1 : x < 128) (y0 : 0 ≤ y) (y1 : y < 128) (z0 : 0 ≤ z) (z1 : z < 128) (d : Nat) : ∀ (k : Nat) (by_ : Bool) (i : Int), 0 ≤ i → i ≤ (y - x) % 128 + 1 → (y - x) % 128 + 1 - i = d → d < k →
    (by_ = decide ((z - x) % 128 < i)) →
    antiphonlaw9_SeqWays.l0 (k + 3) x y z ((y - x) % 128) ((y - x) % 128 + (x - y) % 128) by_ i = some true := by
  induction d with
  | zero =>
    intro k b i h0 h1 hd hk hb
    obtain ⟨k, rfl⟩ : ∃ m, k = m + 1 := ⟨k - 1, by omega⟩
    have e : k + 1 + 3 = (k + 3) + 1 := by omega
    rw [e]
    simp only [antiphonlaw9_SeqWays.l0]
    have hin : seq_In.f (k + 3) z x y = some b := in_of _ _ _ _ _ (by rw [hb]; apply decide_eq_decide.2; omega)
    have hinx : seq_In.f (k + 3) x x y = some true := in_of _ _ _ _ _ (by rw [decide_eq_true_iff]; omega)
    have hiny : seq_In.f (k + 3) y x y = some true := in_of _ _ _ _ _ (by rw [decide_eq_true_iff]; omega)
    rw [if_neg (by omega), add_eq, Option.bind_some, if_pos (by omega)]
    have tail : (if (y - x) % 128 = 64 then some true else (seq_Less.f (k + 3) x y).bind fun t127 => (seq_Less.f (k + 3) y x).bind fun t128 => some (t127 == wrap64 (-t128))) = some true := by
      by_cases h : (y - x) % 128 = 64
      · rw [if_pos h]
      · rw [if_neg h, less_eq, Option.bind_some, less_eq, Option.bind_some]
        by_cases h2 : x = y
        · subst h2; simp [wrap64]
        · rw [if_neg (show ¬ (y - x) % 128 = 0 by omega), if_neg (show ¬ (x - y) % 128 = 0 by omega)]
          by_cases h3 : (y - x) % 128 < 64
          · rw [if_pos h3, if_neg (show ¬ (x - y) % 128 < 64 by omega)]; simp [wrap64]
          · rw [if_neg h3, if_pos (show (x - y) % 128 < 64 by omega)]; simp [wrap64]
    by_cases h2 : x = y
    · rw [if_pos (by omega), if_pos h2, hin, Option.bind_some, if_pos (by simp), hinx, Option.bind_some, if_pos rfl, hiny, Option.bind_some, if_pos rfl]; exact tail
    · rw [if_neg (by omega), if_pos (by omega), if_neg h2, hin, Option.bind_some, if_pos (by simp), hinx, Option.bind_some, if_pos rfl, hiny, Option.bind_some, if_pos rfl]; exact tail
  | succ d ih =>
    intro k b i h0 h1 hd hk hb
    obtain ⟨k, rfl⟩ : ∃ m, k = m + 1 := ⟨k - 1, by omega⟩
    have e : k + 1 + 3 = (k + 3) + 1 := by omega
    rw [e]
    simp only [antiphonlaw9_SeqWays.l0]
    rw [if_pos (by omega), w64 (x := i + 1) (by omega) (by omega)]
    cases b with
    | true =>
      rw [if_pos rfl]
      exact ih k true (i + 1) (by omega) (by omega) (by omega) (by omega) (by symm; rw [decide_eq_true_iff]; have := decide_eq_true_iff.1 hb.symm; omega)
    | false =>
      rw [if_neg (by decide), add_eq, Option.bind_some]
      refine ih k _ (i + 1) (by omega) (by omega) (by omega) (by omega) ?_
      have := decide_eq_false_iff_not.1 hb.symm
      rw [Bool.eq_iff_iff]; simp only [beq_iff_eq, decide_eq_true_eq]; omega

theorem SeqWays : antiphonlaw9_SeqWays.Pure := by
  intro a m n ha hm hn
  refine ⟨200 + 3, ?_⟩
  simp only [Lit.wf, IntKind.min, IntKind.max, IntKind.signed, IntKind.bits, Bool.and_eq_true, decide_eq_true_eq, if_true] at ha hm hn
  have ha' : 0 ≤ a ∧ a ≤ 255 := by simpa using ha
  have hm' : 0 ≤ m ∧ m ≤ 255 := by simpa using hm
  have hn' : 0 ≤ n ∧ n ≤ 255 := by simpa using hn
  clear ha hm hn
  obtain ⟨a0, a1⟩ := ha'
  obtain ⟨m0, m1⟩ := hm'
  obtain ⟨n0, n1⟩ := hn'
  unfold antiphonlaw9_SeqWays.f
  rw [awake_eq, Option.bind_some, if_pos rfl]
  rw [w64 (x := a) (by omega) (by omega), w64 (x := m) (by omega) (by omega), w64 (x := n) (by omega) (by omega), mask127 a a0 (by omega), mask127 m m0 (by omega), mask127 n n0 (by omega)]
  rw [dist_eq, Option.bind_some, dist_eq, Option.bind_some, Option.bind_some, w64 (by omega) (by omega)]
  exact loop_eq (a % 128) (m % 128) (n % 128) (by omega) (by omega) (by omega) (by omega) (by omega) (by omega) ((m % 128 - a % 128) % 128 + 1).toNat 200 false 0 (by omega) (by omega) (by omega) (by omega) (by symm; rw [decide_eq_false_iff_not]; omega)

end Go.Proofs.Ytlhfdfjjploboaa.Pure
