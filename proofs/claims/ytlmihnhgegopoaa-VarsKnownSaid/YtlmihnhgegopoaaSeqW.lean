/- The functions of package seq: what each call comes to. No condition on the numbers. -/
import Derived.Test.YtlmihnhgegopoaaProg
import Derived.Test.YtlmihnhgegopoaaFr
import Derived.WalkKit
import Derived.Lib.Hide
import Derived.Outline
namespace Go.Proofs.Ytlmihnhgegopoaa
open Go.RowKit
set_option linter.unusedVariables false
set_option linter.unusedSimpArgs false

theorem tme (a : Int) : Int.tmod a 128 = if 0 ≤ a then a % 128 else -((-a) % 128) := by
  by_cases h : 0 ≤ a
  · rw [if_pos h, Int.tmod_eq_emod_of_nonneg h]
  · rw [if_neg h, ← Int.neg_neg (Int.tmod a 128), ← Int.neg_tmod, Int.tmod_eq_emod_of_nonneg (by omega)]
theorem tm_lo (a : Int) : -128 < Int.tmod a 128 ∧ Int.tmod a 128 < 128 := by rw [tme a]; omega
theorem tm_wrap (a : Int) : Int.tmod (wrap64 (Int.tmod a 128 + 128)) 128 = a % 128 := by
  have := tm_lo a
  rw [show wrap64 (Int.tmod a 128 + 128) = Int.tmod a 128 + 128 by unfold wrap64; omega]
  rw [tme (Int.tmod a 128 + 128), tme a]; omega
theorem tm_plain (a : Int) : Int.tmod (Int.tmod a 128 + 128) 128 = a % 128 := by
  have := tm_lo a
  rw [tme (Int.tmod a 128 + 128), tme a]; omega

theorem ret_int {k : IntKind} {a b : Int} (h : a = b) : Ending.returned (.int k a) = .returned (.int k b) := by rw [h]
theorem ret_bool {a b : Bool} (h : a = b) : Ending.returned (.bool a) = .returned (.bool b) := by rw [h]

theorem seq_rest (a : Int) (w : World) :
    Calls Try.prog 31 #[.int .i64 a] w fun e w' => e = .returned (.int .i64 (a % 128)) ∧ w = w' := by
  go_enter Try.func31, Try.ntmps31
  go_wp2
  go_ret
  exact ⟨ret_int (by rw [tm_wrap]), rfl⟩

theorem seq_fold (b : Nat) (x y : Int) (w : World) (h0 : w.cell? ⟨b, 0, none⟩ = some (.int .i64 x)) (h1 : w.cell? ⟨b, 1, none⟩ = some (.int .i64 y)) :
    Calls Try.prog 30 #[.slice (some ⟨b, 0, none⟩) 2 2] w fun e w' => e = .returned (.int .i64 ((x + y) % 128)) ∧ w = w' := by
  go_enter Try.func30, Try.ntmps30
  go_wp2
  refine wp_loop_rounds 3 ?_
  rw [rounds_succ]
  go_wp2_with (go_at_call 31; refine (seq_rest _ _).mono ?_; rintro e w' ⟨rfl, rfl⟩)
  rw [rounds_succ]
  go_wp2_with (go_at_call 31; refine (seq_rest _ _).mono ?_; rintro e w' ⟨rfl, rfl⟩)
  rw [rounds_succ]
  go_wp2
  go_ret
  exact ⟨ret_int (by omega), rfl⟩

theorem two_cells (w : World) (x y : Value) (t : TypeId) : (w.alloc (.cells #[x, y] t)).cell? ⟨w.heap.size, 0, none⟩ = some x ∧ (w.alloc (.cells #[x, y] t)).cell? ⟨w.heap.size, 1, none⟩ = some y :=
  ⟨(Blk.new w #[x, y] t).cell 0 rfl, (Blk.new w #[x, y] t).cell 1 rfl⟩

theorem seq_Add (a n : Int) (w : World) :
    Calls Try.prog 29 #[.int .i64 a, .int .i64 n] w fun e w' => e = .returned (.int .i64 ((a + n) % 128)) ∧ Fr [] w w' := by
  have hc := two_cells w (.int .i64 a) (.int .i64 n) 3
  go_enter Try.func29, Try.ntmps29
  go_wp2_with (go_at_call 30; refine (seq_fold _ _ _ _ hc.1 hc.2).mono ?_; rintro e w' ⟨rfl, rfl⟩)
  go_ret
  exact ⟨rfl, (Fr.refl _ _).alloc _⟩

theorem seq_Dist (a b : Int) (w : World) :
    Calls Try.prog 24 #[.int .i64 a, .int .i64 b] w fun e w' => e = .returned (.int .i64 ((b - a) % 128)) ∧ Fr [] w w' := by
  have hc := two_cells w (.int .i64 b) (.int .i64 (-(a % 128))) 3
  have hl : 0 ≤ a % 128 := by omega
  have hh : a % 128 < 128 := by omega
  go_enter Try.func24, Try.ntmps24
  go_wp2_with (first | (go_at_call 31; refine (seq_rest _ _).mono ?_; rintro e w' ⟨rfl, rfl⟩) | (go_at_call 30; refine (seq_fold _ _ _ _ hc.1 hc.2).mono ?_; rintro e w' ⟨rfl, rfl⟩))
  go_ret
  exact ⟨ret_int (by omega), (Fr.refl _ _).alloc _⟩

theorem seq_In (x a b : Int) (w : World) :
    Calls Try.prog 23 #[.int .i64 x, .int .i64 a, .int .i64 b] w fun e w' => e = .returned (.bool (decide ((x - a) % 128 ≤ (b - a) % 128))) ∧ Fr [] w w' := by
  go_enter Try.func23, Try.ntmps23
  go_wp2_with fail
  refine (seq_Dist _ _ _).mono ?_; rintro e w1 ⟨rfl, f1⟩
  go_wp2_with fail
  refine (seq_Dist _ _ _).mono ?_; rintro e w2 ⟨rfl, f2⟩
  go_wp2
  go_ret
  exact ⟨rfl, f1.trans f2 (by simp)⟩

end Go.Proofs.Ytlmihnhgegopoaa
