
/- The reference's SAPs, of which none is active: each deed answers some number, and writes the one block alone. -/
import Derived.Test.YtgmpikaibeenmaaSapsL
namespace Go.Proofs.Ytgmpikaibeenmaa
open Go.RowKit Go.Shelf Go.ChangeMaps
set_option linter.unusedVariables false
set_option linter.unusedSimpArgs false
set_option maxRecDepth 100000

theorem r_Sap (n : Int) (w : World) :
    Calls Try.prog 35 #[.int .i64 n] w fun e w' => e = .returned (.bool (sapB n)) ∧ w = w' := by
  unfold sapB
  by_cases h1 : 2 ≤ n
  · have d1 : decide (2 ≤ n) = true := by simpa using h1
    by_cases h2 : n ≤ 254
    · have d2 : decide (n ≤ 254) = true := by simpa using h2
      by_cases h3 : n % 2 = 0
      · have d3 : decide (n % 2 = 0) = true := by simpa using h3
        have e3 : (n % 2 == 0) = true := by simpa using h3
        rw [d1, d2, d3]
        clear h3
        go_enter Try.func35, Try.ntmps35
        go_wp2
        go_ret
        exact ⟨rfl, rfl⟩
      · have d3 : decide (n % 2 = 0) = false := by simpa using h3
        have e3 : (n % 2 == 0) = false := by simpa using h3
        rw [d1, d2, d3]
        clear h3
        go_enter Try.func35, Try.ntmps35
        go_wp2
        go_ret
        exact ⟨rfl, rfl⟩
    · have d2 : decide (n ≤ 254) = false := by simpa using h2
      rw [d1, d2]
      go_enter Try.func35, Try.ntmps35
      go_wp2
      go_ret
      exact ⟨rfl, rfl⟩
  · have d1 : decide (2 ≤ n) = false := by simpa using h1
    rw [d1]
    go_enter Try.func35, Try.ntmps35
    go_wp2
    go_ret
    exact ⟨rfl, rfl⟩

theorem r_group (n : Int) (w : World) :
    Calls Try.prog 59 #[.int .i64 n] w fun e w' => e = .returned (.bool (groupB n)) ∧ w = w' := by
  unfold groupB
  by_cases h1 : 1 ≤ n
  · have d1 : decide (1 ≤ n) = true := by simpa using h1
    by_cases h2 : n ≤ 253
    · have d2 : decide (n ≤ 253) = true := by simpa using h2
      by_cases h3 : n % 2 = 1
      · have d3 : decide (n % 2 = 1) = true := by simpa using h3
        have e3 : (n % 2 == 1) = true := by simpa using h3
        rw [d1, d2, d3]
        clear h3
        go_enter Try.func59, Try.ntmps59
        go_wp2
        go_ret
        exact ⟨rfl, rfl⟩
      · have d3 : decide (n % 2 = 1) = false := by simpa using h3
        have e3 : (n % 2 == 1) = false := by simpa using h3
        rw [d1, d2, d3]
        clear h3
        go_enter Try.func59, Try.ntmps59
        go_wp2
        go_ret
        exact ⟨rfl, rfl⟩
    · have d2 : decide (n ≤ 253) = false := by simpa using h2
      rw [d1, d2]
      go_enter Try.func59, Try.ntmps59
      go_wp2
      go_ret
      exact ⟨rfl, rfl⟩
  · have d1 : decide (1 ≤ n) = false := by simpa using h1
    rw [d1]
    go_enter Try.func59, Try.ntmps59
    go_wp2
    go_ret
    exact ⟨rfl, rfl⟩


theorem own_sl {w : World} {B : Nat} {e : TypeId} {z n : Nat} {v : Value} {xs : List Value} (h : w.ownsRow B e z v n xs) : ∃ s : Sl, v = .slice s.A s.n s.c := by
  rcases h.2 with ⟨e, _⟩ | ⟨g, cap, cur, e, _⟩
  · exact ⟨Sl.nil, e⟩
  · exact ⟨⟨_, _, _⟩, e⟩
def Emp (w : World) (q : Nat) : Prop := w.cell? ⟨q, 0, none⟩ = some (.slice none 0 0) ∧ w.frozen? ⟨q, 0, none⟩ = false

theorem r_at0 (w : World) (q : Nat) (n : Int) (h : Emp w q) :
    Calls Try.prog 41 #[.pointer (some ⟨q, 0, none⟩), .int .i64 n] w fun e w' => e = .returned (.int .i64 (-1)) ∧ w = w' := by
  obtain ⟨c0, _⟩ := h
  go_enter Try.func41, Try.ntmps41
  go_wp2
  go_loopw [5] (fun i wr => i = .int .i64 0 ∧ wr = w) (fun _ _ => 0)
  case atStart => exact ⟨rfl, rfl⟩
  case round =>
    obtain ⟨rfl, rfl⟩ := hrel
    go_wp2
    go_ret
    exact ⟨rfl, rfl⟩

theorem r_Close0 (w : World) (q : Nat) (n : Int) (h : Emp w q) :
    Calls Try.prog 51 #[.pointer (some ⟨q, 0, none⟩), .int .i64 n] w fun e w' => (∃ x, e = .returned (.int .i64 x)) ∧ Fr [q] w w' := by
  go_enter Try.func51, Try.ntmps51
  go_wp2_with fail
  refine (r_at0 _ q n h).mono ?_
  rintro e w' ⟨rfl, rfl⟩
  go_wp2
  go_ret
  exact ⟨⟨_, rfl⟩, Fr.refl _ _⟩

theorem r_Join0 (w : World) (q : Nat) (n g : Int) (h : Emp w q) :
    Calls Try.prog 53 #[.pointer (some ⟨q, 0, none⟩), .int .i64 n, .int .i64 g] w fun e w' => (∃ x, e = .returned (.int .i64 x)) ∧ Fr [q] w w' := by
  cases hg : groupB g
  all_goals
    have HG := Lib.hid hg
    clear hg
    go_enter Try.func53, Try.ntmps53
    go_wp2_with fail
    refine (r_at0 _ q n h).mono ?_
    rintro e w' ⟨rfl, rfl⟩
    go_wp2_with fail
    refine (r_group g _).mono ?_
    rintro e w' ⟨rfl, rfl⟩
    rw [HG.out]
    go_wp2
    go_ret
    exact ⟨⟨_, rfl⟩, Fr.refl _ _⟩

theorem r_Leave0 (w : World) (q : Nat) (n g : Int) (h : Emp w q) :
    Calls Try.prog 55 #[.pointer (some ⟨q, 0, none⟩), .int .i64 n, .int .i64 g] w fun e w' => (∃ x, e = .returned (.int .i64 x)) ∧ Fr [q] w w' := by
  cases hg : groupB g
  all_goals
    have HG := Lib.hid hg
    clear hg
    go_enter Try.func55, Try.ntmps55
    go_wp2_with fail
    refine (r_at0 _ q n h).mono ?_
    rintro e w' ⟨rfl, rfl⟩
    go_wp2_with fail
    refine (r_group g _).mono ?_
    rintro e w' ⟨rfl, rfl⟩
    rw [HG.out]
    go_wp2
    go_ret
    exact ⟨⟨_, rfl⟩, Fr.refl _ _⟩

theorem r_Open0 (w : World) (q : Nat) (n c : Int) (h : Emp w q) :
    Calls Try.prog 49 #[.pointer (some ⟨q, 0, none⟩), .int .i64 n, .int .i64 c] w fun e w' => (∃ x, e = .returned (.int .i64 x)) ∧ Fr [q] w w' := by
  cases hs : sapB n with
  | false =>
    have HS := Lib.hid hs
    clear hs
    go_enter Try.func49, Try.ntmps49
    go_wp2_with fail
    refine (r_Sap n _).mono ?_
    rintro e w' ⟨rfl, rfl⟩
    rw [HS.out]
    go_wp2
    go_ret
    exact ⟨⟨_, rfl⟩, Fr.refl _ _⟩
  | true =>
    have HS := Lib.hid hs
    clear hs
    by_cases h1 : c < 1
    · have d1 : decide (c < 1) = true := by simpa using h1
      go_enter Try.func49, Try.ntmps49
      go_wp2_with fail
      refine (r_Sap n _).mono ?_
      rintro e w' ⟨rfl, rfl⟩
      rw [HS.out]
      go_wp2
      go_ret
      exact ⟨⟨_, rfl⟩, Fr.refl _ _⟩
    · have d1 : decide (c < 1) = false := by simpa using h1
      by_cases h2 : 4 < c
      · have d2 : decide (4 < c) = true := by simpa using h2
        go_enter Try.func49, Try.ntmps49
        go_wp2_with fail
        refine (r_Sap n _).mono ?_
        rintro e w' ⟨rfl, rfl⟩
        rw [HS.out]
        go_wp2
        go_ret
        exact ⟨⟨_, rfl⟩, Fr.refl _ _⟩
      · have d2 : decide (4 < c) = false := by simpa using h2
        obtain ⟨i0, hi, hz0, hz1, hz2⟩ := info_parts (show (Try.prog.info? 90).map (fun i => (i.zero, i.size, i.bytes)) = some (some (.agg #[.int .i64 0, .int .i64 0, .slice none 0 0]), 3, 40) by kernel_rfl)
        have hun : Try.prog.underlying 82 = some (.slice 90) := Try.underlying82
        obtain ⟨c0, z0⟩ := id h
        go_enter Try.func49, Try.ntmps49
        go_wp2_with fail
        refine (r_Sap n _).mono ?_
        rintro e w' ⟨rfl, rfl⟩
        rw [HS.out]
        go_wp2_with fail
        refine (r_at0 _ q n h).mono ?_
        rintro e w' ⟨rfl, rfl⟩
        go_wp2
        go_loopw [7, 8, 9] (fun v u i wr => v = .slice none 0 0 ∧ u = .bool false ∧ i = .int .i64 0 ∧ wr = w) (fun _ _ _ _ => 0)
        case atStart => exact ⟨rfl, rfl, rfl, rfl⟩
        case round =>
          obtain ⟨rfl, rfl, rfl, rfl⟩ := hrel
          go_wp2_with (at_builtin; refine wpList_append_own _ rfl _ _ 82 rfl wr.heap.size 90 i0 (.agg #[.int .i64 0, .int .i64 0, .slice none 0 0]) 3 40 hun hi hz0 hz1 hz2 rfl (by decide) _ 0 [] rfl (World.ownsRow_nil _ _ _ _) ⟨wr.heap.size, 0, none⟩ 1 1 [.int .i64 n, .int .i64 c, .slice none 0 0] rfl rfl ?c1 ?c2 ?c4 ?c5 ?c6 ?_)
          case c1 => intro i u hu; match i, hu with
            | 0, hu => simp at hu; subst hu; exact (Blk.new wr #[.int .i64 n, .int .i64 c, .slice none 0 0] 90).cell 0 rfl
            | 1, hu => simp at hu; subst hu; exact (Blk.new wr #[.int .i64 n, .int .i64 c, .slice none 0 0] 90).cell 1 rfl
            | 2, hu => simp at hu; subst hu; exact (Blk.new wr #[.int .i64 n, .int .i64 c, .slice none 0 0] 90).cell 2 rfl
            | i + 3, hu => simp at hu
          case c2 => intro u hu; simp at hu; rcases hu with rfl | rfl | rfl <;> rfl
          case c4 => unfold maxLen; omega
          case c5 => omega
          case c6 => simp
          intro v' w4 hown4 hgrow _
          have f4 : Fr [] wr w4 := ((Fr.refl [] wr).alloc _).grown hgrow (fun k hk => by cases hk)
          have c4 := f4.cell c0 (by simp)
          have z4 : w4.frozen? ⟨q, 0, none⟩ = false := by rw [World.frozen?_of_block (w := wr) (f4.block q (World.block_lt_of_cell? _ _ c0) (by simp))]; exact z0
          obtain ⟨s, rfl⟩ := own_sl hown4
          go_wp2
          go_ret
          exact ⟨⟨_, rfl⟩, (f4.mono (by simp)).setCell _ (.inl (by simp))⟩
end Go.Proofs.Ytgmpikaibeenmaa
