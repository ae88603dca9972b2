/- Making a connection: whether it may be; nothing that was is otherwise. -/
import Derived.Test.YtaefahbgeokopaaGridR
import Derived.Test.YtaefahbgeokopaaBoundO
import Derived.BigQuiet
namespace Go.Proofs.Ytaefahbgeokopaa
open Go.RowKit Go.Shelf
set_option linter.unusedVariables false
set_option linter.unusedSimpArgs false

theorem tie_sap (n : Int) (w : World) :
    Calls Try.prog 32 #[.int .i64 n] w fun e w' => e = .returned (.bool (sapB n)) ∧ w = w' := by
  unfold sapB
  by_cases h1 : 2 ≤ n
  · have d1 : decide (2 ≤ n) = true := by simpa using h1
    by_cases h2 : n ≤ 254
    · have d2 : decide (n ≤ 254) = true := by simpa using h2
      by_cases h3 : n % 2 = 0
      · have d3 : decide (n % 2 = 0) = true := by simpa using h3
        have e3 : (n % 2 == 0) = true := by simpa using h3
        rw [d1, d2, d3]
        clear h3
        go_enter Try.func32, Try.ntmps32
        go_wp2
        go_ret
        exact ⟨rfl, rfl⟩
      · have d3 : decide (n % 2 = 0) = false := by simpa using h3
        have e3 : (n % 2 == 0) = false := by simpa using h3
        rw [d1, d2, d3]
        clear h3
        go_enter Try.func32, Try.ntmps32
        go_wp2
        go_ret
        exact ⟨rfl, rfl⟩
    · have d2 : decide (n ≤ 254) = false := by simpa using h2
      rw [d1, d2]
      go_enter Try.func32, Try.ntmps32
      go_wp2
      go_ret
      exact ⟨rfl, rfl⟩
  · have d1 : decide (2 ≤ n) = false := by simpa using h1
    rw [d1]
    go_enter Try.func32, Try.ntmps32
    go_wp2
    go_ret
    exact ⟨rfl, rfl⟩


theorem window_New_no (n : Int) (w : World) (h : n < 1 ∨ 64 < n) :
    Calls Try.prog 31 #[.int .i64 n] w fun e w' => e = .returned (.tuple #[.pointer none, .int .i64 1]) ∧ w = w' := by
  rcases h with h | h
  · have d1 : decide (n < 1) = true := by simpa using h
    go_enter Try.func31, Try.ntmps31
    go_wp2
    go_ret2
    exact ⟨rfl, rfl⟩
  · have d1 : decide (n < 1) = false := by simp; omega
    have d2 : decide (64 < n) = true := by simpa using h
    go_enter Try.func31, Try.ntmps31
    go_wp2
    go_ret2
    exact ⟨rfl, rfl⟩
theorem window_New_yes (n : Int) (w : World) (h1 : 1 ≤ n) (h2 : n ≤ 64) :
    Calls Try.prog 31 #[.int .i64 n] w fun e w' => ∃ b, e = .returned (.tuple #[.pointer (some ⟨b, 0, none⟩), .int .i64 0]) ∧ Blk w' b #[.int .i64 n, .int .i64 n, .int .i64 0] 90 ∧ w.heap.size ≤ b ∧ Fr [] w w' := by
  have d1 : decide (n < 1) = false := by simp; omega
  have d2 : decide (64 < n) = false := by simp; omega
  go_enter Try.func31, Try.ntmps31
  go_wp2
  go_ret2
  exact ⟨_, rfl, Blk.new _ _ _, Nat.le_refl _, (Fr.refl _ _).alloc _⟩

theorem queue_New (n : Int) (w : World) (h : 0 ≤ n) :
    Calls Try.prog 43 #[.int .i64 n] w fun e w' => ∃ b, e = .returned (.pointer (some ⟨b, 0, none⟩)) ∧ Blk w' b #[.int .i64 n, .slice none 0 0] 115 ∧ w.heap.size ≤ b ∧ Fr [] w w' := by
  have hm : max n 0 = n := by omega
  go_enter Try.func43, Try.ntmps43
  go_wp2
  go_ret
  exact ⟨_, rfl, Blk.new _ _ _, Nat.le_refl _, (Fr.refl _ _).alloc _⟩
theorem clock_New (n : Int) (w : World) (h : 0 ≤ n) :
    Calls Try.prog 35 #[.int .i64 n] w fun e w' => ∃ b, e = .returned (.pointer (some ⟨b, 0, none⟩)) ∧ Blk w' b #[.int .i64 n, .int .i64 0, .slice none 0 0] 104 ∧ w.heap.size ≤ b ∧ Fr [] w w' := by
  have hm : max n 0 = n := by omega
  go_enter Try.func35, Try.ntmps35
  go_wp2
  go_ret
  exact ⟨_, rfl, Blk.new _ _ _, Nat.le_refl _, (Fr.refl _ _).alloc _⟩
theorem back_New (n : Int) (w : World) (h : 0 ≤ n) :
    Calls Try.prog 34 #[.int .i64 n] w fun e w' => ∃ b q, e = .returned (.pointer (some ⟨b, 0, none⟩)) ∧ Blk w' b #[.pointer (some ⟨q, 0, none⟩), .int .i64 0] 101 ∧ Blk w' q #[.int .i64 n, .slice none 0 0] 115 ∧ w.heap.size ≤ b ∧ w.heap.size ≤ q ∧ Fr [] w w' := by
  go_enter Try.func34, Try.ntmps34
  go_wp2_with fail
  refine (queue_New n _ h).mono ?_
  rintro e w1 ⟨q, rfl, hq, hqs, f1⟩
  go_wp2
  go_ret
  have := f1.size
  exact ⟨_, q, rfl, Blk.new _ _ _, hq.alloc _, by omega, hqs, f1.alloc _⟩

/-- A configuration. -/
structure CM where
  wd : Int
  tr : Int
  ak : Int
  po : Int
  re : Int
  bu : Int
abbrev CM.val (c : CM) : Value := .agg #[.int .i64 c.wd, .int .i64 c.tr, .int .i64 c.ak, .int .i64 c.po, .int .i64 c.re, .int .i64 c.bu]
def tickB (n : Int) : Bool := decide (1 ≤ n) && decide (n ≤ 10000)
def tick (n : Int) : Prop := 1 ≤ n ∧ n ≤ 10000
def CM.ok (c : CM) : Prop := 1 ≤ c.wd ∧ c.wd ≤ 64 ∧ 1 ≤ c.tr ∧ c.tr ≤ 100 ∧ tick c.ak ∧ tick c.po ∧ tick c.re ∧ tick c.bu
instance (c : CM) : Decidable c.ok := by unfold CM.ok tick; infer_instance

def IsPtr : World → Value → Prop := fun _ v => ∃ b, v = .pointer (some ⟨b, 0, none⟩)
theorem IsPtr.keeps : Keeps [] IsPtr := fun _ _ _ _ h => h
def IsSlc : World → Value → Prop := fun _ v => ∃ A n c, v = .slice A n c
theorem IsSlc.keeps : Keeps [] IsSlc := fun _ _ _ _ h => h

def tieV (c : CM) (n m : Int) (A : Option Addr) (n' c' : Nat) (b1 bw b2 : Nat) : Value :=
  .agg #[.int .i64 c.wd, .int .i64 c.tr, .int .i64 c.ak, .int .i64 c.po, .int .i64 c.re, .int .i64 c.bu, .int .i64 n, .int .i64 m, .slice A n' c', .int .i64 0, .int .i64 0, .int .i64 0, .int .i64 0, .pointer (some ⟨b1, 0, none⟩), .pointer (some ⟨bw, 0, none⟩), .pointer (some ⟨b2, 0, none⟩),
    .int .i64 0, .int .i64 0, .int .i64 0, .bool false, .int .i64 0, .int .i64 0, .int .i64 0, .int .i64 0, .bool false, .bool false, .bool false, .bool false, .bool false, .bool false, .slice none 0 0, .slice none 0 0, .slice none 0 0, .bool false, .pointer none, .bool false, .int .i64 0]
def IsTV (c : CM) (n m : Int) (bw : Nat) : World → Value → Prop := fun _ v => ∃ A n' c' b1 b2, v = tieV c n m A n' c' b1 bw b2
theorem IsTV.keeps (c : CM) (n m : Int) (bw : Nat) : Keeps [] (IsTV c n m bw) := fun _ _ _ _ h => h
def NewNo (w : World) (e : Ending) (w' : World) : Prop := e = .returned (.tuple #[.pointer none, .int .i64 1]) ∧ Fr [] w w'
def NewYes (w : World) (e : Ending) (w' : World) : Prop := ∃ b, e = .returned (.tuple #[.pointer (some ⟨b, 0, none⟩), .int .i64 0]) ∧ Fr [] w w'

set_option maxRecDepth 100000 in
theorem tie_New_no1 (c : CM) (n m : Int) (w : World) (h : c.wd < 1 ∨ 64 < c.wd) :
    Calls Try.prog 29 #[c.val, .int .i64 n, .int .i64 m] w (NewNo w) := by
  go_enter Try.func29, Try.ntmps29
  have hb := Blk.new w #[.int .i64 c.wd, .int .i64 c.tr, .int .i64 c.ak, .int .i64 c.po, .int .i64 c.re, .int .i64 c.bu] 44
  go_wp2_with fail
  refine (window_New_no c.wd _ h).mono ?_
  rintro e w1 ⟨rfl, rfl⟩
  go_wp2
  go_ret2
  exact ⟨rfl, (Fr.refl _ _).alloc _⟩
set_option maxRecDepth 100000 in
theorem tie_New_no2 (c : CM) (n m : Int) (w : World) (h1 : 1 ≤ c.wd) (h2 : c.wd ≤ 64) (h : c.tr < 1 ∨ 100 < c.tr) :
    Calls Try.prog 29 #[c.val, .int .i64 n, .int .i64 m] w (NewNo w) := by
  rcases h with h | h
  · have d1 : decide (c.tr < 1) = true := by simpa using h
    go_enter Try.func29, Try.ntmps29
    have hb := Blk.new w #[.int .i64 c.wd, .int .i64 c.tr, .int .i64 c.ak, .int .i64 c.po, .int .i64 c.re, .int .i64 c.bu] 44
    go_wp2_with fail
    refine (window_New_yes c.wd _ h1 h2).mono ?_
    rintro e w1 ⟨bw, rfl, hbw, hbws, f1⟩
    have hb1 := hb.fr f1 (by simp)
    have c1 : w1.cell? ⟨w.heap.size, 1, none⟩ = some (.int .i64 c.tr) := hb1.cell 1 rfl
    go_wp2
    go_ret2
    exact ⟨rfl, ((Fr.refl _ _).alloc _).tr f1⟩
  · have d1 : decide (c.tr < 1) = false := by simp; omega
    have d2 : decide (100 < c.tr) = true := by simpa using h
    go_enter Try.func29, Try.ntmps29
    have hb := Blk.new w #[.int .i64 c.wd, .int .i64 c.tr, .int .i64 c.ak, .int .i64 c.po, .int .i64 c.re, .int .i64 c.bu] 44
    go_wp2_with fail
    refine (window_New_yes c.wd _ h1 h2).mono ?_
    rintro e w1 ⟨bw, rfl, hbw, hbws, f1⟩
    have hb1 := hb.fr f1 (by simp)
    have c1 : w1.cell? ⟨w.heap.size, 1, none⟩ = some (.int .i64 c.tr) := hb1.cell 1 rfl
    go_wp2
    go_ret2
    exact ⟨rfl, ((Fr.refl _ _).alloc _).tr f1⟩
set_option maxRecDepth 100000 in
theorem tie_New_no3 (c : CM) (n m : Int) (w : World) (h1 : 1 ≤ c.wd) (h2 : c.wd ≤ 64) (h3 : 1 ≤ c.tr) (h4 : c.tr ≤ 100) (h : sapB n = false ∨ sapB m = false) :
    Calls Try.prog 29 #[c.val, .int .i64 n, .int .i64 m] w (NewNo w) := by
  have d1 : decide (c.tr < 1) = false := by simp; omega
  have d2 : decide (100 < c.tr) = false := by simp; omega
  cases hn : sapB n with
  | false =>
    have HN := Lib.hid hn
    clear hn h
    go_enter Try.func29, Try.ntmps29
    have hb := Blk.new w #[.int .i64 c.wd, .int .i64 c.tr, .int .i64 c.ak, .int .i64 c.po, .int .i64 c.re, .int .i64 c.bu] 44
    go_wp2_with fail
    refine (window_New_yes c.wd _ h1 h2).mono ?_
    rintro e w1 ⟨bw, rfl, hbw, hbws, f1⟩
    have hb1 := hb.fr f1 (by simp)
    have c1 : w1.cell? ⟨w.heap.size, 1, none⟩ = some (.int .i64 c.tr) := hb1.cell 1 rfl
    go_wp2_with fail
    refine (tie_sap n _).mono ?_
    rintro e w2 ⟨rfl, rfl⟩
    rw [HN.out]
    go_wp2
    go_ret2
    exact ⟨rfl, ((Fr.refl _ _).alloc _).tr f1⟩
  | true =>
    have HM := Lib.hid (show sapB m = false by simpa [hn] using h)
    have HN := Lib.hid hn
    clear hn h
    go_enter Try.func29, Try.ntmps29
    have hb := Blk.new w #[.int .i64 c.wd, .int .i64 c.tr, .int .i64 c.ak, .int .i64 c.po, .int .i64 c.re, .int .i64 c.bu] 44
    go_wp2_with fail
    refine (window_New_yes c.wd _ h1 h2).mono ?_
    rintro e w1 ⟨bw, rfl, hbw, hbws, f1⟩
    have hb1 := hb.fr f1 (by simp)
    have c1 : w1.cell? ⟨w.heap.size, 1, none⟩ = some (.int .i64 c.tr) := hb1.cell 1 rfl
    go_wp2_with fail
    refine (tie_sap n _).mono ?_
    rintro e w2 ⟨rfl, rfl⟩
    rw [HN.out]
    go_wp2_with fail
    refine (tie_sap m _).mono ?_
    rintro e w2 ⟨rfl, rfl⟩
    rw [HM.out]
    go_wp2
    go_ret2
    exact ⟨rfl, ((Fr.refl _ _).alloc _).tr f1⟩

def ticksL (c : CM) : List Int := [c.ak, c.po, c.re, c.bu]
theorem ticks_step {c : CM} {j : Nat} (h : ∀ x ∈ (ticksL c).take j, tick x) {y : Int} (hy : (ticksL c)[j]? = some y) (ht : tick y) : ∀ x ∈ (ticksL c).take (j + 1), tick x := by
  intro x hx
  rw [List.take_add_one, hy] at hx
  simp only [List.mem_append, Option.toList_some, List.mem_singleton] at hx
  rcases hx with hx | rfl
  · exact h x hx
  · exact ht
def NewAny (c : CM) (w : World) (e : Ending) (w' : World) : Prop := ((∀ x ∈ ticksL c, tick x) ∧ NewYes w e w') ∨ (¬ (∀ x ∈ ticksL c, tick x) ∧ NewNo w e w')

set_option maxHeartbeats 1000000 in
set_option maxRecDepth 100000 in
theorem tie_New_any (c : CM) (n m : Int) (w : World) (h1 : 1 ≤ c.wd) (h2 : c.wd ≤ 64) (h3 : 1 ≤ c.tr) (h4 : c.tr ≤ 100) (hn : sapB n = true) (hm : sapB m = true) :
    Calls Try.prog 29 #[c.val, .int .i64 n, .int .i64 m] w (NewAny c w) := by
  have d1 : decide (c.tr < 1) = false := by simp; omega
  have d2 : decide (100 < c.tr) = false := by simp; omega
  have HN := Lib.hid hn
  have HM := Lib.hid hm
  clear hn hm
  go_enter Try.func29, Try.ntmps29
  have hb := Blk.new w #[.int .i64 c.wd, .int .i64 c.tr, .int .i64 c.ak, .int .i64 c.po, .int .i64 c.re, .int .i64 c.bu] 44
  go_wp2_with fail
  refine (window_New_yes c.wd _ h1 h2).mono ?_
  rintro e w1 ⟨bw, rfl, hbw, hbws, f1⟩
  have hb1 := hb.fr f1 (by simp)
  have c1 : w1.cell? ⟨w.heap.size, 1, none⟩ = some (.int .i64 c.tr) := hb1.cell 1 rfl
  have c2 : w1.cell? ⟨w.heap.size, 2, none⟩ = some (.int .i64 c.ak) := hb1.cell 2 rfl
  have c3 : w1.cell? ⟨w.heap.size, 3, none⟩ = some (.int .i64 c.po) := hb1.cell 3 rfl
  have c4 : w1.cell? ⟨w.heap.size, 4, none⟩ = some (.int .i64 c.re) := hb1.cell 4 rfl
  have c5 : w1.cell? ⟨w.heap.size, 5, none⟩ = some (.int .i64 c.bu) := hb1.cell 5 rfl
  go_wp2_with fail
  refine (tie_sap n _).mono ?_
  rintro e w2 ⟨rfl, rfl⟩
  rw [HN.out]
  go_wp2_with fail
  refine (tie_sap m _).mono ?_
  rintro e w2 ⟨rfl, rfl⟩
  rw [HM.out]
  go_wp2
  have F : Fr [] w (w1.alloc (.cells #[.int .i64 c.ak, .int .i64 c.po, .int .i64 c.re, .int .i64 c.bu] 3)) := (((Fr.refl _ _).alloc _).tr f1).alloc _
  have hB : Blk (w1.alloc (.cells #[.int .i64 c.ak, .int .i64 c.po, .int .i64 c.re, .int .i64 c.bu] 3)) w1.heap.size #[.int .i64 c.ak, .int .i64 c.po, .int .i64 c.re, .int .i64 c.bu] 3 := Blk.new _ _ _
  have hb2 := hb1.alloc (.cells #[.int .i64 c.ak, .int .i64 c.po, .int .i64 c.re, .int .i64 c.bu] 3)
  clear hb hb1 hbw f1 c1 c2 c3 c4 c5 d1 d2 h1 h2 h3 h4
  generalize (w1.alloc (.cells #[.int .i64 c.ak, .int .i64 c.po, .int .i64 c.re, .int .i64 c.bu] 3)) = w2 at *
  go_loopw [50] (fun i wr => w2 = wr ∧ ∃ j : Nat, i = .int .i64 j ∧ j ≤ 4 ∧ ∀ x ∈ (ticksL c).take j, tick x) (fun i _ => 4 - (intOf i).toNat)
  case atStart => exact ⟨rfl, 0, rfl, by omega, by simp⟩
  case round =>
    obtain ⟨rfl, j, rfl, hj, hg⟩ := hrel
    by_cases e0 : j = 0
    · subst e0
      have c0 : w2.cell? ⟨w1.heap.size, 0, none⟩ = some (.int .i64 c.ak) := hB.cell 0 rfl
      have Hg := Lib.hid hg
      clear hg
      by_cases t1 : 1 ≤ c.ak
      · have d1 : decide (c.ak < 1) = false := by simp; omega
        by_cases t2 : c.ak ≤ 10000
        · have d2 : decide (10000 < c.ak) = false := by simp; omega
          go_wp2
          go_roundw
          case rel => exact ⟨trivial, 1, by simp, by omega, ticks_step Hg.out rfl ⟨t1, t2⟩⟩
          case measure => simp [intOf]
        · have d2 : decide (10000 < c.ak) = true := by simp; omega
          go_wp2
          go_ret2
          exact .inr ⟨fun h => by have := (h c.ak (by simp [ticksL])).2; omega, rfl, F⟩
      · have d1 : decide (c.ak < 1) = true := by simp; omega
        go_wp2
        go_ret2
        exact .inr ⟨fun h => by have := (h c.ak (by simp [ticksL])).1; omega, rfl, F⟩
    by_cases e1 : j = 1
    · subst e1
      have c0 : w2.cell? ⟨w1.heap.size, 1, none⟩ = some (.int .i64 c.po) := hB.cell 1 rfl
      have Hg := Lib.hid hg
      clear hg
      by_cases t1 : 1 ≤ c.po
      · have d1 : decide (c.po < 1) = false := by simp; omega
        by_cases t2 : c.po ≤ 10000
        · have d2 : decide (10000 < c.po) = false := by simp; omega
          go_wp2
          go_roundw
          case rel => exact ⟨trivial, 2, by simp, by omega, ticks_step Hg.out rfl ⟨t1, t2⟩⟩
          case measure => simp [intOf]
        · have d2 : decide (10000 < c.po) = true := by simp; omega
          go_wp2
          go_ret2
          exact .inr ⟨fun h => by have := (h c.po (by simp [ticksL])).2; omega, rfl, F⟩
      · have d1 : decide (c.po < 1) = true := by simp; omega
        go_wp2
        go_ret2
        exact .inr ⟨fun h => by have := (h c.po (by simp [ticksL])).1; omega, rfl, F⟩
    by_cases e2 : j = 2
    · subst e2
      have c0 : w2.cell? ⟨w1.heap.size, 2, none⟩ = some (.int .i64 c.re) := hB.cell 2 rfl
      have Hg := Lib.hid hg
      clear hg
      by_cases t1 : 1 ≤ c.re
      · have d1 : decide (c.re < 1) = false := by simp; omega
        by_cases t2 : c.re ≤ 10000
        · have d2 : decide (10000 < c.re) = false := by simp; omega
          go_wp2
          go_roundw
          case rel => exact ⟨trivial, 3, by simp, by omega, ticks_step Hg.out rfl ⟨t1, t2⟩⟩
          case measure => simp [intOf]
        · have d2 : decide (10000 < c.re) = true := by simp; omega
          go_wp2
          go_ret2
          exact .inr ⟨fun h => by have := (h c.re (by simp [ticksL])).2; omega, rfl, F⟩
      · have d1 : decide (c.re < 1) = true := by simp; omega
        go_wp2
        go_ret2
        exact .inr ⟨fun h => by have := (h c.re (by simp [ticksL])).1; omega, rfl, F⟩
    by_cases e3 : j = 3
    · subst e3
      have c0 : w2.cell? ⟨w1.heap.size, 3, none⟩ = some (.int .i64 c.bu) := hB.cell 3 rfl
      have Hg := Lib.hid hg
      clear hg
      by_cases t1 : 1 ≤ c.bu
      · have d1 : decide (c.bu < 1) = false := by simp; omega
        by_cases t2 : c.bu ≤ 10000
        · have d2 : decide (10000 < c.bu) = false := by simp; omega
          go_wp2
          go_roundw
          case rel => exact ⟨trivial, 4, by simp, by omega, ticks_step Hg.out rfl ⟨t1, t2⟩⟩
          case measure => simp [intOf]
        · have d2 : decide (10000 < c.bu) = true := by simp; omega
          go_wp2
          go_ret2
          exact .inr ⟨fun h => by have := (h c.bu (by simp [ticksL])).2; omega, rfl, F⟩
      · have d1 : decide (c.bu < 1) = true := by simp; omega
        go_wp2
        go_ret2
        exact .inr ⟨fun h => by have := (h c.bu (by simp [ticksL])).1; omega, rfl, F⟩
    obtain rfl : j = 4 := by omega
    have hg' : ∀ x ∈ ticksL c, tick x := hg
    have HG := Lib.hid hg'
    clear hg hg'
    go_wp2
    have k0 : ∀ wx, Fr [] w2 wx → wx.cell? ⟨w.heap.size, 0, none⟩ = some (.int .i64 c.wd) := fun wx hf => hf.cell (hb2.cell 0 rfl) (by simp)
    have k1 : ∀ wx, Fr [] w2 wx → wx.cell? ⟨w.heap.size, 1, none⟩ = some (.int .i64 c.tr) := fun wx hf => hf.cell (hb2.cell 1 rfl) (by simp)
    have k2 : ∀ wx, Fr [] w2 wx → wx.cell? ⟨w.heap.size, 2, none⟩ = some (.int .i64 c.ak) := fun wx hf => hf.cell (hb2.cell 2 rfl) (by simp)
    have k3 : ∀ wx, Fr [] w2 wx → wx.cell? ⟨w.heap.size, 3, none⟩ = some (.int .i64 c.po) := fun wx hf => hf.cell (hb2.cell 3 rfl) (by simp)
    have k4 : ∀ wx, Fr [] w2 wx → wx.cell? ⟨w.heap.size, 4, none⟩ = some (.int .i64 c.re) := fun wx hf => hf.cell (hb2.cell 4 rfl) (by simp)
    have k5 : ∀ wx, Fr [] w2 wx → wx.cell? ⟨w.heap.size, 5, none⟩ = some (.int .i64 c.bu) := fun wx hf => hf.cell (hb2.cell 5 rfl) (by simp)
    refine wp_region_keeps [] [Is c.val, Is (.int .i64 n), Is (.int .i64 m), IsSlc, IsPtr, Is (.pointer (some ⟨bw, 0, none⟩)), IsPtr, IsTV c n m bw, IsPtr, IsPtr, Is (.int .i64 0)] (by kernel_rfl) (by kernel_rfl) (by kernel_rfl) (by kernel_rfl) ?hV ?hS ?hD
    case hV =>
      repeat (first | exact trivial | exact Is.keeps _ | exact Any.keeps | exact IsSl.keeps _ _ _ | exact IsPtr.keeps | exact  IsSlc.keeps | exact  IsTV.keeps _ _ _ _ | refine And.intro ?_ ?_)
    case hS =>
      (repeat' (first | exact trivial | refine And.intro ?_ ?_))
      · intro ac wx hf hs hp K hK
        simp only [waits, holdsA, nth, Is, Any, List.filter_cons, List.filter_nil, List.map_cons, List.map_nil, Region.binds, if_true, true_and, and_true, Nat.reduceAdd, List.getElem?_cons_zero, List.getElem?_cons_succ, Option.bind_some, Array.getD_eq_getD_getElem?] at hp
        have hs3 := hs 3 (by kernel_rfl)
        simp only [Array.getD_eq_getD_getElem?, List.getElem?_toArray, List.getElem?_cons_succ, List.getElem?_cons_zero, Option.getD_some] at hs3
        clear hs
        have m0 := k0 wx hf
        have m1 := k1 wx hf
        have m2 := k2 wx hf
        have m3 := k3 wx hf
        have m4 := k4 wx hf
        have m5 := k5 wx hf
        clear k0 k1 k2 k3 k4 k5
        go_simp
        try dsimp only
        refine hK.out _ _ ?_ ?_
        · ((repeat (first | (with_reducible exact Fr.refl _ _) | (with_reducible assumption) | (with_reducible refine Fr.drew ?_) | (with_reducible refine Fr.drewN ?_ _) | (with_reducible refine Fr.alloc ?_ _) | (with_reducible refine Fr.setL ?_ _ _ _ ?_) | (focus (refine Or.inl ?_; simp; done)) | (focus (refine Or.inr ?_; simp; done)) | (focus (refine Or.inr ?_; simp; omega)) | (focus (refine Or.inr ?_; omega)))); done)
        · simp only [nth]
          first | (unfold Is; rfl) | (unfold Any; exact trivial) | exact IsSl.new _ _ _ _ | assumption
      · intro ac wx hf hs hp K hK
        simp only [waits, holdsA, nth, Is, Any, List.filter_cons, List.filter_nil, List.map_cons, List.map_nil, Region.binds, if_true, true_and, and_true, Nat.reduceAdd, List.getElem?_cons_zero, List.getElem?_cons_succ, Option.bind_some, Array.getD_eq_getD_getElem?] at hp
        have hs1 := hs 1 (by kernel_rfl)
        simp only [Array.getD_eq_getD_getElem?, List.getElem?_toArray, List.getElem?_cons_succ, List.getElem?_cons_zero, Option.getD_some] at hs1
        clear hs
        clear hf
        (try simp only [hp])
        go_simp
        try dsimp only
        refine hK.out _ _ ?_ ?_
        · ((repeat (first | (with_reducible exact Fr.refl _ _) | (with_reducible assumption) | (with_reducible refine Fr.drew ?_) | (with_reducible refine Fr.drewN ?_ _) | (with_reducible refine Fr.alloc ?_ _) | (with_reducible refine Fr.setL ?_ _ _ _ ?_) | (focus (refine Or.inl ?_; simp; done)) | (focus (refine Or.inr ?_; simp; done)) | (focus (refine Or.inr ?_; simp; omega)) | (focus (refine Or.inr ?_; omega)))); done)
        · simp only [nth]
          first | (unfold Is; rfl) | (unfold Any; exact trivial) | exact IsSl.new _ _ _ _ | assumption
      · intro ac wx hf hs hp K hK
        simp only [waits, holdsA, nth, Is, Any, List.filter_cons, List.filter_nil, List.map_cons, List.map_nil, Region.binds, if_true, true_and, and_true, Nat.reduceAdd, List.getElem?_cons_zero, List.getElem?_cons_succ, Option.bind_some, Array.getD_eq_getD_getElem?] at hp
        have hs2 := hs 2 (by kernel_rfl)
        simp only [Array.getD_eq_getD_getElem?, List.getElem?_toArray, List.getElem?_cons_succ, List.getElem?_cons_zero, Option.getD_some] at hs2
        clear hs
        clear hf
        (try simp only [hp])
        go_simp
        try dsimp only
        refine hK.out _ _ ?_ ?_
        · ((repeat (first | (with_reducible exact Fr.refl _ _) | (with_reducible assumption) | (with_reducible refine Fr.drew ?_) | (with_reducible refine Fr.drewN ?_ _) | (with_reducible refine Fr.alloc ?_ _) | (with_reducible refine Fr.setL ?_ _ _ _ ?_) | (focus (refine Or.inl ?_; simp; done)) | (focus (refine Or.inr ?_; simp; done)) | (focus (refine Or.inr ?_; simp; omega)) | (focus (refine Or.inr ?_; omega)))); done)
        · simp only [nth]
          first | (unfold Is; rfl) | (unfold Any; exact trivial) | exact IsSl.new _ _ _ _ | assumption
      · intro ac wx hf hs hp K hK
        simp only [waits, holdsA, nth, Is, Any, List.filter_cons, List.filter_nil, List.map_cons, List.map_nil, Region.binds, if_true, true_and, and_true, Nat.reduceAdd, List.getElem?_cons_zero, List.getElem?_cons_succ, Option.bind_some, Array.getD_eq_getD_getElem?] at hp
        clear hs
        go_simp
        go_at_call 33
        refine (grid_Rows _).mono ?_
        rintro e w' ⟨g, cap, bs, rfl, -, -, -, f⟩
        exact hK.out _ _ f ⟨_, _, _, rfl⟩
      · intro ac wx hf hs hp K hK
        simp only [waits, holdsA, nth, Is, Any, List.filter_cons, List.filter_nil, List.map_cons, List.map_nil, Region.binds, if_true, true_and, and_true, Nat.reduceAdd, List.getElem?_cons_zero, List.getElem?_cons_succ, Option.bind_some, Array.getD_eq_getD_getElem?] at hp
        clear hs
        go_simp
        go_at_call 34
        refine (back_New 64 _ (by decide)).mono ?_
        rintro e w' ⟨b, q, rfl, -, -, -, -, f⟩
        exact hK.out _ _ f ⟨_, rfl⟩
      · intro ac wx hf hs hp K hK
        simp only [waits, holdsA, nth, Is, Any, List.filter_cons, List.filter_nil, List.map_cons, List.map_nil, Region.binds, if_true, true_and, and_true, Nat.reduceAdd, List.getElem?_cons_zero, List.getElem?_cons_succ, Option.bind_some, Array.getD_eq_getD_getElem?] at hp
        have hs8 := hs 8 (by kernel_rfl)
        simp only [Array.getD_eq_getD_getElem?, List.getElem?_toArray, List.getElem?_cons_succ, List.getElem?_cons_zero, Option.getD_some] at hs8
        clear hs
        clear hf
        (try simp only [hp])
        go_simp
        try dsimp only
        refine hK.out _ _ ?_ ?_
        · ((repeat (first | (with_reducible exact Fr.refl _ _) | (with_reducible assumption) | (with_reducible refine Fr.drew ?_) | (with_reducible refine Fr.drewN ?_ _) | (with_reducible refine Fr.alloc ?_ _) | (with_reducible refine Fr.setL ?_ _ _ _ ?_) | (focus (refine Or.inl ?_; simp; done)) | (focus (refine Or.inr ?_; simp; done)) | (focus (refine Or.inr ?_; simp; omega)) | (focus (refine Or.inr ?_; omega)))); done)
        · simp only [nth]
          first | (unfold Is; rfl) | (unfold Any; exact trivial) | exact IsSl.new _ _ _ _ | assumption
      · intro ac wx hf hs hp K hK
        simp only [waits, holdsA, nth, Is, Any, List.filter_cons, List.filter_nil, List.map_cons, List.map_nil, Region.binds, if_true, true_and, and_true, Nat.reduceAdd, List.getElem?_cons_zero, List.getElem?_cons_succ, Option.bind_some, Array.getD_eq_getD_getElem?] at hp
        clear hs
        go_simp
        go_at_call 35
        refine (clock_New 4 _ (by decide)).mono ?_
        rintro e w' ⟨b, rfl, -, -, f⟩
        exact hK.out _ _ f ⟨_, rfl⟩
      · intro ac wx hf hs hp K hK
        simp only [waits, holdsA, nth, Is, Any, List.filter_cons, List.filter_nil, List.map_cons, List.map_nil, Region.binds, if_true, true_and, and_true, Nat.reduceAdd, List.getElem?_cons_zero, List.getElem?_cons_succ, Option.bind_some, Array.getD_eq_getD_getElem?] at hp
        clear hs
        obtain ⟨h61, h62, h63, ⟨A, n', c', h64⟩, ⟨b1, h65⟩, h66, ⟨b2, h67⟩⟩ := hp
        go_simp
        exact hK.out _ _ (Fr.refl _ _) ⟨A, n', c', b1, b2, rfl⟩
      · intro ac wx hf hs hp K hK
        simp only [waits, holdsA, nth, Is, Any, List.filter_cons, List.filter_nil, List.map_cons, List.map_nil, Region.binds, if_true, true_and, and_true, Nat.reduceAdd, List.getElem?_cons_zero, List.getElem?_cons_succ, Option.bind_some, Array.getD_eq_getD_getElem?] at hp
        clear hs
        obtain ⟨A, n', c', b1, b2, h68⟩ := hp
        unfold tieV at h68
        go_simp
        exact hK.out _ _ ((Fr.refl _ _).alloc _) ⟨_, rfl⟩
      · intro ac wx hf hs hp K hK
        simp only [waits, holdsA, nth, Is, Any, List.filter_cons, List.filter_nil, List.map_cons, List.map_nil, Region.binds, if_true, true_and, and_true, Nat.reduceAdd, List.getElem?_cons_zero, List.getElem?_cons_succ, Option.bind_some, Array.getD_eq_getD_getElem?] at hp
        clear hs
        obtain ⟨⟨b, hb⟩, -⟩ := hp
        go_simp
        exact hK.out _ _ (Fr.refl _ _) ⟨b, rfl⟩
      · intro ac wx hf hs hp K hK
        simp only [waits, holdsA, nth, Is, Any, List.filter_cons, List.filter_nil, List.map_cons, List.map_nil, Region.binds, if_true, true_and, and_true, Nat.reduceAdd, List.getElem?_cons_zero, List.getElem?_cons_succ, Option.bind_some, Array.getD_eq_getD_getElem?] at hp
        clear hs
        clear hf
        (try simp only [hp])
        go_simp
        try dsimp only
        refine hK.out _ _ ?_ ?_
        · ((repeat (first | (with_reducible exact Fr.refl _ _) | (with_reducible assumption) | (with_reducible refine Fr.drew ?_) | (with_reducible refine Fr.drewN ?_ _) | (with_reducible refine Fr.alloc ?_ _) | (with_reducible refine Fr.setL ?_ _ _ _ ?_) | (focus (refine Or.inl ?_; simp; done)) | (focus (refine Or.inr ?_; simp; done)) | (focus (refine Or.inr ?_; simp; omega)) | (focus (refine Or.inr ?_; omega)))); done)
        · simp only [nth]
          first | (unfold Is; rfl) | (unfold Any; exact trivial) | exact IsSl.new _ _ _ _ | assumption
    case hD =>
      intro x wx hf hp
      simp only [fill, List.setIfInBounds_toArray, List.set_cons_zero, List.set_cons_succ, Nat.reduceAdd, Act.put]
      simp only [List.length_cons, List.length_nil, Nat.reduceAdd, List.range_eq_range', List.range'_succ, List.range'_zero, Nat.zero_add, Nat.add_zero, holds, nth, Is, Any, true_and, and_true] at hp
      obtain ⟨-, -, -, -, -, -, -, -, -, ⟨b, x9⟩, x10⟩ := hp
      simp only [x9, x10]
      go_wp2
      go_ret2
      exact .inl ⟨HG.out, b, rfl, F.tr hf⟩
end Go.Proofs.Ytaefahbgeokopaa
