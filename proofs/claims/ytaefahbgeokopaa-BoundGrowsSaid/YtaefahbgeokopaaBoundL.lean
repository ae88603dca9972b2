/- The law BoundAsks, walked. -/
import Derived.Test.YtaefahbgeokopaaBoundT
namespace Go.Proofs.Ytaefahbgeokopaa
open Go.RowKit Go.Shelf
set_option linter.unusedVariables false
set_option linter.unusedSimpArgs false

theorem b_awake (w : World) : Calls Try.prog 7 #[] w fun e w' => e = .returned (.bool true) ∧ Fr [] w w' := by
  go_enter Try.func7, Try.ntmps7
  go_wp2_with fail
  refine (bound_Asks_yes 3 4 0 _ (by unfold okO; omega)).mono ?_; rintro e w1 ⟨rfl, f1⟩
  go_wp2
  go_ret
  exact ⟨rfl, f1⟩

/-- Any way there: whatever the configuration. -/
theorem once_New (t a q n m : Int) (w : World) (hn : sapB n = true) (hm : sapB m = true) :
    Calls Try.prog 8 #[oV t a q, .int .i64 n, .int .i64 m] w fun e w' =>
      (okO t a q ∧ ∃ b, e = .returned (.tuple #[.pointer (some ⟨b, 0, none⟩), .int .i64 0]) ∧ w.heap.size ≤ b ∧ IsO w' b (OM.new t a q n m) ∧ Fr [] w w') ∨ (¬ okO t a q ∧ e = .returned (.tuple #[.pointer none, .int .i64 1]) ∧ Fr [] w w') := by
  by_cases h : okO t a q
  · exact (once_New_yes t a q n m w h hn hm).mono fun e w' ⟨b, h1, h2, h3, h4⟩ => .inl ⟨h, b, h1, h2, h3, h4⟩
  · exact (once_New_no t a q n m w h).mono fun e w' ⟨h1, h2⟩ => .inr ⟨h, h1, h2⟩

theorem asks_far (t a q : Int) (w : World) (h : 20 < t ∨ 20 < a) :
    Calls Try.prog 3 #[oV t a q] w fun e w' => e = .returned (.bool true) ∧ Fr [] w w' := by
  unfold oV
  by_cases h1 : 20 < t
  · have d1 : decide (20 < t) = true := by simpa using h1
    go_enter Try.func3, Try.ntmps3
    have hb := Blk.new w #[.int .i64 t, .int .i64 a, .int .i64 q] 23
    go_wp2_with fail
    refine (b_awake _).mono ?_; rintro e w1 ⟨rfl, f1⟩
    have hb1 := hb.fr f1 (by simp)
    have c0 : w1.cell? ⟨w.heap.size, 0, none⟩ = some (.int .i64 t) := hb1.cell 0 rfl
    go_wp2
    go_ret
    exact ⟨rfl, ((Fr.refl [] w).alloc _).tr f1⟩
  · have d1 : decide (20 < t) = false := by simpa using h1
    have d2 : decide (20 < a) = true := by simp; omega
    go_enter Try.func3, Try.ntmps3
    have hb := Blk.new w #[.int .i64 t, .int .i64 a, .int .i64 q] 23
    go_wp2_with fail
    refine (b_awake _).mono ?_; rintro e w1 ⟨rfl, f1⟩
    have hb1 := hb.fr f1 (by simp)
    have c0 : w1.cell? ⟨w.heap.size, 0, none⟩ = some (.int .i64 t) := hb1.cell 0 rfl
    have c1 : w1.cell? ⟨w.heap.size, 1, none⟩ = some (.int .i64 a) := hb1.cell 1 rfl
    go_wp2
    go_ret
    exact ⟨rfl, ((Fr.refl [] w).alloc _).tr f1⟩

theorem asks_bad (t a q : Int) (w : World) (h1 : ¬ 20 < t) (h2 : ¬ 20 < a) (h : ¬ okO t a q) :
    Calls Try.prog 3 #[oV t a q] w fun e w' => e = .returned (.bool true) ∧ Fr [] w w' := by
  unfold oV
  have d1 : decide (20 < t) = false := by simpa using h1
  have d2 : decide (20 < a) = false := by simpa using h2
  go_enter Try.func3, Try.ntmps3
  have hb := Blk.new w #[.int .i64 t, .int .i64 a, .int .i64 q] 23
  go_wp2_with fail
  refine (b_awake _).mono ?_; rintro e w1 ⟨rfl, f1⟩
  have hb1 := hb.fr f1 (by simp)
  have c0 : w1.cell? ⟨w.heap.size, 0, none⟩ = some (.int .i64 t) := hb1.cell 0 rfl
  have c1 : w1.cell? ⟨w.heap.size, 1, none⟩ = some (.int .i64 a) := hb1.cell 1 rfl
  have c2 : w1.cell? ⟨w.heap.size, 2, none⟩ = some (.int .i64 q) := hb1.cell 2 rfl
  go_wp2_with fail
  refine (law21_Config t a q _).mono ?_; rintro e w2 ⟨rfl, f2⟩
  unfold oV
  go_wp2_with fail
  refine (once_New_no t a q 4 8 _ h).mono ?_; rintro e w3 ⟨rfl, f3⟩
  have hb3 := (hb1.fr f2 (by simp)).fr f3 (by simp)
  clear c0 c1 c2
  have c0 : w3.cell? ⟨w.heap.size, 0, none⟩ = some (.int .i64 t) := hb3.cell 0 rfl
  have c1 : w3.cell? ⟨w.heap.size, 1, none⟩ = some (.int .i64 a) := hb3.cell 1 rfl
  have c2 : w3.cell? ⟨w.heap.size, 2, none⟩ = some (.int .i64 q) := hb3.cell 2 rfl
  go_wp2_with fail
  refine (law21_Config t a q _).mono ?_; rintro e w4 ⟨rfl, f4⟩
  unfold oV
  go_wp2_with fail
  refine (bound_Asks_no t a q _ h).mono ?_; rintro e w5 ⟨rfl, f5⟩
  go_wp2
  go_ret
  exact ⟨rfl, (((((Fr.refl [] w).alloc _).tr f1).tr f2).tr f3).tr (f4.tr f5)⟩

/-- How it stands behind k ticks, while it asks. -/
def Asking (t a q k : Int) (o : OM) : Prop :=
  o.t = t ∧ o.a = a ∧ o.asks = true ∧ 1 ≤ o.left ∧ o.left ≤ a ∧ 1 ≤ o.sent ∧ o.sent ≤ t ∧ o.sent * a = k + o.left

set_option maxRecDepth 100000 in
set_option maxHeartbeats 2000000 in
theorem asks_good (t a q : Int) (w : World) (h1 : ¬ 20 < t) (h2 : ¬ 20 < a) (h : okO t a q) :
    Calls Try.prog 3 #[oV t a q] w fun e w' => e = .returned (.bool true) ∧ Fr [] w w' := by
  unfold oV
  have h' := h
  obtain ⟨t1, -, a1, -, q1, -⟩ := h'
  have d1 : decide (20 < t) = false := by simpa using h1
  have d2 : decide (20 < a) = false := by simpa using h2
  go_enter Try.func3, Try.ntmps3
  have hb := Blk.new w #[.int .i64 t, .int .i64 a, .int .i64 q] 23
  go_wp2_with fail
  refine (b_awake _).mono ?_; rintro e w1 ⟨rfl, f1⟩
  have hb1 := hb.fr f1 (by simp)
  have c0 : w1.cell? ⟨w.heap.size, 0, none⟩ = some (.int .i64 t) := hb1.cell 0 rfl
  have c1 : w1.cell? ⟨w.heap.size, 1, none⟩ = some (.int .i64 a) := hb1.cell 1 rfl
  have c2 : w1.cell? ⟨w.heap.size, 2, none⟩ = some (.int .i64 q) := hb1.cell 2 rfl
  go_wp2_with fail
  refine (law21_Config t a q _).mono ?_; rintro e w2 ⟨rfl, f2⟩
  unfold oV
  go_wp2_with fail
  refine (once_New_yes t a q 4 8 _ h rfl rfl).mono ?_; rintro e w3 ⟨b, rfl, hbb, hO, f3⟩
  have hb3 := (hb1.fr f2 (by simp)).fr f3 (by simp)
  clear c0 c1 c2
  have c0 : w3.cell? ⟨w.heap.size, 0, none⟩ = some (.int .i64 t) := hb3.cell 0 rfl
  have c1 : w3.cell? ⟨w.heap.size, 1, none⟩ = some (.int .i64 a) := hb3.cell 1 rfl
  have c2 : w3.cell? ⟨w.heap.size, 2, none⟩ = some (.int .i64 q) := hb3.cell 2 rfl
  go_wp2_with fail
  refine (law21_Config t a q _).mono ?_; rintro e w4 ⟨rfl, f4⟩
  unfold oV
  go_wp2_with fail
  refine (bound_Asks_yes t a q _ h).mono ?_; rintro e w5 ⟨rfl, f5⟩
  have hO5 := (hO.fr f4 (by simp)).fr f5 (by simp)
  have F3 : Fr [] w w3 := ((((Fr.refl [] w).alloc _).tr f1).tr f2).tr f3
  have F5 : Fr [] w w5 := F3.tr (f4.tr f5)
  have hbw : w.heap.size ≤ b := by have g1 := f1.size; have g2 := f2.size; rw [World.size_alloc] at g1; omega
  have hs5 := F5.size
  clear c0 c1 c2 hb hb1 hb3 f1 f2 f3 f4 f5 hO F3
  go_wp2_with fail
  have hbl := hO5.lt
  refine (once_Ask b _ _ [1] (some ⟨w5.heap.size, 0, none⟩) 1 false (hO5.al _) ?i1 ?i2 (by simp) (by simp [OM.new]; omega) rfl rfl (by simp [OM.new]) (by simp [OM.new])).mono ?_
  case i1 => exact Ints.blk (l := [1]) (t := 5) (Blk.new _ _ _) (by simp [Lit.wf, IntKind.min, IntKind.max, IntKind.signed, IntKind.bits])
  case i2 => intro A n c e; simp at e; obtain ⟨rfl, -⟩ := e; simp; omega
  rintro e w6 ⟨s1, s2, rfl, hO6, hv1, hv2, y1, y2, f6⟩
  have F6 : Fr [] w w6 := (F5.alloc _).trans f6 (fun x hx => by simp at hx; omega)
  have hA0 : Asking t a q 0 ((OM.new t a q 4 8).ask false s2) := by
    refine ⟨rfl, rfl, rfl, ?_, ?_, ?_, ?_, ?_⟩ <;> simp [OM.ask, OM.new] <;> omega
  have hap : Apart b ((OM.new t a q 4 8).ask false s2).p.info.v := y2.apart (by simp; omega)
  have hin : Ints .u8 w6 ((OM.new t a q 4 8).ask false s2).p.info.v [1] := hv2
  have hinf : ((OM.new t a q 4 8).ask false s2).p.info = s2 := rfl
  generalize (OM.new t a q 4 8).ask false s2 = o0 at *
  clear hO5 f6 F5 y1 y2 hv1 hv2
  have m1 : t * a ≤ 20 * 20 := Int.mul_le_mul (by omega) (by omega) (by omega) (by omega)
  have m2 : 1 * 1 ≤ t * a := Int.mul_le_mul t1 a1 (by omega) (by omega)
  have mle : ∀ s : Int, 1 ≤ s → s ≤ t → s * a ≤ t * a := fun s _ h => Int.mul_le_mul_of_nonneg_right h (by omega)
  have mlt : ∀ s : Int, 1 ≤ s → s < t → s * a + a ≤ t * a := fun s _ h => by
    have := Int.mul_le_mul_of_nonneg_right (show s + 1 ≤ t by omega) (show 0 ≤ a by omega)
    rw [Int.add_mul] at this; omega
  have meq : ∀ s : Int, s = t → s * a = t * a := fun s h => by rw [h]
  generalize hn : t * a = n at *
  clear hn
  clear hs5
  go_wp2
  go_loopw [8] (fun i wr => ∃ k : Nat, i = .int .i64 (k + 1) ∧ Fr [] w wr ∧ (k : Int) ≤ n ∧ ((k : Int) < n → ∃ o, IsO wr b o ∧ Asking t a q k o ∧ Ints .u8 wr o.p.info.v [1] ∧ Apart b o.p.info.v) ∧ ((k : Int) = n → ∃ o, IsO wr b o ∧ o.asks = false)) (fun i _ => (n + 1 - intOf i).toNat)
  case atStart => exact ⟨0, rfl, F6.alloc _, by omega, fun _ => ⟨o0, hO6.al _, hA0, hin.fr ((Fr.refl [] w6).alloc _), hap⟩, fun h => by omega⟩
  case round =>
    obtain ⟨k, rfl, F, hk, hA, hZ⟩ := hrel
    clear F6 hO6 hin hap hinf hA0
    by_cases hlt : (k : Int) < n
    · obtain ⟨o, hO, ⟨ht, ha, hask, hl1, hl2, hs1, hs2, hsum⟩, hin, hap⟩ := hA hlt
      clear hA hZ
      have e1 : decide ((k : Int) + 1 ≤ n) = true := by simp; omega
      have hw : IntKind.i64.wrap ((k : Int) + 1 + 1) = (k : Int) + 1 + 1 := IntWalk.i64_in _ (by omega)
      have hnot : b ∉ ([] : List Nat) := by simp
      by_cases hl : 1 < o.left
      · have hkn : ((k : Int) + 1 == n) = false := by have := mle o.sent hs1 hs2; simp; omega
        go_wp2_with fail
        refine (once_Tick_more b o _ hO hask hl (by omega)).mono ?_
        rintro e w7 ⟨rfl, hO7, f7⟩
        go_wp2
        go_roundw
        case rel => exact ⟨k + 1, by simp, ((F.trans f7 (fun x hx => by simp at hx; omega)).alloc _).alloc _, by omega, fun _ => ⟨_, (hO7.al _).al _, ⟨ht, ha, hask, by simp; omega, by simp; omega, hs1, hs2, by simp only []; push_cast; omega⟩, (hin.frL f7 hap.not).fr (((Fr.refl [] w7).alloc _).alloc _), hap⟩, fun h => by have := mle o.sent hs1 hs2; push_cast at h; omega⟩
        case measure => simp [intOf]; omega
      · have hl' : o.left = 1 := by omega
        by_cases hs : o.sent < t
        · have hkn : ((k : Int) + 1 == n) = false := by have := mlt o.sent hs1 hs; simp; omega
          go_wp2_with fail
          refine (once_Tick_send b o _ [1] hO hin hap (by simp) (by omega) (by omega) hask hl' (by omega)).mono ?_
          rintro e w7 ⟨s7, rfl, hv7, hO7, f7⟩
          go_wp2
          go_roundw
          case rel => exact ⟨k + 1, by simp, ((F.trans f7 (fun x hx => by simp at hx; omega)).alloc _).alloc _, by omega, fun _ => ⟨_, (hO7.al _).al _, ⟨ht, ha, hask, by simp; omega, by simp; omega, by simp; omega, by simp; omega, by simp only []; push_cast; rw [Int.add_mul]; omega⟩, (hin.frL f7 hap.not).fr (((Fr.refl [] w7).alloc _).alloc _), hap⟩, fun h => by have := mlt o.sent hs1 hs; push_cast at h; omega⟩
          case measure => simp [intOf]; omega
        · have hst : o.sent = t := by omega
          have hkn : ((k : Int) + 1 == n) = true := by
            have := meq o.sent hst; simp; omega
          go_wp2_with fail
          refine (once_Tick_over b o _ hO hask hl' (by omega)).mono ?_
          rintro e w7 ⟨rfl, hO7, f7⟩
          go_wp2
          go_roundw
          case rel => exact ⟨k + 1, by simp, ((F.trans f7 (fun x hx => by simp at hx; omega)).alloc _).alloc _, by omega, fun h => by simp at hkn; push_cast at h; omega, fun _ => ⟨_, (hO7.al _).al _, rfl⟩⟩
          case measure => simp [intOf]; omega
    · have e1 : decide ((k : Int) + 1 ≤ n) = false := by simp; omega
      obtain ⟨o, hO, hask⟩ := hZ (by omega)
      go_wp2_with fail
      refine (once_Busy b o _ hO).mono ?_
      rintro e w7 ⟨rfl, rfl⟩
      rw [hask]
      go_wp2
      go_ret
      exact ⟨rfl, F⟩

theorem law_BoundAsks (w : World) (t a q : Int) (wt : (Lit.int .i64 t).wf = true) (wa : (Lit.int .i64 a).wf = true) (wq : (Lit.int .i64 q).wf = true) :
    Calls Try.prog 3 #[.agg #[.int .i64 t, .int .i64 a, .int .i64 q]] w fun e w' => e = .returned (.bool true) ∧ Fr [] w w' := by
  by_cases h1 : 20 < t
  · exact asks_far t a q w (.inl h1)
  · by_cases h2 : 20 < a
    · exact asks_far t a q w (.inr h2)
    · by_cases h : okO t a q
      · exact asks_good t a q w h1 h2 h
      · exact asks_bad t a q w h1 h2 h
end Go.Proofs.Ytaefahbgeokopaa
