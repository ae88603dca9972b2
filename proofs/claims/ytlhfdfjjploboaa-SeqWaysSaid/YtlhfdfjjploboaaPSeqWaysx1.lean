-- PRINTED BY print.sh 35421559b90ae4d0a3588c463048766b98c2df88dd9212a6774a882060cdf62d: not written by this session
import Derived.Test.YtlhfdfjjploboaaPSeqWaysx0
namespace Go.Proofs.Ytlhfdfjjploboaa.PSeqWays
open Go.RowKit Go.Proofs.YtlhfdfjjploboaaW.PrintWords Go.Proofs.YtlhfdfjjploboaaW.PrintLast Go.Proofs.YtlhfdfjjploboaaW.PrintMore
attribute [local go_sem] max2_int min2_int max_two min_two max_three min_three max_four min_four   -- for this text's walks alone
set_option linter.unusedVariables false
set_option linter.unusedSimpArgs false

/-! ### seq_rest_int: function 33 -/
def seq_rest_int.f (a0 : Int) : Option (Int) := some (Int.tmod (wrap64 ((Int.tmod a0 128) + 128)) 128)
set_option maxHeartbeats 8000000 in
set_option maxRecDepth 100000 in
theorem seq_rest_int.calls (a0 : Int) (r : Int) (w : World) (h : seq_rest_int.f a0 = some r) :
    Calls Try.prog 33 #[.int .i64 a0] w fun e w' => e = .returned (.int .i64 r) ∧ Drawn0 w w' := by
  have H : (some (Int.tmod (wrap64 ((Int.tmod a0 128) + 128)) 128)) = some r := h
  clear h
  obtain rfl := Option.some.inj H
  go_enter Try.func33, Try.ntmps33
  go_wp2
  go_ret
  exact ⟨by first | rfl | (simp; done) | (simp [*]; done), by repeat (first | exact Drawn0.refl _ | apply Drawn0.step)⟩

/-! ### seq_fold_int: function 32 -/
def seq_fold_int.l0 : Nat → Int → List Int → Int → Int → Option (Int)
  | 0, _, _, _, _ => none
  | k + 1, x3, x6, x7, x8 => if x8 < x7 then (if 0 ≤ x8 then (if x8 < (x6.length : Int) then ((seq_rest_int.f (rd x6 x8)).bind fun t102 => ((seq_rest_int.f (wrap64 (x3 + t102))).bind fun t103 => (seq_fold_int.l0 k t103 x6 x7 (wrap64 (x8 + 1))))) else (none)) else (none)) else (some x3)
def seq_fold_int.f (k : Nat) (l0 : List Int) : Option (Int) := seq_fold_int.l0 k 0 l0 (l0.length : Int) 0
theorem seq_fold_int.mono_l : ∀ k, (∀ y0 y1 y2 y3, LeO (seq_fold_int.l0 k y0 y1 y2 y3) (seq_fold_int.l0 (k + 1) y0 y1 y2 y3))
  | 0 => fun _ _ _ _ r h => by simp [seq_fold_int.l0] at h
  | k + 1 => by
    have ih0 := seq_fold_int.mono_l k
    · intro y0 y1 y2 y3
      unfold seq_fold_int.l0
      repeat' first
      | (with_reducible exact ih0 _ _ _ _)
      | (with_reducible exact LeO.refl _)
      | (with_reducible exact LeO.none _)
      | (with_reducible refine LeO.ite ?_ ?_)
      | (with_reducible refine LeO.bind ?_ (fun _ => ?_))
      | exact ih0 _ _ _ _
      | exact LeO.none _
      | refine LeO.ite ?_ ?_
      | refine LeO.bind ?_ (fun _ => ?_)
theorem seq_fold_int.mono : ∀ a0 k, LeO (seq_fold_int.f k a0) (seq_fold_int.f (k + 1) a0) := by
  intro a0 k
  have ih0 := seq_fold_int.mono_l k
  unfold seq_fold_int.f
  repeat' first
      | (with_reducible exact ih0 _ _ _ _)
      | (with_reducible exact LeO.refl _)
      | (with_reducible exact LeO.none _)
      | (with_reducible refine LeO.ite ?_ ?_)
      | (with_reducible refine LeO.bind ?_ (fun _ => ?_))
      | exact ih0 _ _ _ _
      | exact LeO.none _
      | refine LeO.ite ?_ ?_
      | refine LeO.bind ?_ (fun _ => ?_)
set_option maxHeartbeats 8000000 in
set_option maxRecDepth 100000 in
theorem seq_fold_int.calls (k : Nat) (A0 : Option Addr) (c0 : Nat) (l0 : List Int) (r : Int) (w : World) (hr0 : Kd.C (Kd.int .i64) w A0 l0.length l0) (hc0 : l0.length ≤ c0) (h : seq_fold_int.f k l0 = some r) :
    Calls Try.prog 32 #[.slice A0 l0.length c0] w fun e w' => e = .returned (.int .i64 r) ∧ Drawn0 w w' := by
  have HR0 := Aside0.mk hr0
  have HC0 := Aside0.mk hc0
  clear hr0 hc0
  have H : (seq_fold_int.l0 k 0 l0 (l0.length : Int) 0) = some r := h
  clear h
  have H' := Aside0.mk H
  clear H
  go_enter Try.func32, Try.ntmps32
  go_wp2
  go_loopg [3, 8] k (fun kq v3 v8 w' => ∃ (x3_1 : Int) (x8_1 : Int), v3 = .int .i64 x3_1 ∧ v8 = .int .i64 x8_1 ∧ Aside0 (seq_fold_int.l0 kq x3_1 l0 (l0.length : Int) x8_1 = some r) ∧ Aside0 (kq ≤ k) ∧ Drawn0 w w')
  case atStart => exact ⟨(0), (0), (by first | rfl | (simp; done) | (simp [*]; done)), (by first | rfl | (simp; done) | (simp [*]; done)), H', ⟨Nat.le_refl _⟩, by repeat (first | exact Drawn0.refl _ | apply Drawn0.step)⟩
  case round =>
    clear H'
    obtain ⟨x3_1, x8_1, rfl, rfl, HA, HK1, ⟨m1, rfl⟩⟩ := hrel
    cases gk with
    | zero => exact absurd HA.out (by simp [seq_fold_int.l0])
    | succ k1 =>
      have H := HA.out
      clear HA
      simp only [seq_fold_int.l0] at H
      by_cases c2 : x8_1 < (l0.length : Int)
      · rw [if_pos c2] at H
        have c2b0 : decide (x8_1 < (l0.length : Int)) = true := decide_eq_true c2
        clear c2
        by_cases c3 : 0 ≤ x8_1
        · rw [if_pos c3] at H
          have c3b0 : decide (0 ≤ x8_1) = true := decide_eq_true c3
          clear c3
          by_cases c4 : x8_1 < (l0.length : Int)
          · rw [if_pos c4] at H
            have c4b0 : decide (x8_1 < (l0.length : Int)) = true := decide_eq_true c4
            clear c4
            replace H := Option.bind_eq_some_iff.mp H
            obtain ⟨t102, A50, H⟩ := H
            replace H : ((seq_rest_int.f (wrap64 (x3_1 + t102))).bind fun t103 => (seq_fold_int.l0 k1 t103 l0 (l0.length : Int) (wrap64 (x8_1 + 1)))) = some r := H
            have A5 := Aside0.mk A50
            clear A50
            replace H := Option.bind_eq_some_iff.mp H
            obtain ⟨t103, A60, H⟩ := H
            replace H : (seq_fold_int.l0 k1 t103 l0 (l0.length : Int) (wrap64 (x8_1 + 1))) = some r := H
            have A6 := Aside0.mk A60
            clear A60
            have H' := Aside0.mk H
            clear H
            have p101 : 0 ≤ (x8_1 : Int) := of_decide_eq_true (by first | (with_reducible assumption) | assumption)
            have q101 : x8_1 < (l0.length : Int) := of_decide_eq_true (by first | (with_reducible assumption) | assumption)
            obtain ⟨ad101, e101, hx101_0⟩ := Kd.at_int HR0.out x8_1 p101 q101
            cases e101
            replace p101 := eq_true p101
            replace q101 := eq_true q101
            go_wp2_with (first | ((with_reducible refine gate_callee (f := 33) rfl ?_); refine goesL_ (some 14) rfl rfl Try.func33 (by kernel_rfl) rfl #[.int .i64 (rd l0 x8_1)] rfl (by (try simp only [List.map_toArray, List.map_cons, List.map_nil]); first | done | rfl | (simp only [List.length_drop, List.length_take]; rfl)) ?_; (with_reducible refine (seq_rest_int.calls (rd l0 x8_1) t102 _ A5.out).mono ?_); rintro e w' ⟨rfl, ⟨nd, rfl⟩⟩; refine ⟨_, rfl, ?_⟩) | ((with_reducible refine gate_callee (f := 33) rfl ?_); refine goesL_ (some 16) rfl rfl Try.func33 (by kernel_rfl) rfl #[.int .i64 (wrap64 (x3_1 + t102))] rfl (by (try simp only [List.map_toArray, List.map_cons, List.map_nil]); first | done | rfl | (simp only [List.length_drop, List.length_take]; rfl)) ?_; (with_reducible refine (seq_rest_int.calls (wrap64 (x3_1 + t102)) t103 _ A6.out).mono ?_); rintro e w' ⟨rfl, ⟨nd, rfl⟩⟩; refine ⟨_, rfl, ?_⟩))
            go_roundg k1
            case measure => have := HK1.out; omega
            case rel => exact ⟨(t103), (wrap64 (x8_1 + 1)), (by first | rfl | (simp; done) | (simp [*]; done)), (by first | rfl | (simp; done) | (simp [*]; done)), H', ⟨by have := HK1.out; omega⟩, by repeat (first | exact Drawn0.refl _ | apply Drawn0.step)⟩
          · rw [if_neg c4] at H
            exact absurd H (by simp)
        · rw [if_neg c3] at H
          exact absurd H (by simp)
      · rw [if_neg c2] at H
        have c2b0 : decide (x8_1 < (l0.length : Int)) = false := decide_eq_false c2
        clear c2
        obtain rfl := Option.some.inj H
        go_wp2
        go_ret
        exact ⟨by first | rfl | (simp; done) | (simp [*]; done), by repeat (first | exact Drawn0.refl _ | apply Drawn0.step)⟩

/-! ### seq_Add: function 16 -/
def seq_Add.f (k : Nat) (a0 : Int) (a1 : Int) : Option (Int) := (seq_fold_int.f k (([a0, a1] : List Int))).bind fun t107 => (some t107)
theorem seq_Add.mono : ∀ a0 a1 k, LeO (seq_Add.f k a0 a1) (seq_Add.f (k + 1) a0 a1) := by
  intro a0 a1 k
  unfold seq_Add.f
  repeat' first
      | (with_reducible exact seq_fold_int.mono _ _)
      | (with_reducible exact LeO.refl _)
      | (with_reducible exact LeO.none _)
      | (with_reducible refine LeO.ite ?_ ?_)
      | (with_reducible refine LeO.bind ?_ (fun _ => ?_))
      | exact seq_fold_int.mono _ _
      | exact LeO.none _
      | refine LeO.ite ?_ ?_
      | refine LeO.bind ?_ (fun _ => ?_)
set_option maxHeartbeats 8000000 in
set_option maxRecDepth 100000 in
theorem seq_Add.calls (k : Nat) (a0 : Int) (a1 : Int) (r : Int) (w : World) (h : seq_Add.f k a0 a1 = some r) :
    Calls Try.prog 16 #[.int .i64 a0, .int .i64 a1] w fun e w' => e = .returned (.int .i64 r) ∧ Below w.heap.size w w' := by
  have HB := Aside0.mk (Below.refl w.heap.size w)
  have H : ((seq_fold_int.f k (([a0, a1] : List Int))).bind fun t107 => (some t107)) = some r := h
  clear h
  obtain ⟨y104, hy104⟩ : ∃ y_ : List Int, y_ = (([a0, a1] : List Int)) := ⟨_, rfl⟩
  replace H : ((seq_fold_int.f k y104).bind fun t107 => (some t107)) = some r := by first | (rw [hy104]; with_reducible exact H) | (have H2_ := (Option.bind_some _ _).symm.trans H; rw [hy104]; with_reducible exact H2_) | (have H2_ := (Option.bind_some _ _).symm.trans H; with_reducible exact H2_) | with_reducible exact H | (rw [hy104]; exact H) | exact H
  have Ny104 := Aside0.mk hy104
  clear hy104
  replace H := Option.bind_eq_some_iff.mp H
  obtain ⟨t107, A30, H⟩ := H
  replace H : (some t107) = some r := H
  have A3 := Aside0.mk A30
  clear A30
  obtain rfl := Option.some.inj H
  go_enter Try.func16, Try.ntmps16
  go_wp2_with (first | ((with_reducible refine gate_dst (N := 7) rfl ?_); refine Kd.R_lit (Kd.int .i64) _ 3 ?hg (N := 7) ?hd (xs := ([a0, a1] : List Int)) (inner := [.int .i64 a0, .int .i64 a1]) (ok := fun _ => True) (okp := fun _ => True) ?hr ?hp (fun _ hk => hk) trivial (Below.refl _ _) (Nat.le_refl _) (by simp) ?_; (case hd => rfl); (case hg => rfl); (case hr => first | (go_simp; done) | (go_simp; rfl)); (case hp => exact (Reps.one (show Kd.M (Kd.int .i64) _ _ _ a0 [.int .i64 a0] from rfl) (Reps.one (show Kd.M (Kd.int .i64) _ _ _ a1 [.int .i64 a1] from rfl) (Reps.none _ _)))); intro v105 w4 ho5 hb hg_ hnew_; clear hg_ hnew_; (first | rw [← Ny104.out] at ho5 | (simp only [Int.reduceToNat] at ho5; rw [← Ny104.out] at ho5)); have n0_ := Aside0.mk (Kd.R_lower ho5 (below_size (by repeat (first | (with_reducible first | exact HB.out | apply below_alloc | apply pw_below_drewN | apply below_drew1) | exact HB.out)))); have n1_ := Aside0.mk (below_step (by repeat (first | (with_reducible first | exact HB.out | apply below_alloc | apply pw_below_drewN | apply below_drew1) | exact HB.out)) hb); clear HB; have HO106 := n0_; have HB := n1_; clear n0_ n1_; clear hb ho5; obtain ⟨Ao6, co6, eo6⟩ := Kd.R_slice HO106.out; subst eo6) | ((with_reducible refine gate_callee (f := 32) rfl ?_); refine goesL_ (some 8) rfl rfl Try.func32 (by kernel_rfl) rfl #[.slice Ao6 y104.length co6] rfl (by (try simp only [List.map_toArray, List.map_cons, List.map_nil]); first | done | rfl | (simp only [List.length_drop, List.length_take]; rfl)) ?_; (with_reducible refine (seq_fold_int.calls k _ _ y104 t107 _ ?side1 ?side2 A3.out).mono ?_); (case side1 => repeat (first | exact (Kd.R_reads' HO106.out).2.2 | (with_reducible refine Kd.C_alloc ?_ _) | (with_reducible refine Kd.C_drewN ?_ _) | (with_reducible refine Kd.C_drew ?_))); (case side2 => exact (Kd.R_reads' HO106.out).2.1); rintro e w' ⟨rfl, ⟨nd, rfl⟩⟩; refine ⟨_, rfl, ?_⟩))
  go_ret
  exact ⟨by first | rfl | (simp [errW_none, errW_some] <;> rfl) | (simp [*, errW_none, errW_some] <;> rfl), by repeat (first | (with_reducible first | exact HB.out | apply below_alloc | apply pw_below_drewN | apply below_drew1) | exact HB.out)⟩

/-! ### seq_Dist: function 18 -/
def seq_Dist.f (k : Nat) (a0 : Int) (a1 : Int) : Option (Int) := (seq_rest_int.f a0).bind fun t108 => ((seq_fold_int.f k (([a1, wrap64 (-t108)] : List Int))).bind fun t112 => (some t112))
theorem seq_Dist.mono : ∀ a0 a1 k, LeO (seq_Dist.f k a0 a1) (seq_Dist.f (k + 1) a0 a1) := by
  intro a0 a1 k
  unfold seq_Dist.f
  repeat' first
      | (with_reducible exact seq_fold_int.mono _ _)
      | (with_reducible exact LeO.refl _)
      | (with_reducible exact LeO.none _)
      | (with_reducible refine LeO.ite ?_ ?_)
      | (with_reducible refine LeO.bind ?_ (fun _ => ?_))
      | exact seq_fold_int.mono _ _
      | exact LeO.none _
      | refine LeO.ite ?_ ?_
      | refine LeO.bind ?_ (fun _ => ?_)
set_option maxHeartbeats 8000000 in
set_option maxRecDepth 100000 in
theorem seq_Dist.calls (k : Nat) (a0 : Int) (a1 : Int) (r : Int) (w : World) (h : seq_Dist.f k a0 a1 = some r) :
    Calls Try.prog 18 #[.int .i64 a0, .int .i64 a1] w fun e w' => e = .returned (.int .i64 r) ∧ Below w.heap.size w w' := by
  have HB := Aside0.mk (Below.refl w.heap.size w)
  have H : ((seq_rest_int.f a0).bind fun t108 => ((seq_fold_int.f k (([a1, wrap64 (-t108)] : List Int))).bind fun t112 => (some t112))) = some r := h
  clear h
  replace H := Option.bind_eq_some_iff.mp H
  obtain ⟨t108, A30, H⟩ := H
  replace H : ((seq_fold_int.f k (([a1, wrap64 (-t108)] : List Int))).bind fun t112 => (some t112)) = some r := H
  have A3 := Aside0.mk A30
  clear A30
  obtain ⟨y109, hy109⟩ : ∃ y_ : List Int, y_ = (([a1, wrap64 (-t108)] : List Int)) := ⟨_, rfl⟩
  replace H : ((seq_fold_int.f k y109).bind fun t112 => (some t112)) = some r := by first | (rw [hy109]; with_reducible exact H) | (have H2_ := (Option.bind_some _ _).symm.trans H; rw [hy109]; with_reducible exact H2_) | (have H2_ := (Option.bind_some _ _).symm.trans H; with_reducible exact H2_) | with_reducible exact H | (rw [hy109]; exact H) | exact H
  have Ny109 := Aside0.mk hy109
  clear hy109
  replace H := Option.bind_eq_some_iff.mp H
  obtain ⟨t112, A40, H⟩ := H
  replace H : (some t112) = some r := H
  have A4 := Aside0.mk A40
  clear A40
  obtain rfl := Option.some.inj H
  go_enter Try.func18, Try.ntmps18
  go_wp2_with (first | ((with_reducible refine gate_callee (f := 33) rfl ?_); refine goesL_ (some 7) rfl rfl Try.func33 (by kernel_rfl) rfl #[.int .i64 a0] rfl (by (try simp only [List.map_toArray, List.map_cons, List.map_nil]); first | done | rfl | (simp only [List.length_drop, List.length_take]; rfl)) ?_; (with_reducible refine (seq_rest_int.calls a0 t108 _ A3.out).mono ?_); rintro e w' ⟨rfl, ⟨nd, rfl⟩⟩; refine ⟨_, rfl, ?_⟩) | ((with_reducible refine gate_dst (N := 9) rfl ?_); refine Kd.R_lit (Kd.int .i64) _ 3 ?hg (N := 9) ?hd (xs := ([a1, wrap64 (-t108)] : List Int)) (inner := [.int .i64 a1, .int .i64 (wrap64 (-t108))]) (ok := fun _ => True) (okp := fun _ => True) ?hr ?hp (fun _ hk => hk) trivial (Below.refl _ _) (Nat.le_refl _) (by simp) ?_; (case hd => rfl); (case hg => rfl); (case hr => first | (go_simp; done) | (go_simp; rfl)); (case hp => exact (Reps.one (show Kd.M (Kd.int .i64) _ _ _ a1 [.int .i64 a1] from rfl) (Reps.one (show Kd.M (Kd.int .i64) _ _ _ (wrap64 (-t108)) [.int .i64 (wrap64 (-t108))] from rfl) (Reps.none _ _)))); intro v110 w5 ho6 hb hg_ hnew_; clear hg_ hnew_; (first | rw [← Ny109.out] at ho6 | (simp only [Int.reduceToNat] at ho6; rw [← Ny109.out] at ho6)); have n0_ := Aside0.mk (Kd.R_lower ho6 (below_size (by repeat (first | (with_reducible first | exact HB.out | apply below_alloc | apply pw_below_drewN | apply below_drew1) | exact HB.out)))); have n1_ := Aside0.mk (below_step (by repeat (first | (with_reducible first | exact HB.out | apply below_alloc | apply pw_below_drewN | apply below_drew1) | exact HB.out)) hb); clear HB; have HO111 := n0_; have HB := n1_; clear n0_ n1_; clear hb ho6; obtain ⟨Ao7, co7, eo7⟩ := Kd.R_slice HO111.out; subst eo7) | ((with_reducible refine gate_callee (f := 32) rfl ?_); refine goesL_ (some 10) rfl rfl Try.func32 (by kernel_rfl) rfl #[.slice Ao7 y109.length co7] rfl (by (try simp only [List.map_toArray, List.map_cons, List.map_nil]); first | done | rfl | (simp only [List.length_drop, List.length_take]; rfl)) ?_; (with_reducible refine (seq_fold_int.calls k _ _ y109 t112 _ ?side1 ?side2 A4.out).mono ?_); (case side1 => repeat (first | exact (Kd.R_reads' HO111.out).2.2 | (with_reducible refine Kd.C_alloc ?_ _) | (with_reducible refine Kd.C_drewN ?_ _) | (with_reducible refine Kd.C_drew ?_))); (case side2 => exact (Kd.R_reads' HO111.out).2.1); rintro e w' ⟨rfl, ⟨nd, rfl⟩⟩; refine ⟨_, rfl, ?_⟩))
  go_ret
  exact ⟨by first | rfl | (simp [errW_none, errW_some] <;> rfl) | (simp [*, errW_none, errW_some] <;> rfl), by repeat (first | (with_reducible first | exact HB.out | apply below_alloc | apply pw_below_drewN | apply below_drew1) | exact HB.out)⟩

/-! ### antiphonlaw9_awake: function 13 -/
def antiphonlaw9_awake.f (k : Nat)  : Option (Bool) := (seq_Add.f k 127 2).bind fun t113 => (if t113 = 1 then ((seq_Dist.f k 127 1).bind fun t114 => (if t114 = 2 then (some true) else (some false))) else (some false))
theorem antiphonlaw9_awake.mono : ∀ k, LeO (antiphonlaw9_awake.f k ) (antiphonlaw9_awake.f (k + 1) ) := by
  intro  k
  unfold antiphonlaw9_awake.f
  repeat' first
      | (with_reducible exact seq_Add.mono _ _ _)
      | (with_reducible exact seq_Dist.mono _ _ _)
      | (with_reducible exact LeO.refl _)
      | (with_reducible exact LeO.none _)
      | (with_reducible refine LeO.ite ?_ ?_)
      | (with_reducible refine LeO.bind ?_ (fun _ => ?_))
      | exact seq_Add.mono _ _ _
      | exact seq_Dist.mono _ _ _
      | exact LeO.none _
      | refine LeO.ite ?_ ?_
      | refine LeO.bind ?_ (fun _ => ?_)
set_option maxHeartbeats 8000000 in
set_option maxRecDepth 100000 in
theorem antiphonlaw9_awake.calls (k : Nat)  (r : Bool) (w : World) (h : antiphonlaw9_awake.f k  = some r) :
    Calls Try.prog 13 #[] w fun e w' => e = .returned (.bool r) ∧ Below w.heap.size w w' := by
  have HB := Aside0.mk (Below.refl w.heap.size w)
  have H : ((seq_Add.f k 127 2).bind fun t113 => (if t113 = 1 then ((seq_Dist.f k 127 1).bind fun t114 => (if t114 = 2 then (some true) else (some false))) else (some false))) = some r := h
  clear h
  replace H := Option.bind_eq_some_iff.mp H
  obtain ⟨t113, A10, H⟩ := H
  replace H : (if t113 = 1 then ((seq_Dist.f k 127 1).bind fun t114 => (if t114 = 2 then (some true) else (some false))) else (some false)) = some r := H
  have A1 := Aside0.mk A10
  clear A10
  by_cases c2 : t113 = 1
  · rw [if_pos c2] at H
    have c2b0 : (t113 == 1) = true := beq_iff_eq.mpr c2
    have c2b1 : (t113 != 1) = false := bne_eq_false_iff_eq.mpr c2
    clear c2
    replace H := Option.bind_eq_some_iff.mp H
    obtain ⟨t114, A30, H⟩ := H
    replace H : (if t114 = 2 then (some true) else (some false)) = some r := H
    have A3 := Aside0.mk A30
    clear A30
    by_cases c4 : t114 = 2
    · rw [if_pos c4] at H
      have c4b0 : (t114 == 2) = true := beq_iff_eq.mpr c4
      have c4b1 : (t114 != 2) = false := bne_eq_false_iff_eq.mpr c4
      clear c4
      obtain rfl := Option.some.inj H
      go_enter Try.func13, Try.ntmps13
      go_wp2_with (first | ((with_reducible refine gate_callee (f := 16) rfl ?_); refine goesL_ (some 1) rfl rfl Try.func16 (by kernel_rfl) rfl #[.int .i64 127, .int .i64 2] rfl (by (try simp only [List.map_toArray, List.map_cons, List.map_nil]); first | done | rfl | (simp only [List.length_drop, List.length_take]; rfl)) ?_; (with_reducible refine (seq_Add.calls k 127 2 t113 _ A1.out).mono ?_); rintro e w5 ⟨rfl, hb⟩; refine ⟨_, rfl, ?_⟩; have n0_ := Aside0.mk (below_step (by repeat (first | (with_reducible first | exact HB.out | apply below_alloc | apply pw_below_drewN | apply below_drew1) | exact HB.out)) hb); clear HB; have HB := n0_; clear n0_; (try clear hb); (try clear hb2); (try clear hk); (try clear hi)) | (go_at_call 18; (with_reducible refine (seq_Dist.calls k 127 1 t114 _ A3.out).mono ?_); rintro e w6 ⟨rfl, hb⟩; have n0_ := Aside0.mk (below_step (by repeat (first | (with_reducible first | exact HB.out | apply below_alloc | apply pw_below_drewN | apply below_drew1) | exact HB.out)) hb); clear HB; have HB := n0_; clear n0_; (try clear hb); (try clear hb2); (try clear hk); (try clear hi)))
      go_ret
      exact ⟨by first | rfl | (simp [errW_none, errW_some] <;> rfl) | (simp [*, errW_none, errW_some] <;> rfl), by repeat (first | (with_reducible first | exact HB.out | apply below_alloc | apply pw_below_drewN | apply below_drew1) | exact HB.out)⟩
    · rw [if_neg c4] at H
      have c4b0 : (t114 == 2) = false := beq_eq_false_iff_ne.mpr c4
      have c4b1 : (t114 != 2) = true := bne_iff_ne.mpr c4
      obtain rfl := Option.some.inj H
      go_enter Try.func13, Try.ntmps13
      go_wp2_with (first | ((with_reducible refine gate_callee (f := 16) rfl ?_); refine goesL_ (some 1) rfl rfl Try.func16 (by kernel_rfl) rfl #[.int .i64 127, .int .i64 2] rfl (by (try simp only [List.map_toArray, List.map_cons, List.map_nil]); first | done | rfl | (simp only [List.length_drop, List.length_take]; rfl)) ?_; (with_reducible refine (seq_Add.calls k 127 2 t113 _ A1.out).mono ?_); rintro e w7 ⟨rfl, hb⟩; refine ⟨_, rfl, ?_⟩; have n0_ := Aside0.mk (below_step (by repeat (first | (with_reducible first | exact HB.out | apply below_alloc | apply pw_below_drewN | apply below_drew1) | exact HB.out)) hb); clear HB; have HB := n0_; clear n0_; (try clear hb); (try clear hb2); (try clear hk); (try clear hi)) | (go_at_call 18; (with_reducible refine (seq_Dist.calls k 127 1 t114 _ A3.out).mono ?_); rintro e w8 ⟨rfl, hb⟩; have n0_ := Aside0.mk (below_step (by repeat (first | (with_reducible first | exact HB.out | apply below_alloc | apply pw_below_drewN | apply below_drew1) | exact HB.out)) hb); clear HB; have HB := n0_; clear n0_; (try clear hb); (try clear hb2); (try clear hk); (try clear hi)))
      go_ret
      exact ⟨by first | rfl | (simp [errW_none, errW_some] <;> rfl) | (simp [*, errW_none, errW_some] <;> rfl), by repeat (first | (with_reducible first | exact HB.out | apply below_alloc | apply pw_below_drewN | apply below_drew1) | exact HB.out)⟩
  · rw [if_neg c2] at H
    have c2b0 : (t113 == 1) = false := beq_eq_false_iff_ne.mpr c2
    have c2b1 : (t113 != 1) = true := bne_iff_ne.mpr c2
    obtain rfl := Option.some.inj H
    go_enter Try.func13, Try.ntmps13
    go_wp2_with (first | ((with_reducible refine gate_callee (f := 16) rfl ?_); refine goesL_ (some 1) rfl rfl Try.func16 (by kernel_rfl) rfl #[.int .i64 127, .int .i64 2] rfl (by (try simp only [List.map_toArray, List.map_cons, List.map_nil]); first | done | rfl | (simp only [List.length_drop, List.length_take]; rfl)) ?_; (with_reducible refine (seq_Add.calls k 127 2 t113 _ A1.out).mono ?_); rintro e w9 ⟨rfl, hb⟩; refine ⟨_, rfl, ?_⟩; have n0_ := Aside0.mk (below_step (by repeat (first | (with_reducible first | exact HB.out | apply below_alloc | apply pw_below_drewN | apply below_drew1) | exact HB.out)) hb); clear HB; have HB := n0_; clear n0_; (try clear hb); (try clear hb2); (try clear hk); (try clear hi)))
    go_ret
    exact ⟨by first | rfl | (simp [errW_none, errW_some] <;> rfl) | (simp [*, errW_none, errW_some] <;> rfl), by repeat (first | (with_reducible first | exact HB.out | apply below_alloc | apply pw_below_drewN | apply below_drew1) | exact HB.out)⟩

/-! ### seq_Less: function 14 -/
def seq_Less.f (k : Nat) (a0 : Int) (a1 : Int) : Option (Int) := (seq_Dist.f k a0 a1).bind fun t115 => (if t115 = 0 then (some 0) else (if t115 < 64 then (some (-1)) else (some 1)))
theorem seq_Less.mono : ∀ a0 a1 k, LeO (seq_Less.f k a0 a1) (seq_Less.f (k + 1) a0 a1) := by
  intro a0 a1 k
  unfold seq_Less.f
  repeat' first
      | (with_reducible exact seq_Dist.mono _ _ _)
      | (with_reducible exact LeO.refl _)
      | (with_reducible exact LeO.none _)
      | (with_reducible refine LeO.ite ?_ ?_)
      | (with_reducible refine LeO.bind ?_ (fun _ => ?_))
      | exact seq_Dist.mono _ _ _
      | exact LeO.none _
      | refine LeO.ite ?_ ?_
      | refine LeO.bind ?_ (fun _ => ?_)
set_option maxHeartbeats 8000000 in
set_option maxRecDepth 100000 in
theorem seq_Less.calls (k : Nat) (a0 : Int) (a1 : Int) (r : Int) (w : World) (h : seq_Less.f k a0 a1 = some r) :
    Calls Try.prog 14 #[.int .i64 a0, .int .i64 a1] w fun e w' => e = .returned (.int .i64 r) ∧ Below w.heap.size w w' := by
  have HB := Aside0.mk (Below.refl w.heap.size w)
  have H : ((seq_Dist.f k a0 a1).bind fun t115 => (if t115 = 0 then (some 0) else (if t115 < 64 then (some (-1)) else (some 1)))) = some r := h
  clear h
  replace H := Option.bind_eq_some_iff.mp H
  obtain ⟨t115, A30, H⟩ := H
  replace H : (if t115 = 0 then (some 0) else (if t115 < 64 then (some (-1)) else (some 1))) = some r := H
  have A3 := Aside0.mk A30
  clear A30
  by_cases c4 : t115 = 0
  · rw [if_pos c4] at H
    have c4b0 : (t115 == 0) = true := beq_iff_eq.mpr c4
    have c4b1 : (t115 != 0) = false := bne_eq_false_iff_eq.mpr c4
    clear c4
    obtain rfl := Option.some.inj H
    go_enter Try.func14, Try.ntmps14
    go_wp2_with (first | ((with_reducible refine gate_callee (f := 18) rfl ?_); refine goesL_ (some 8) rfl rfl Try.func18 (by kernel_rfl) rfl #[.int .i64 a0, .int .i64 a1] rfl (by (try simp only [List.map_toArray, List.map_cons, List.map_nil]); first | done | rfl | (simp only [List.length_drop, List.length_take]; rfl)) ?_; (with_reducible refine (seq_Dist.calls k a0 a1 t115 _ A3.out).mono ?_); rintro e w5 ⟨rfl, hb⟩; refine ⟨_, rfl, ?_⟩; have n0_ := Aside0.mk (below_step (by repeat (first | (with_reducible first | exact HB.out | apply below_alloc | apply pw_below_drewN | apply below_drew1) | exact HB.out)) hb); clear HB; have HB := n0_; clear n0_; (try clear hb); (try clear hb2); (try clear hk); (try clear hi)))
    go_ret
    exact ⟨by first | rfl | (simp [errW_none, errW_some] <;> rfl) | (simp [*, errW_none, errW_some] <;> rfl), by repeat (first | (with_reducible first | exact HB.out | apply below_alloc | apply pw_below_drewN | apply below_drew1) | exact HB.out)⟩
  · rw [if_neg c4] at H
    have c4b0 : (t115 == 0) = false := beq_eq_false_iff_ne.mpr c4
    have c4b1 : (t115 != 0) = true := bne_iff_ne.mpr c4
    by_cases c6 : t115 < 64
    · rw [if_pos c6] at H
      have c6b0 : decide (t115 < 64) = true := decide_eq_true c6
      clear c6
      obtain rfl := Option.some.inj H
      go_enter Try.func14, Try.ntmps14
      go_wp2_with (first | ((with_reducible refine gate_callee (f := 18) rfl ?_); refine goesL_ (some 8) rfl rfl Try.func18 (by kernel_rfl) rfl #[.int .i64 a0, .int .i64 a1] rfl (by (try simp only [List.map_toArray, List.map_cons, List.map_nil]); first | done | rfl | (simp only [List.length_drop, List.length_take]; rfl)) ?_; (with_reducible refine (seq_Dist.calls k a0 a1 t115 _ A3.out).mono ?_); rintro e w7 ⟨rfl, hb⟩; refine ⟨_, rfl, ?_⟩; have n0_ := Aside0.mk (below_step (by repeat (first | (with_reducible first | exact HB.out | apply below_alloc | apply pw_below_drewN | apply below_drew1) | exact HB.out)) hb); clear HB; have HB := n0_; clear n0_; (try clear hb); (try clear hb2); (try clear hk); (try clear hi)))
      go_ret
      exact ⟨by first | rfl | (simp [errW_none, errW_some] <;> rfl) | (simp [*, errW_none, errW_some] <;> rfl), by repeat (first | (with_reducible first | exact HB.out | apply below_alloc | apply pw_below_drewN | apply below_drew1) | exact HB.out)⟩
    · rw [if_neg c6] at H
      have c6b0 : decide (t115 < 64) = false := decide_eq_false c6
      clear c6
      obtain rfl := Option.some.inj H
      go_enter Try.func14, Try.ntmps14
      go_wp2_with (first | ((with_reducible refine gate_callee (f := 18) rfl ?_); refine goesL_ (some 8) rfl rfl Try.func18 (by kernel_rfl) rfl #[.int .i64 a0, .int .i64 a1] rfl (by (try simp only [List.map_toArray, List.map_cons, List.map_nil]); first | done | rfl | (simp only [List.length_drop, List.length_take]; rfl)) ?_; (with_reducible refine (seq_Dist.calls k a0 a1 t115 _ A3.out).mono ?_); rintro e w8 ⟨rfl, hb⟩; refine ⟨_, rfl, ?_⟩; have n0_ := Aside0.mk (below_step (by repeat (first | (with_reducible first | exact HB.out | apply below_alloc | apply pw_below_drewN | apply below_drew1) | exact HB.out)) hb); clear HB; have HB := n0_; clear n0_; (try clear hb); (try clear hb2); (try clear hk); (try clear hi)))
      go_ret
      exact ⟨by first | rfl | (simp [errW_none, errW_some] <;> rfl) | (simp [*, errW_none, errW_some] <;> rfl), by repeat (first | (with_reducible first | exact HB.out | apply below_alloc | apply pw_below_drewN | apply below_drew1) | exact HB.out)⟩

/-! ### seq_In: function 15 -/
def seq_In.f (k : Nat) (a0 : Int) (a1 : Int) (a2 : Int) : Option (Bool) := (seq_Dist.f k a1 a0).bind fun t116 => ((seq_Dist.f k a1 a2).bind fun t117 => (some (decide (t116 ≤ t117))))
theorem seq_In.mono : ∀ a0 a1 a2 k, LeO (seq_In.f k a0 a1 a2) (seq_In.f (k + 1) a0 a1 a2) := by
  intro a0 a1 a2 k
  unfold seq_In.f
  repeat' first
      | (with_reducible exact seq_Dist.mono _ _ _)
      | (with_reducible exact LeO.refl _)
      | (with_reducible exact LeO.none _)
      | (with_reducible refine LeO.ite ?_ ?_)
      | (with_reducible refine LeO.bind ?_ (fun _ => ?_))
      | exact seq_Dist.mono _ _ _
      | exact LeO.none _
      | refine LeO.ite ?_ ?_
      | refine LeO.bind ?_ (fun _ => ?_)
set_option maxHeartbeats 8000000 in
set_option maxRecDepth 100000 in
theorem seq_In.calls (k : Nat) (a0 : Int) (a1 : Int) (a2 : Int) (r : Bool) (w : World) (h : seq_In.f k a0 a1 a2 = some r) :
    Calls Try.prog 15 #[.int .i64 a0, .int .i64 a1, .int .i64 a2] w fun e w' => e = .returned (.bool r) ∧ Below w.heap.size w w' := by
  have HB := Aside0.mk (Below.refl w.heap.size w)
  have H : ((seq_Dist.f k a1 a0).bind fun t116 => ((seq_Dist.f k a1 a2).bind fun t117 => (some (decide (t116 ≤ t117))))) = some r := h
  clear h
  replace H := Option.bind_eq_some_iff.mp H
  obtain ⟨t116, A40, H⟩ := H
  replace H : ((seq_Dist.f k a1 a2).bind fun t117 => (some (decide (t116 ≤ t117)))) = some r := H
  have A4 := Aside0.mk A40
  clear A40
  replace H := Option.bind_eq_some_iff.mp H
  obtain ⟨t117, A50, H⟩ := H
  replace H : (some (decide (t116 ≤ t117))) = some r := H
  have A5 := Aside0.mk A50
  clear A50
  obtain rfl := Option.some.inj H
  go_enter Try.func15, Try.ntmps15
  go_wp2_with (first | ((with_reducible refine gate_callee (f := 18) rfl ?_); refine goesL_ (some 9) rfl rfl Try.func18 (by kernel_rfl) rfl #[.int .i64 a1, .int .i64 a0] rfl (by (try simp only [List.map_toArray, List.map_cons, List.map_nil]); first | done | rfl | (simp only [List.length_drop, List.length_take]; rfl)) ?_; (with_reducible refine (seq_Dist.calls k a1 a0 t116 _ A4.out).mono ?_); rintro e w6 ⟨rfl, hb⟩; refine ⟨_, rfl, ?_⟩; have n0_ := Aside0.mk (below_step (by repeat (first | (with_reducible first | exact HB.out | apply below_alloc | apply pw_below_drewN | apply below_drew1) | exact HB.out)) hb); clear HB; have HB := n0_; clear n0_; (try clear hb); (try clear hb2); (try clear hk); (try clear hi)) | ((with_reducible refine gate_callee (f := 18) rfl ?_); refine goesL_ (some 12) rfl rfl Try.func18 (by kernel_rfl) rfl #[.int .i64 a1, .int .i64 a2] rfl (by (try simp only [List.map_toArray, List.map_cons, List.map_nil]); first | done | rfl | (simp only [List.length_drop, List.length_take]; rfl)) ?_; (with_reducible refine (seq_Dist.calls k a1 a2 t117 _ A5.out).mono ?_); rintro e w7 ⟨rfl, hb⟩; refine ⟨_, rfl, ?_⟩; have n0_ := Aside0.mk (below_step (by repeat (first | (with_reducible first | exact HB.out | apply below_alloc | apply pw_below_drewN | apply below_drew1) | exact HB.out)) hb); clear HB; have HB := n0_; clear n0_; (try clear hb); (try clear hb2); (try clear hk); (try clear hi)))
  go_ret
  exact ⟨by first | rfl | (simp [errW_none, errW_some] <;> rfl) | (simp [*, errW_none, errW_some] <;> rfl), by repeat (first | (with_reducible first | exact HB.out | apply below_alloc | apply pw_below_drewN | apply below_drew1) | exact HB.out)⟩

/-! ### antiphonlaw9_SeqWays: function 5 -/
def antiphonlaw9_SeqWays.l0 : Nat → Int → Int → Int → Int → Int → Bool → Int → Option (Bool)
  | 0, _, _, _, _, _, _, _ => none
  | k + 1, x7, x8, x9, x10, x11, x12, x13 => if x13 ≤ x10 then (if x12 = true then (antiphonlaw9_SeqWays.l0 k x7 x8 x9 x10 x11 true (wrap64 (x13 + 1))) else ((seq_Add.f k x7 x13).bind fun t122 => (antiphonlaw9_SeqWays.l0 k x7 x8 x9 x10 x11 (t122 == x9) (wrap64 (x13 + 1))))) else ((seq_Add.f k x7 x10).bind fun t123 => (if t123 = x8 then (if x11 = 0 then (if x7 = x8 then ((seq_In.f k x9 x7 x8).bind fun t124 => (if (t124 == x12) = true then ((seq_In.f k x7 x7 x8).bind fun t125 => (if t125 = true then ((seq_In.f k x8 x7 x8).bind fun t126 => (if t126 = true then (if x10 = 64 then (some true) else ((seq_Less.f k x7 x8).bind fun t127 => ((seq_Less.f k x8 x7).bind fun t128 => (some (t127 == (wrap64 (-t128))))))) else (some false))) else (some false))) else (some false))) else (if x11 = 128 then ((seq_In.f k x9 x7 x8).bind fun t129 => (if (t129 == x12) = true then ((seq_In.f k x7 x7 x8).bind fun t130 => (if t130 = true then ((seq_In.f k x8 x7 x8).bind fun t131 => (if t131 = true then (if x10 = 64 then (some true) else ((seq_Less.f k x7 x8).bind fun t132 => ((seq_Less.f k x8 x7).bind fun t133 => (some (t132 == (wrap64 (-t133))))))) else (some false))) else (some false))) else (some false))) else (some false))) else (if x11 = 128 then (if x7 = x8 then (some false) else ((seq_In.f k x9 x7 x8).bind fun t134 => (if (t134 == x12) = true then ((seq_In.f k x7 x7 x8).bind fun t135 => (if t135 = true then ((seq_In.f k x8 x7 x8).bind fun t136 => (if t136 = true then (if x10 = 64 then (some true) else ((seq_Less.f k x7 x8).bind fun t137 => ((seq_Less.f k x8 x7).bind fun t138 => (some (t137 == (wrap64 (-t138))))))) else (some false))) else (some false))) else (some false)))) else (some false))) else (some false)))
def antiphonlaw9_SeqWays.f (k : Nat) (a0 : Int) (a1 : Int) (a2 : Int) : Option (Bool) := (antiphonlaw9_awake.f k).bind fun t118 => (if t118 = true then ((seq_Dist.f k (Go.bits .and .i64 (wrap64 (a0)) 127) (Go.bits .and .i64 (wrap64 (a1)) 127)).bind fun t119 => ((seq_Dist.f k (Go.bits .and .i64 (wrap64 (a0)) 127) (Go.bits .and .i64 (wrap64 (a1)) 127)).bind fun t120 => ((seq_Dist.f k (Go.bits .and .i64 (wrap64 (a1)) 127) (Go.bits .and .i64 (wrap64 (a0)) 127)).bind fun t121 => (antiphonlaw9_SeqWays.l0 k (Go.bits .and .i64 (wrap64 (a0)) 127) (Go.bits .and .i64 (wrap64 (a1)) 127) (Go.bits .and .i64 (wrap64 (a2)) 127) t119 (wrap64 (t120 + t121)) false 0)))) else (some false))
theorem antiphonlaw9_SeqWays.mono_l : ∀ k, (∀ y0 y1 y2 y3 y4 y5 y6, LeO (antiphonlaw9_SeqWays.l0 k y0 y1 y2 y3 y4 y5 y6) (antiphonlaw9_SeqWays.l0 (k + 1) y0 y1 y2 y3 y4 y5 y6))
  | 0 => fun _ _ _ _ _ _ _ r h => by simp [antiphonlaw9_SeqWays.l0] at h
  | k + 1 => by
    have ih0 := antiphonlaw9_SeqWays.mono_l k
    · intro y0 y1 y2 y3 y4 y5 y6
      unfold antiphonlaw9_SeqWays.l0
      repeat' first
      | (with_reducible exact ih0 _ _ _ _ _ _ _)
      | (with_reducible exact antiphonlaw9_awake.mono _)
      | (with_reducible exact seq_Add.mono _ _ _)
      | (with_reducible exact seq_Dist.mono _ _ _)
      | (with_reducible exact seq_In.mono _ _ _ _)
      | (with_reducible exact seq_Less.mono _ _ _)
      | (with_reducible exact LeO.refl _)
      | (with_reducible exact LeO.none _)
      | (with_reducible refine LeO.ite ?_ ?_)
      | (with_reducible refine LeO.bind ?_ (fun _ => ?_))
      | exact ih0 _ _ _ _ _ _ _
      | exact antiphonlaw9_awake.mono _
      | exact seq_Add.mono _ _ _
      | exact seq_Dist.mono _ _ _
      | exact seq_In.mono _ _ _ _
      | exact seq_Less.mono _ _ _
      | exact LeO.none _
      | refine LeO.ite ?_ ?_
      | refine LeO.bind ?_ (fun _ => ?_)
theorem antiphonlaw9_SeqWays.mono : ∀ a0 a1 a2 k, LeO (antiphonlaw9_SeqWays.f k a0 a1 a2) (antiphonlaw9_SeqWays.f (k + 1) a0 a1 a2) := by
  intro a0 a1 a2 k
  have ih0 := antiphonlaw9_SeqWays.mono_l k
  unfold antiphonlaw9_SeqWays.f
  repeat' first
      | (with_reducible exact ih0 _ _ _ _ _ _ _)
      | (with_reducible exact antiphonlaw9_awake.mono _)
      | (with_reducible exact seq_Add.mono _ _ _)
      | (with_reducible exact seq_Dist.mono _ _ _)
      | (with_reducible exact seq_In.mono _ _ _ _)
      | (with_reducible exact seq_Less.mono _ _ _)
      | (with_reducible exact LeO.refl _)
      | (with_reducible exact LeO.none _)
      | (with_reducible refine LeO.ite ?_ ?_)
      | (with_reducible refine LeO.bind ?_ (fun _ => ?_))
      | exact ih0 _ _ _ _ _ _ _
      | exact antiphonlaw9_awake.mono _
      | exact seq_Add.mono _ _ _
      | exact seq_Dist.mono _ _ _
      | exact seq_In.mono _ _ _ _
      | exact seq_Less.mono _ _ _
      | exact LeO.none _
      | refine LeO.ite ?_ ?_
      | refine LeO.bind ?_ (fun _ => ?_)
set_option maxHeartbeats 8000000 in
set_option maxRecDepth 100000 in
theorem antiphonlaw9_SeqWays.calls (k : Nat) (a0 : Int) (a1 : Int) (a2 : Int) (r : Bool) (w : World) (h : antiphonlaw9_SeqWays.f k a0 a1 a2 = some r) :
    Calls Try.prog 5 #[.int .u8 a0, .int .u8 a1, .int .u8 a2] w fun e w' => e = .returned (.bool r) ∧ Below w.heap.size w w' := by
  have HB := Aside0.mk (Below.refl w.heap.size w)
  have H : ((antiphonlaw9_awake.f k).bind fun t118 => (if t118 = true then ((seq_Dist.f k (Go.bits .and .i64 (wrap64 (a0)) 127) (Go.bits .and .i64 (wrap64 (a1)) 127)).bind fun t119 => ((seq_Dist.f k (Go.bits .and .i64 (wrap64 (a0)) 127) (Go.bits .and .i64 (wrap64 (a1)) 127)).bind fun t120 => ((seq_Dist.f k (Go.bits .and .i64 (wrap64 (a1)) 127) (Go.bits .and .i64 (wrap64 (a0)) 127)).bind fun t121 => (antiphonlaw9_SeqWays.l0 k (Go.bits .and .i64 (wrap64 (a0)) 127) (Go.bits .and .i64 (wrap64 (a1)) 127) (Go.bits .and .i64 (wrap64 (a2)) 127) t119 (wrap64 (t120 + t121)) false 0)))) else (some false))) = some r := h
  clear h
  replace H := Option.bind_eq_some_iff.mp H
  obtain ⟨t118, A40, H⟩ := H
  replace H : (if t118 = true then ((seq_Dist.f k (Go.bits .and .i64 (wrap64 (a0)) 127) (Go.bits .and .i64 (wrap64 (a1)) 127)).bind fun t119 => ((seq_Dist.f k (Go.bits .and .i64 (wrap64 (a0)) 127) (Go.bits .and .i64 (wrap64 (a1)) 127)).bind fun t120 => ((seq_Dist.f k (Go.bits .and .i64 (wrap64 (a1)) 127) (Go.bits .and .i64 (wrap64 (a0)) 127)).bind fun t121 => (antiphonlaw9_SeqWays.l0 k (Go.bits .and .i64 (wrap64 (a0)) 127) (Go.bits .and .i64 (wrap64 (a1)) 127) (Go.bits .and .i64 (wrap64 (a2)) 127) t119 (wrap64 (t120 + t121)) false 0)))) else (some false)) = some r := H
  have A4 := Aside0.mk A40
  clear A40
  by_cases c5 : t118 = true
  · subst c5
    have H1 : ((seq_Dist.f k (Go.bits .and .i64 (wrap64 (a0)) 127) (Go.bits .and .i64 (wrap64 (a1)) 127)).bind fun t119 => ((seq_Dist.f k (Go.bits .and .i64 (wrap64 (a0)) 127) (Go.bits .and .i64 (wrap64 (a1)) 127)).bind fun t120 => ((seq_Dist.f k (Go.bits .and .i64 (wrap64 (a1)) 127) (Go.bits .and .i64 (wrap64 (a0)) 127)).bind fun t121 => (antiphonlaw9_SeqWays.l0 k (Go.bits .and .i64 (wrap64 (a0)) 127) (Go.bits .and .i64 (wrap64 (a1)) 127) (Go.bits .and .i64 (wrap64 (a2)) 127) t119 (wrap64 (t120 + t121)) false 0)))) = some r := by rw [if_pos rfl] at H; exact H
    clear H
    have H := H1
    clear H1
    replace H := Option.bind_eq_some_iff.mp H
    obtain ⟨t119, A60, H⟩ := H
    replace H : ((seq_Dist.f k (Go.bits .and .i64 (wrap64 (a0)) 127) (Go.bits .and .i64 (wrap64 (a1)) 127)).bind fun t120 => ((seq_Dist.f k (Go.bits .and .i64 (wrap64 (a1)) 127) (Go.bits .and .i64 (wrap64 (a0)) 127)).bind fun t121 => (antiphonlaw9_SeqWays.l0 k (Go.bits .and .i64 (wrap64 (a0)) 127) (Go.bits .and .i64 (wrap64 (a1)) 127) (Go.bits .and .i64 (wrap64 (a2)) 127) t119 (wrap64 (t120 + t121)) false 0))) = some r := H
    have A6 := Aside0.mk A60
    clear A60
    replace H := Option.bind_eq_some_iff.mp H
    obtain ⟨t120, A70, H⟩ := H
    replace H : ((seq_Dist.f k (Go.bits .and .i64 (wrap64 (a1)) 127) (Go.bits .and .i64 (wrap64 (a0)) 127)).bind fun t121 => (antiphonlaw9_SeqWays.l0 k (Go.bits .and .i64 (wrap64 (a0)) 127) (Go.bits .and .i64 (wrap64 (a1)) 127) (Go.bits .and .i64 (wrap64 (a2)) 127) t119 (wrap64 (t120 + t121)) false 0)) = some r := H
    have A7 := Aside0.mk A70
    clear A70
    replace H := Option.bind_eq_some_iff.mp H
    obtain ⟨t121, A80, H⟩ := H
    replace H : (antiphonlaw9_SeqWays.l0 k (Go.bits .and .i64 (wrap64 (a0)) 127) (Go.bits .and .i64 (wrap64 (a1)) 127) (Go.bits .and .i64 (wrap64 (a2)) 127) t119 (wrap64 (t120 + t121)) false 0) = some r := H
    have A8 := Aside0.mk A80
    clear A80
    have H' := Aside0.mk H
    clear H
    go_enter Try.func5, Try.ntmps5
    go_wp2_with (first | ((with_reducible refine gate_callee (f := 13) rfl ?_); refine goesL_ (some 14) rfl rfl Try.func13 (by kernel_rfl) rfl #[] rfl (by (try simp only [List.map_toArray, List.map_cons, List.map_nil]); first | done | rfl | (simp only [List.length_drop, List.length_take]; rfl)) ?_; (with_reducible refine (antiphonlaw9_awake.calls k  true _ A4.out).mono ?_); rintro e w9 ⟨rfl, hb⟩; refine ⟨_, rfl, ?_⟩; have n0_ := Aside0.mk (below_step (by repeat (first | (with_reducible first | exact HB.out | apply below_alloc | apply pw_below_drewN | apply below_drew1) | exact HB.out)) hb); clear HB; have HB := n0_; clear n0_; (try clear hb); (try clear hb2); (try clear hk); (try clear hi)) | ((with_reducible refine gate_callee (f := 18) rfl ?_); refine goesL_ (some 27) rfl rfl Try.func18 (by kernel_rfl) rfl #[.int .i64 (Go.bits .and .i64 (wrap64 (a0)) 127), .int .i64 (Go.bits .and .i64 (wrap64 (a1)) 127)] rfl (by (try simp only [List.map_toArray, List.map_cons, List.map_nil]); first | done | rfl | (simp only [List.length_drop, List.length_take]; rfl)) ?_; (with_reducible refine (seq_Dist.calls k (Go.bits .and .i64 (wrap64 (a0)) 127) (Go.bits .and .i64 (wrap64 (a1)) 127) t119 _ A6.out).mono ?_); rintro e w10 ⟨rfl, hb⟩; refine ⟨_, rfl, ?_⟩; have n0_ := Aside0.mk (below_step (by repeat (first | (with_reducible first | exact HB.out | apply below_alloc | apply pw_below_drewN | apply below_drew1) | exact HB.out)) hb); clear HB; have HB := n0_; clear n0_; (try clear hb); (try clear hb2); (try clear hk); (try clear hi)) | ((with_reducible refine gate_callee (f := 18) rfl ?_); refine goesL_ (some 30) rfl rfl Try.func18 (by kernel_rfl) rfl #[.int .i64 (Go.bits .and .i64 (wrap64 (a0)) 127), .int .i64 (Go.bits .and .i64 (wrap64 (a1)) 127)] rfl (by (try simp only [List.map_toArray, List.map_cons, List.map_nil]); first | done | rfl | (simp only [List.length_drop, List.length_take]; rfl)) ?_; (with_reducible refine (seq_Dist.calls k (Go.bits .and .i64 (wrap64 (a0)) 127) (Go.bits .and .i64 (wrap64 (a1)) 127) t120 _ A7.out).mono ?_); rintro e w11 ⟨rfl, hb⟩; refine ⟨_, rfl, ?_⟩; have n0_ := Aside0.mk (below_step (by repeat (first | (with_reducible first | exact HB.out | apply below_alloc | apply pw_below_drewN | apply below_drew1) | exact HB.out)) hb); clear HB; have HB := n0_; clear n0_; (try clear hb); (try clear hb2); (try clear hk); (try clear hi)) | ((with_reducible refine gate_callee (f := 18) rfl ?_); refine goesL_ (some 33) rfl rfl Try.func18 (by kernel_rfl) rfl #[.int .i64 (Go.bits .and .i64 (wrap64 (a1)) 127), .int .i64 (Go.bits .and .i64 (wrap64 (a0)) 127)] rfl (by (try simp only [List.map_toArray, List.map_cons, List.map_nil]); first | done | rfl | (simp only [List.length_drop, List.length_take]; rfl)) ?_; (with_reducible refine (seq_Dist.calls k (Go.bits .and .i64 (wrap64 (a1)) 127) (Go.bits .and .i64 (wrap64 (a0)) 127) t121 _ A8.out).mono ?_); rintro e w12 ⟨rfl, hb⟩; refine ⟨_, rfl, ?_⟩; have n0_ := Aside0.mk (below_step (by repeat (first | (with_reducible first | exact HB.out | apply below_alloc | apply pw_below_drewN | apply below_drew1) | exact HB.out)) hb); clear HB; have HB := n0_; clear n0_; (try clear hb); (try clear hb2); (try clear hk); (try clear hi)))
    go_loopg [12, 13] k (fun kq v12 v13 w' => ∃ (x12_1 : Bool) (x13_1 : Int), v12 = .bool x12_1 ∧ v13 = .int .i64 x13_1 ∧ Aside0 (antiphonlaw9_SeqWays.l0 kq (Go.bits .and .i64 (wrap64 (a0)) 127) (Go.bits .and .i64 (wrap64 (a1)) 127) (Go.bits .and .i64 (wrap64 (a2)) 127) t119 (wrap64 (t120 + t121)) x12_1 x13_1 = some r) ∧ Aside0 (kq ≤ k) ∧ Aside0 (Below w.heap.size w w'))
    case atStart => exact ⟨(false), (0), (by first | rfl | (simp; done) | (simp [*]; done)), (by first | rfl | (simp; done) | (simp [*]; done)), H', ⟨Nat.le_refl _⟩, ⟨by repeat (first | (with_reducible first | exact HB.out | apply below_alloc | apply pw_below_drewN | apply below_drew1) | exact HB.out)⟩⟩
    case round =>
      clear H'
      try clear c1
      try clear p2
      try clear c5
      try clear p6
      obtain ⟨x12_1, x13_1, rfl, rfl, HA, HK1, HB⟩ := hrel
      cases gk with
      | zero => exact absurd HA.out (by simp [antiphonlaw9_SeqWays.l0])
      | succ k1 =>
        have H := HA.out
        clear HA
        simp only [antiphonlaw9_SeqWays.l0] at H
        by_cases c13 : x13_1 ≤ t119
        · rw [if_pos c13] at H
          have c13b0 : decide (x13_1 ≤ t119) = true := decide_eq_true c13
          clear c13
          by_cases c14 : x12_1 = true
          · subst c14
            have H1 : (antiphonlaw9_SeqWays.l0 k1 (Go.bits .and .i64 (wrap64 (a0)) 127) (Go.bits .and .i64 (wrap64 (a1)) 127) (Go.bits .and .i64 (wrap64 (a2)) 127) t119 (wrap64 (t120 + t121)) true (wrap64 (x13_1 + 1))) = some r := by rw [if_pos rfl] at H; exact H
            clear H
            have H := H1
            clear H1
            have H' := Aside0.mk H
            clear H
            go_wp2
            go_roundg k1
            case measure => have := HK1.out; omega
            case rel => exact ⟨(true), (wrap64 (x13_1 + 1)), (by first | rfl | (simp; done) | (simp [*]; done)), (by first | rfl | (simp; done) | (simp [*]; done)), H', ⟨by have := HK1.out; omega⟩, ⟨by repeat (first | (with_reducible first | exact HB.out | apply below_alloc | apply pw_below_drewN | apply below_drew1) | exact HB.out)⟩⟩
          · replace c14 := Bool.eq_false_iff.mpr c14
            subst c14
            have H1 : ((seq_Add.f k1 (Go.bits .and .i64 (wrap64 (a0)) 127) x13_1).bind fun t122 => (antiphonlaw9_SeqWays.l0 k1 (Go.bits .and .i64 (wrap64 (a0)) 127) (Go.bits .and .i64 (wrap64 (a1)) 127) (Go.bits .and .i64 (wrap64 (a2)) 127) t119 (wrap64 (t120 + t121)) (t122 == (Go.bits .and .i64 (wrap64 (a2)) 127)) (wrap64 (x13_1 + 1)))) = some r := by rw [if_neg (show ¬ (false = true) by decide)] at H; exact H
            clear H
            have H := H1
            clear H1
            replace H := Option.bind_eq_some_iff.mp H
            obtain ⟨t122, A150, H⟩ := H
            replace H : (antiphonlaw9_SeqWays.l0 k1 (Go.bits .and .i64 (wrap64 (a0)) 127) (Go.bits .and .i64 (wrap64 (a1)) 127) (Go.bits .and .i64 (wrap64 (a2)) 127) t119 (wrap64 (t120 + t121)) (t122 == (Go.bits .and .i64 (wrap64 (a2)) 127)) (wrap64 (x13_1 + 1))) = some r := H
            have A15 := Aside0.mk A150
            clear A150
            have H' := Aside0.mk H
            clear H
            go_wp2_with (first | (go_at_call 16; (with_reducible refine (seq_Add.calls k1 (Go.bits .and .i64 (wrap64 (a0)) 127) x13_1 t122 _ A15.out).mono ?_); rintro e w16 ⟨rfl, hb⟩; have n0_ := Aside0.mk (below_step (by repeat (first | (with_reducible first | exact HB.out | apply below_alloc | apply pw_below_drewN | apply below_drew1) | exact HB.out)) hb); clear HB; have HB := n0_; clear n0_; (try clear hb); (try clear hb2); (try clear hk); (try clear hi)))
            go_roundg k1
            case measure => have := HK1.out; omega
            case rel => exact ⟨((t122 == (Go.bits .and .i64 (wrap64 (a2)) 127))), (wrap64 (x13_1 + 1)), (by first | rfl | (simp; done) | (simp [*]; done)), (by first | rfl | (simp; done) | (simp [*]; done)), H', ⟨by have := HK1.out; omega⟩, ⟨by repeat (first | (with_reducible first | exact HB.out | apply below_alloc | apply pw_below_drewN | apply below_drew1) | exact HB.out)⟩⟩
        · rw [if_neg c13] at H
          have c13b0 : decide (x13_1 ≤ t119) = false := decide_eq_false c13
          clear c13
          replace H := Option.bind_eq_some_iff.mp H
          obtain ⟨t123, A170, H⟩ := H
          replace H : (if t123 = (Go.bits .and .i64 (wrap64 (a1)) 127) then (if (wrap64 (t120 + t121)) = 0 then (if (Go.bits .and .i64 (wrap64 (a0)) 127) = (Go.bits .and .i64 (wrap64 (a1)) 127) then ((seq_In.f k1 (Go.bits .and .i64 (wrap64 (a2)) 127) (Go.bits .and .i64 (wrap64 (a0)) 127) (Go.bits .and .i64 (wrap64 (a1)) 127)).bind fun t124 => (if (t124 == x12_1) = true then ((seq_In.f k1 (Go.bits .and .i64 (wrap64 (a0)) 127) (Go.bits .and .i64 (wrap64 (a0)) 127) (Go.bits .and .i64 (wrap64 (a1)) 127)).bind fun t125 => (if t125 = true then ((seq_In.f k1 (Go.bits .and .i64 (wrap64 (a1)) 127) (Go.bits .and .i64 (wrap64 (a0)) 127) (Go.bits .and .i64 (wrap64 (a1)) 127)).bind fun t126 => (if t126 = true then (if t119 = 64 then (some true) else ((seq_Less.f k1 (Go.bits .and .i64 (wrap64 (a0)) 127) (Go.bits .and .i64 (wrap64 (a1)) 127)).bind fun t127 => ((seq_Less.f k1 (Go.bits .and .i64 (wrap64 (a1)) 127) (Go.bits .and .i64 (wrap64 (a0)) 127)).bind fun t128 => (some (t127 == (wrap64 (-t128))))))) else (some false))) else (some false))) else (some false))) else (if (wrap64 (t120 + t121)) = 128 then ((seq_In.f k1 (Go.bits .and .i64 (wrap64 (a2)) 127) (Go.bits .and .i64 (wrap64 (a0)) 127) (Go.bits .and .i64 (wrap64 (a1)) 127)).bind fun t129 => (if (t129 == x12_1) = true then ((seq_In.f k1 (Go.bits .and .i64 (wrap64 (a0)) 127) (Go.bits .and .i64 (wrap64 (a0)) 127) (Go.bits .and .i64 (wrap64 (a1)) 127)).bind fun t130 => (if t130 = true then ((seq_In.f k1 (Go.bits .and .i64 (wrap64 (a1)) 127) (Go.bits .and .i64 (wrap64 (a0)) 127) (Go.bits .and .i64 (wrap64 (a1)) 127)).bind fun t131 => (if t131 = true then (if t119 = 64 then (some true) else ((seq_Less.f k1 (Go.bits .and .i64 (wrap64 (a0)) 127) (Go.bits .and .i64 (wrap64 (a1)) 127)).bind fun t132 => ((seq_Less.f k1 (Go.bits .and .i64 (wrap64 (a1)) 127) (Go.bits .and .i64 (wrap64 (a0)) 127)).bind fun t133 => (some (t132 == (wrap64 (-t133))))))) else (some false))) else (some false))) else (some false))) else (some false))) else (if (wrap64 (t120 + t121)) = 128 then (if (Go.bits .and .i64 (wrap64 (a0)) 127) = (Go.bits .and .i64 (wrap64 (a1)) 127) then (some false) else ((seq_In.f k1 (Go.bits .and .i64 (wrap64 (a2)) 127) (Go.bits .and .i64 (wrap64 (a0)) 127) (Go.bits .and .i64 (wrap64 (a1)) 127)).bind fun t134 => (if (t134 == x12_1) = true then ((seq_In.f k1 (Go.bits .and .i64 (wrap64 (a0)) 127) (Go.bits .and .i64 (wrap64 (a0)) 127) (Go.bits .and .i64 (wrap64 (a1)) 127)).bind fun t135 => (if t135 = true then ((seq_In.f k1 (Go.bits .and .i64 (wrap64 (a1)) 127) (Go.bits .and .i64 (wrap64 (a0)) 127) (Go.bits .and .i64 (wrap64 (a1)) 127)).bind fun t136 => (if t136 = true then (if t119 = 64 then (some true) else ((seq_Less.f k1 (Go.bits .and .i64 (wrap64 (a0)) 127) (Go.bits .and .i64 (wrap64 (a1)) 127)).bind fun t137 => ((seq_Less.f k1 (Go.bits .and .i64 (wrap64 (a1)) 127) (Go.bits .and .i64 (wrap64 (a0)) 127)).bind fun t138 => (some (t137 == (wrap64 (-t138))))))) else (some false))) else (some false))) else (some false)))) else (some false))) else (some false)) = some r := H
          have A17 := Aside0.mk A170
          clear A170
          by_cases c18 : t123 = (Go.bits .and .i64 (wrap64 (a1)) 127)
          · rw [if_pos c18] at H
            have c18b0 : (t123 == (Go.bits .and .i64 (wrap64 (a1)) 127)) = true := beq_iff_eq.mpr c18
            have c18b1 : (t123 != (Go.bits .and .i64 (wrap64 (a1)) 127)) = false := bne_eq_false_iff_eq.mpr c18
            clear c18
            by_cases c19 : (wrap64 (t120 + t121)) = 0
            · rw [if_pos c19] at H
              have c19b0 : ((wrap64 (t120 + t121)) == 0) = true := beq_iff_eq.mpr c19
              have c19b1 : ((wrap64 (t120 + t121)) != 0) = false := bne_eq_false_iff_eq.mpr c19
              clear c19
              by_cases c20 : (Go.bits .and .i64 (wrap64 (a0)) 127) = (Go.bits .and .i64 (wrap64 (a1)) 127)
              · rw [if_pos c20] at H
                have c20b0 : ((Go.bits .and .i64 (wrap64 (a0)) 127) == (Go.bits .and .i64 (wrap64 (a1)) 127)) = true := beq_iff_eq.mpr c20
                have c20b1 : ((Go.bits .and .i64 (wrap64 (a0)) 127) != (Go.bits .and .i64 (wrap64 (a1)) 127)) = false := bne_eq_false_iff_eq.mpr c20
                clear c20
                replace H := Option.bind_eq_some_iff.mp H
                obtain ⟨t124, A210, H⟩ := H
                replace H : (if (t124 == x12_1) = true then ((seq_In.f k1 (Go.bits .and .i64 (wrap64 (a0)) 127) (Go.bits .and .i64 (wrap64 (a0)) 127) (Go.bits .and .i64 (wrap64 (a1)) 127)).bind fun t125 => (if t125 = true then ((seq_In.f k1 (Go.bits .and .i64 (wrap64 (a1)) 127) (Go.bits .and .i64 (wrap64 (a0)) 127) (Go.bits .and .i64 (wrap64 (a1)) 127)).bind fun t126 => (if t126 = true then (if t119 = 64 then (some true) else ((seq_Less.f k1 (Go.bits .and .i64 (wrap64 (a0)) 127) (Go.bits .and .i64 (wrap64 (a1)) 127)).bind fun t127 => ((seq_Less.f k1 (Go.bits .and .i64 (wrap64 (a1)) 127) (Go.bits .and .i64 (wrap64 (a0)) 127)).bind fun t128 => (some (t127 == (wrap64 (-t128))))))) else (some false))) else (some false))) else (some false)) = some r := H
                have A21 := Aside0.mk A210
                clear A210
                by_cases c22 : (t124 == x12_1) = true
                · rw [if_pos c22] at H
                  have c22b0 : (t124 == x12_1) = true := c22
                  (try (have c22b1 : decide (t124 = x12_1) = true := by simpa using c22))
                  (try (have c22b2 : (t124 == x12_1) = true := by simpa using c22))
                  clear c22
                  replace H := Option.bind_eq_some_iff.mp H
                  obtain ⟨t125, A230, H⟩ := H
                  replace H : (if t125 = true then ((seq_In.f k1 (Go.bits .and .i64 (wrap64 (a1)) 127) (Go.bits .and .i64 (wrap64 (a0)) 127) (Go.bits .and .i64 (wrap64 (a1)) 127)).bind fun t126 => (if t126 = true then (if t119 = 64 then (some true) else ((seq_Less.f k1 (Go.bits .and .i64 (wrap64 (a0)) 127) (Go.bits .and .i64 (wrap64 (a1)) 127)).bind fun t127 => ((seq_Less.f k1 (Go.bits .and .i64 (wrap64 (a1)) 127) (Go.bits .and .i64 (wrap64 (a0)) 127)).bind fun t128 => (some (t127 == (wrap64 (-t128))))))) else (some false))) else (some false)) = some r := H
                  have A23 := Aside0.mk A230
                  clear A230
                  by_cases c24 : t125 = true
                  · subst c24
                    have H1 : ((seq_In.f k1 (Go.bits .and .i64 (wrap64 (a1)) 127) (Go.bits .and .i64 (wrap64 (a0)) 127) (Go.bits .and .i64 (wrap64 (a1)) 127)).bind fun t126 => (if t126 = true then (if t119 = 64 then (some true) else ((seq_Less.f k1 (Go.bits .and .i64 (wrap64 (a0)) 127) (Go.bits .and .i64 (wrap64 (a1)) 127)).bind fun t127 => ((seq_Less.f k1 (Go.bits .and .i64 (wrap64 (a1)) 127) (Go.bits .and .i64 (wrap64 (a0)) 127)).bind fun t128 => (some (t127 == (wrap64 (-t128))))))) else (some false))) = some r := by rw [if_pos rfl] at H; exact H
                    clear H
                    have H := H1
                    clear H1
                    replace H := Option.bind_eq_some_iff.mp H
                    obtain ⟨t126, A250, H⟩ := H
                    replace H : (if t126 = true then (if t119 = 64 then (some true) else ((seq_Less.f k1 (Go.bits .and .i64 (wrap64 (a0)) 127) (Go.bits .and .i64 (wrap64 (a1)) 127)).bind fun t127 => ((seq_Less.f k1 (Go.bits .and .i64 (wrap64 (a1)) 127) (Go.bits .and .i64 (wrap64 (a0)) 127)).bind fun t128 => (some (t127 == (wrap64 (-t128))))))) else (some false)) = some r := H
                    have A25 := Aside0.mk A250
                    clear A250
                    by_cases c26 : t126 = true
                    · subst c26
                      have H1 : (if t119 = 64 then (some true) else ((seq_Less.f k1 (Go.bits .and .i64 (wrap64 (a0)) 127) (Go.bits .and .i64 (wrap64 (a1)) 127)).bind fun t127 => ((seq_Less.f k1 (Go.bits .and .i64 (wrap64 (a1)) 127) (Go.bits .and .i64 (wrap64 (a0)) 127)).bind fun t128 => (some (t127 == (wrap64 (-t128))))))) = some r := by rw [if_pos rfl] at H; exact H
                      clear H
                      have H := H1
                      clear H1
                      by_cases c27 : t119 = 64
                      · rw [if_pos c27] at H
                        have c27b0 : (t119 == 64) = true := beq_iff_eq.mpr c27
                        have c27b1 : (t119 != 64) = false := bne_eq_false_iff_eq.mpr c27
                        clear c27
                        obtain rfl := Option.some.inj H
                        go_wp2_with (first | ((with_reducible refine gate_callee (f := 16) rfl ?_); refine goesL_ (some 50) rfl rfl Try.func16 (by kernel_rfl) rfl #[.int .i64 (Go.bits .and .i64 (wrap64 (a0)) 127), .int .i64 t119] rfl (by (try simp only [List.map_toArray, List.map_cons, List.map_nil]); first | done | rfl | (simp only [List.length_drop, List.length_take]; rfl)) ?_; (with_reducible refine (seq_Add.calls k1 (Go.bits .and .i64 (wrap64 (a0)) 127) t119 t123 _ A17.out).mono ?_); rintro e w28 ⟨rfl, hb⟩; refine ⟨_, rfl, ?_⟩; have n0_ := Aside0.mk (below_step (by repeat (first | (with_reducible first | exact HB.out | apply below_alloc | apply pw_below_drewN | apply below_drew1) | exact HB.out)) hb); clear HB; have HB := n0_; clear n0_; (try clear hb); (try clear hb2); (try clear hk); (try clear hi)) | (go_at_call 15; (with_reducible refine (seq_In.calls k1 (Go.bits .and .i64 (wrap64 (a2)) 127) (Go.bits .and .i64 (wrap64 (a0)) 127) (Go.bits .and .i64 (wrap64 (a1)) 127) t124 _ A21.out).mono ?_); rintro e w29 ⟨rfl, hb⟩; have n0_ := Aside0.mk (below_step (by repeat (first | (with_reducible first | exact HB.out | apply below_alloc | apply pw_below_drewN | apply below_drew1) | exact HB.out)) hb); clear HB; have HB := n0_; clear n0_; (try clear hb); (try clear hb2); (try clear hk); (try clear hi)) | (go_at_call 15; (with_reducible refine (seq_In.calls k1 (Go.bits .and .i64 (wrap64 (a0)) 127) (Go.bits .and .i64 (wrap64 (a0)) 127) (Go.bits .and .i64 (wrap64 (a1)) 127) true _ A23.out).mono ?_); rintro e w30 ⟨rfl, hb⟩; have n0_ := Aside0.mk (below_step (by repeat (first | (with_reducible first | exact HB.out | apply below_alloc | apply pw_below_drewN | apply below_drew1) | exact HB.out)) hb); clear HB; have HB := n0_; clear n0_; (try clear hb); (try clear hb2); (try clear hk); (try clear hi)) | (go_at_call 15; (with_reducible refine (seq_In.calls k1 (Go.bits .and .i64 (wrap64 (a1)) 127) (Go.bits .and .i64 (wrap64 (a0)) 127) (Go.bits .and .i64 (wrap64 (a1)) 127) true _ A25.out).mono ?_); rintro e w31 ⟨rfl, hb⟩; have n0_ := Aside0.mk (below_step (by repeat (first | (with_reducible first | exact HB.out | apply below_alloc | apply pw_below_drewN | apply below_drew1) | exact HB.out)) hb); clear HB; have HB := n0_; clear n0_; (try clear hb); (try clear hb2); (try clear hk); (try clear hi)))
                        go_ret
                        exact ⟨by first | rfl | (simp [errW_none, errW_some] <;> rfl) | (simp [*, errW_none, errW_some] <;> rfl), by repeat (first | (with_reducible first | exact HB.out | apply below_alloc | apply pw_below_drewN | apply below_drew1) | exact HB.out)⟩
                      · rw [if_neg c27] at H
                        have c27b0 : (t119 == 64) = false := beq_eq_false_iff_ne.mpr c27
                        have c27b1 : (t119 != 64) = true := bne_iff_ne.mpr c27
                        replace H := Option.bind_eq_some_iff.mp H
                        obtain ⟨t127, A320, H⟩ := H
                        replace H : ((seq_Less.f k1 (Go.bits .and .i64 (wrap64 (a1)) 127) (Go.bits .and .i64 (wrap64 (a0)) 127)).bind fun t128 => (some (t127 == (wrap64 (-t128))))) = some r := H
                        have A32 := Aside0.mk A320
                        clear A320
                        replace H := Option.bind_eq_some_iff.mp H
                        obtain ⟨t128, A330, H⟩ := H
                        replace H : (some (t127 == (wrap64 (-t128)))) = some r := H
                        have A33 := Aside0.mk A330
                        clear A330
                        obtain rfl := Option.some.inj H
                        go_wp2_with (first | ((with_reducible refine gate_callee (f := 16) rfl ?_); refine goesL_ (some 50) rfl rfl Try.func16 (by kernel_rfl) rfl #[.int .i64 (Go.bits .and .i64 (wrap64 (a0)) 127), .int .i64 t119] rfl (by (try simp only [List.map_toArray, List.map_cons, List.map_nil]); first | done | rfl | (simp only [List.length_drop, List.length_take]; rfl)) ?_; (with_reducible refine (seq_Add.calls k1 (Go.bits .and .i64 (wrap64 (a0)) 127) t119 t123 _ A17.out).mono ?_); rintro e w34 ⟨rfl, hb⟩; refine ⟨_, rfl, ?_⟩; have n0_ := Aside0.mk (below_step (by repeat (first | (with_reducible first | exact HB.out | apply below_alloc | apply pw_below_drewN | apply below_drew1) | exact HB.out)) hb); clear HB; have HB := n0_; clear n0_; (try clear hb); (try clear hb2); (try clear hk); (try clear hi)) | (go_at_call 15; (with_reducible refine (seq_In.calls k1 (Go.bits .and .i64 (wrap64 (a2)) 127) (Go.bits .and .i64 (wrap64 (a0)) 127) (Go.bits .and .i64 (wrap64 (a1)) 127) t124 _ A21.out).mono ?_); rintro e w35 ⟨rfl, hb⟩; have n0_ := Aside0.mk (below_step (by repeat (first | (with_reducible first | exact HB.out | apply below_alloc | apply pw_below_drewN | apply below_drew1) | exact HB.out)) hb); clear HB; have HB := n0_; clear n0_; (try clear hb); (try clear hb2); (try clear hk); (try clear hi)) | (go_at_call 15; (with_reducible refine (seq_In.calls k1 (Go.bits .and .i64 (wrap64 (a0)) 127) (Go.bits .and .i64 (wrap64 (a0)) 127) (Go.bits .and .i64 (wrap64 (a1)) 127) true _ A23.out).mono ?_); rintro e w36 ⟨rfl, hb⟩; have n0_ := Aside0.mk (below_step (by repeat (first | (with_reducible first | exact HB.out | apply below_alloc | apply pw_below_drewN | apply below_drew1) | exact HB.out)) hb); clear HB; have HB := n0_; clear n0_; (try clear hb); (try clear hb2); (try clear hk); (try clear hi)) | (go_at_call 15; (with_reducible refine (seq_In.calls k1 (Go.bits .and .i64 (wrap64 (a1)) 127) (Go.bits .and .i64 (wrap64 (a0)) 127) (Go.bits .and .i64 (wrap64 (a1)) 127) true _ A25.out).mono ?_); rintro e w37 ⟨rfl, hb⟩; have n0_ := Aside0.mk (below_step (by repeat (first | (with_reducible first | exact HB.out | apply below_alloc | apply pw_below_drewN | apply below_drew1) | exact HB.out)) hb); clear HB; have HB := n0_; clear n0_; (try clear hb); (try clear hb2); (try clear hk); (try clear hi)) | (go_at_call 14; (with_reducible refine (seq_Less.calls k1 (Go.bits .and .i64 (wrap64 (a0)) 127) (Go.bits .and .i64 (wrap64 (a1)) 127) t127 _ A32.out).mono ?_); rintro e w38 ⟨rfl, hb⟩; have n0_ := Aside0.mk (below_step (by repeat (first | (with_reducible first | exact HB.out | apply below_alloc | apply pw_below_drewN | apply below_drew1) | exact HB.out)) hb); clear HB; have HB := n0_; clear n0_; (try clear hb); (try clear hb2); (try clear hk); (try clear hi)) | (go_at_call 14; (with_reducible refine (seq_Less.calls k1 (Go.bits .and .i64 (wrap64 (a1)) 127) (Go.bits .and .i64 (wrap64 (a0)) 127) t128 _ A33.out).mono ?_); rintro e w39 ⟨rfl, hb⟩; have n0_ := Aside0.mk (below_step (by repeat (first | (with_reducible first | exact HB.out | apply below_alloc | apply pw_below_drewN | apply below_drew1) | exact HB.out)) hb); clear HB; have HB := n0_; clear n0_; (try clear hb); (try clear hb2); (try clear hk); (try clear hi)))
                        go_ret
                        exact ⟨by first | rfl | (simp [errW_none, errW_some] <;> rfl) | (simp [*, errW_none, errW_some] <;> rfl), by repeat (first | (with_reducible first | exact HB.out | apply below_alloc | apply pw_below_drewN | apply below_drew1) | exact HB.out)⟩
                    · replace c26 := Bool.eq_false_iff.mpr c26
                      subst c26
                      have H1 : (some false) = some r := by rw [if_neg (show ¬ (false = true) by decide)] at H; exact H
                      clear H
                      have H := H1
                      clear H1
                      obtain rfl := Option.some.inj H
                      go_wp2_with (first | ((with_reducible refine gate_callee (f := 16) rfl ?_); refine goesL_ (some 50) rfl rfl Try.func16 (by kernel_rfl) rfl #[.int .i64 (Go.bits .and .i64 (wrap64 (a0)) 127), .int .i64 t119] rfl (by (try simp only [List.map_toArray, List.map_cons, List.map_nil]); first | done | rfl | (simp only [List.length_drop, List.length_take]; rfl)) ?_; (with_reducible refine (seq_Add.calls k1 (Go.bits .and .i64 (wrap64 (a0)) 127) t119 t123 _ A17.out).mono ?_); rintro e w40 ⟨rfl, hb⟩; refine ⟨_, rfl, ?_⟩; have n0_ := Aside0.mk (below_step (by repeat (first | (with_reducible first | exact HB.out | apply below_alloc | apply pw_below_drewN | apply below_drew1) | exact HB.out)) hb); clear HB; have HB := n0_; clear n0_; (try clear hb); (try clear hb2); (try clear hk); (try clear hi)) | (go_at_call 15; (with_reducible refine (seq_In.calls k1 (Go.bits .and .i64 (wrap64 (a2)) 127) (Go.bits .and .i64 (wrap64 (a0)) 127) (Go.bits .and .i64 (wrap64 (a1)) 127) t124 _ A21.out).mono ?_); rintro e w41 ⟨rfl, hb⟩; have n0_ := Aside0.mk (below_step (by repeat (first | (with_reducible first | exact HB.out | apply below_alloc | apply pw_below_drewN | apply below_drew1) | exact HB.out)) hb); clear HB; have HB := n0_; clear n0_; (try clear hb); (try clear hb2); (try clear hk); (try clear hi)) | (go_at_call 15; (with_reducible refine (seq_In.calls k1 (Go.bits .and .i64 (wrap64 (a0)) 127) (Go.bits .and .i64 (wrap64 (a0)) 127) (Go.bits .and .i64 (wrap64 (a1)) 127) true _ A23.out).mono ?_); rintro e w42 ⟨rfl, hb⟩; have n0_ := Aside0.mk (below_step (by repeat (first | (with_reducible first | exact HB.out | apply below_alloc | apply pw_below_drewN | apply below_drew1) | exact HB.out)) hb); clear HB; have HB := n0_; clear n0_; (try clear hb); (try clear hb2); (try clear hk); (try clear hi)) | (go_at_call 15; (with_reducible refine (seq_In.calls k1 (Go.bits .and .i64 (wrap64 (a1)) 127) (Go.bits .and .i64 (wrap64 (a0)) 127) (Go.bits .and .i64 (wrap64 (a1)) 127) false _ A25.out).mono ?_); rintro e w43 ⟨rfl, hb⟩; have n0_ := Aside0.mk (below_step (by repeat (first | (with_reducible first | exact HB.out | apply below_alloc | apply pw_below_drewN | apply below_drew1) | exact HB.out)) hb); clear HB; have HB := n0_; clear n0_; (try clear hb); (try clear hb2); (try clear hk); (try clear hi)))
                      go_ret
                      exact ⟨by first | rfl | (simp [errW_none, errW_some] <;> rfl) | (simp [*, errW_none, errW_some] <;> rfl), by repeat (first | (with_reducible first | exact HB.out | apply below_alloc | apply pw_below_drewN | apply below_drew1) | exact HB.out)⟩
                  · replace c24 := Bool.eq_false_iff.mpr c24
                    subst c24
                    have H1 : (some false) = some r := by rw [if_neg (show ¬ (false = true) by decide)] at H; exact H
                    clear H
                    have H := H1
                    clear H1
                    obtain rfl := Option.some.inj H
                    go_wp2_with (first | ((with_reducible refine gate_callee (f := 16) rfl ?_); refine goesL_ (some 50) rfl rfl Try.func16 (by kernel_rfl) rfl #[.int .i64 (Go.bits .and .i64 (wrap64 (a0)) 127), .int .i64 t119] rfl (by (try simp only [List.map_toArray, List.map_cons, List.map_nil]); first | done | rfl | (simp only [List.length_drop, List.length_take]; rfl)) ?_; (with_reducible refine (seq_Add.calls k1 (Go.bits .and .i64 (wrap64 (a0)) 127) t119 t123 _ A17.out).mono ?_); rintro e w44 ⟨rfl, hb⟩; refine ⟨_, rfl, ?_⟩; have n0_ := Aside0.mk (below_step (by repeat (first | (with_reducible first | exact HB.out | apply below_alloc | apply pw_below_drewN | apply below_drew1) | exact HB.out)) hb); clear HB; have HB := n0_; clear n0_; (try clear hb); (try clear hb2); (try clear hk); (try clear hi)) | (go_at_call 15; (with_reducible refine (seq_In.calls k1 (Go.bits .and .i64 (wrap64 (a2)) 127) (Go.bits .and .i64 (wrap64 (a0)) 127) (Go.bits .and .i64 (wrap64 (a1)) 127) t124 _ A21.out).mono ?_); rintro e w45 ⟨rfl, hb⟩; have n0_ := Aside0.mk (below_step (by repeat (first | (with_reducible first | exact HB.out | apply below_alloc | apply pw_below_drewN | apply below_drew1) | exact HB.out)) hb); clear HB; have HB := n0_; clear n0_; (try clear hb); (try clear hb2); (try clear hk); (try clear hi)) | (go_at_call 15; (with_reducible refine (seq_In.calls k1 (Go.bits .and .i64 (wrap64 (a0)) 127) (Go.bits .and .i64 (wrap64 (a0)) 127) (Go.bits .and .i64 (wrap64 (a1)) 127) false _ A23.out).mono ?_); rintro e w46 ⟨rfl, hb⟩; have n0_ := Aside0.mk (below_step (by repeat (first | (with_reducible first | exact HB.out | apply below_alloc | apply pw_below_drewN | apply below_drew1) | exact HB.out)) hb); clear HB; have HB := n0_; clear n0_; (try clear hb); (try clear hb2); (try clear hk); (try clear hi)))
                    go_ret
                    exact ⟨by first | rfl | (simp [errW_none, errW_some] <;> rfl) | (simp [*, errW_none, errW_some] <;> rfl), by repeat (first | (with_reducible first | exact HB.out | apply below_alloc | apply pw_below_drewN | apply below_drew1) | exact HB.out)⟩
                · rw [if_neg c22] at H
                  have c22b0 : (t124 == x12_1) = false := by simpa using c22
                  (try (have c22b1 : decide (t124 = x12_1) = false := by simpa using c22))
                  (try (have c22b2 : (t124 == x12_1) = false := by simpa using c22))
                  (try (have c22b3 : ¬ (t124 = x12_1) := by simpa using c22))
                  clear c22
                  obtain rfl := Option.some.inj H
                  go_wp2_with (first | ((with_reducible refine gate_callee (f := 16) rfl ?_); refine goesL_ (some 50) rfl rfl Try.func16 (by kernel_rfl) rfl #[.int .i64 (Go.bits .and .i64 (wrap64 (a0)) 127), .int .i64 t119] rfl (by (try simp only [List.map_toArray, List.map_cons, List.map_nil]); first | done | rfl | (simp only [List.length_drop, List.length_take]; rfl)) ?_; (with_reducible refine (seq_Add.calls k1 (Go.bits .and .i64 (wrap64 (a0)) 127) t119 t123 _ A17.out).mono ?_); rintro e w47 ⟨rfl, hb⟩; refine ⟨_, rfl, ?_⟩; have n0_ := Aside0.mk (below_step (by repeat (first | (with_reducible first | exact HB.out | apply below_alloc | apply pw_below_drewN | apply below_drew1) | exact HB.out)) hb); clear HB; have HB := n0_; clear n0_; (try clear hb); (try clear hb2); (try clear hk); (try clear hi)) | (go_at_call 15; (with_reducible refine (seq_In.calls k1 (Go.bits .and .i64 (wrap64 (a2)) 127) (Go.bits .and .i64 (wrap64 (a0)) 127) (Go.bits .and .i64 (wrap64 (a1)) 127) t124 _ A21.out).mono ?_); rintro e w48 ⟨rfl, hb⟩; have n0_ := Aside0.mk (below_step (by repeat (first | (with_reducible first | exact HB.out | apply below_alloc | apply pw_below_drewN | apply below_drew1) | exact HB.out)) hb); clear HB; have HB := n0_; clear n0_; (try clear hb); (try clear hb2); (try clear hk); (try clear hi)))
                  go_ret
                  exact ⟨by first | rfl | (simp [errW_none, errW_some] <;> rfl) | (simp [*, errW_none, errW_some] <;> rfl), by repeat (first | (with_reducible first | exact HB.out | apply below_alloc | apply pw_below_drewN | apply below_drew1) | exact HB.out)⟩
              · rw [if_neg c20] at H
                have c20b0 : ((Go.bits .and .i64 (wrap64 (a0)) 127) == (Go.bits .and .i64 (wrap64 (a1)) 127)) = false := beq_eq_false_iff_ne.mpr c20
                have c20b1 : ((Go.bits .and .i64 (wrap64 (a0)) 127) != (Go.bits .and .i64 (wrap64 (a1)) 127)) = true := bne_iff_ne.mpr c20
                by_cases c49 : (wrap64 (t120 + t121)) = 128
                · rw [if_pos c49] at H
                  have c49b0 : ((wrap64 (t120 + t121)) == 128) = true := beq_iff_eq.mpr c49
                  have c49b1 : ((wrap64 (t120 + t121)) != 128) = false := bne_eq_false_iff_eq.mpr c49
                  clear c49
                  replace H := Option.bind_eq_some_iff.mp H
                  obtain ⟨t129, A500, H⟩ := H
                  replace H : (if (t129 == x12_1) = true then ((seq_In.f k1 (Go.bits .and .i64 (wrap64 (a0)) 127) (Go.bits .and .i64 (wrap64 (a0)) 127) (Go.bits .and .i64 (wrap64 (a1)) 127)).bind fun t130 => (if t130 = true then ((seq_In.f k1 (Go.bits .and .i64 (wrap64 (a1)) 127) (Go.bits .and .i64 (wrap64 (a0)) 127) (Go.bits .and .i64 (wrap64 (a1)) 127)).bind fun t131 => (if t131 = true then (if t119 = 64 then (some true) else ((seq_Less.f k1 (Go.bits .and .i64 (wrap64 (a0)) 127) (Go.bits .and .i64 (wrap64 (a1)) 127)).bind fun t132 => ((seq_Less.f k1 (Go.bits .and .i64 (wrap64 (a1)) 127) (Go.bits .and .i64 (wrap64 (a0)) 127)).bind fun t133 => (some (t132 == (wrap64 (-t133))))))) else (some false))) else (some false))) else (some false)) = some r := H
                  have A50 := Aside0.mk A500
                  clear A500
                  by_cases c51 : (t129 == x12_1) = true
                  · rw [if_pos c51] at H
                    have c51b0 : (t129 == x12_1) = true := c51
                    (try (have c51b1 : decide (t129 = x12_1) = true := by simpa using c51))
                    (try (have c51b2 : (t129 == x12_1) = true := by simpa using c51))
                    clear c51
                    replace H := Option.bind_eq_some_iff.mp H
                    obtain ⟨t130, A520, H⟩ := H
                    replace H : (if t130 = true then ((seq_In.f k1 (Go.bits .and .i64 (wrap64 (a1)) 127) (Go.bits .and .i64 (wrap64 (a0)) 127) (Go.bits .and .i64 (wrap64 (a1)) 127)).bind fun t131 => (if t131 = true then (if t119 = 64 then (some true) else ((seq_Less.f k1 (Go.bits .and .i64 (wrap64 (a0)) 127) (Go.bits .and .i64 (wrap64 (a1)) 127)).bind fun t132 => ((seq_Less.f k1 (Go.bits .and .i64 (wrap64 (a1)) 127) (Go.bits .and .i64 (wrap64 (a0)) 127)).bind fun t133 => (some (t132 == (wrap64 (-t133))))))) else (some false))) else (some false)) = some r := H
                    have A52 := Aside0.mk A520
                    clear A520
                    by_cases c53 : t130 = true
                    · subst c53
                      have H1 : ((seq_In.f k1 (Go.bits .and .i64 (wrap64 (a1)) 127) (Go.bits .and .i64 (wrap64 (a0)) 127) (Go.bits .and .i64 (wrap64 (a1)) 127)).bind fun t131 => (if t131 = true then (if t119 = 64 then (some true) else ((seq_Less.f k1 (Go.bits .and .i64 (wrap64 (a0)) 127) (Go.bits .and .i64 (wrap64 (a1)) 127)).bind fun t132 => ((seq_Less.f k1 (Go.bits .and .i64 (wrap64 (a1)) 127) (Go.bits .and .i64 (wrap64 (a0)) 127)).bind fun t133 => (some (t132 == (wrap64 (-t133))))))) else (some false))) = some r := by rw [if_pos rfl] at H; exact H
                      clear H
                      have H := H1
                      clear H1
                      replace H := Option.bind_eq_some_iff.mp H
                      obtain ⟨t131, A540, H⟩ := H
                      replace H : (if t131 = true then (if t119 = 64 then (some true) else ((seq_Less.f k1 (Go.bits .and .i64 (wrap64 (a0)) 127) (Go.bits .and .i64 (wrap64 (a1)) 127)).bind fun t132 => ((seq_Less.f k1 (Go.bits .and .i64 (wrap64 (a1)) 127) (Go.bits .and .i64 (wrap64 (a0)) 127)).bind fun t133 => (some (t132 == (wrap64 (-t133))))))) else (some false)) = some r := H
                      have A54 := Aside0.mk A540
                      clear A540
                      by_cases c55 : t131 = true
                      · subst c55
                        have H1 : (if t119 = 64 then (some true) else ((seq_Less.f k1 (Go.bits .and .i64 (wrap64 (a0)) 127) (Go.bits .and .i64 (wrap64 (a1)) 127)).bind fun t132 => ((seq_Less.f k1 (Go.bits .and .i64 (wrap64 (a1)) 127) (Go.bits .and .i64 (wrap64 (a0)) 127)).bind fun t133 => (some (t132 == (wrap64 (-t133))))))) = some r := by rw [if_pos rfl] at H; exact H
                        clear H
                        have H := H1
                        clear H1
                        by_cases c56 : t119 = 64
                        · rw [if_pos c56] at H
                          have c56b0 : (t119 == 64) = true := beq_iff_eq.mpr c56
                          have c56b1 : (t119 != 64) = false := bne_eq_false_iff_eq.mpr c56
                          clear c56
                          obtain rfl := Option.some.inj H
                          go_wp2_with (first | ((with_reducible refine gate_callee (f := 16) rfl ?_); refine goesL_ (some 50) rfl rfl Try.func16 (by kernel_rfl) rfl #[.int .i64 (Go.bits .and .i64 (wrap64 (a0)) 127), .int .i64 t119] rfl (by (try simp only [List.map_toArray, List.map_cons, List.map_nil]); first | done | rfl | (simp only [List.length_drop, List.length_take]; rfl)) ?_; (with_reducible refine (seq_Add.calls k1 (Go.bits .and .i64 (wrap64 (a0)) 127) t119 t123 _ A17.out).mono ?_); rintro e w57 ⟨rfl, hb⟩; refine ⟨_, rfl, ?_⟩; have n0_ := Aside0.mk (below_step (by repeat (first | (with_reducible first | exact HB.out | apply below_alloc | apply pw_below_drewN | apply below_drew1) | exact HB.out)) hb); clear HB; have HB := n0_; clear n0_; (try clear hb); (try clear hb2); (try clear hk); (try clear hi)) | (go_at_call 15; (with_reducible refine (seq_In.calls k1 (Go.bits .and .i64 (wrap64 (a2)) 127) (Go.bits .and .i64 (wrap64 (a0)) 127) (Go.bits .and .i64 (wrap64 (a1)) 127) t129 _ A50.out).mono ?_); rintro e w58 ⟨rfl, hb⟩; have n0_ := Aside0.mk (below_step (by repeat (first | (with_reducible first | exact HB.out | apply below_alloc | apply pw_below_drewN | apply below_drew1) | exact HB.out)) hb); clear HB; have HB := n0_; clear n0_; (try clear hb); (try clear hb2); (try clear hk); (try clear hi)) | (go_at_call 15; (with_reducible refine (seq_In.calls k1 (Go.bits .and .i64 (wrap64 (a0)) 127) (Go.bits .and .i64 (wrap64 (a0)) 127) (Go.bits .and .i64 (wrap64 (a1)) 127) true _ A52.out).mono ?_); rintro e w59 ⟨rfl, hb⟩; have n0_ := Aside0.mk (below_step (by repeat (first | (with_reducible first | exact HB.out | apply below_alloc | apply pw_below_drewN | apply below_drew1) | exact HB.out)) hb); clear HB; have HB := n0_; clear n0_; (try clear hb); (try clear hb2); (try clear hk); (try clear hi)) | (go_at_call 15; (with_reducible refine (seq_In.calls k1 (Go.bits .and .i64 (wrap64 (a1)) 127) (Go.bits .and .i64 (wrap64 (a0)) 127) (Go.bits .and .i64 (wrap64 (a1)) 127) true _ A54.out).mono ?_); rintro e w60 ⟨rfl, hb⟩; have n0_ := Aside0.mk (below_step (by repeat (first | (with_reducible first | exact HB.out | apply below_alloc | apply pw_below_drewN | apply below_drew1) | exact HB.out)) hb); clear HB; have HB := n0_; clear n0_; (try clear hb); (try clear hb2); (try clear hk); (try clear hi)))
                          go_ret
                          exact ⟨by first | rfl | (simp [errW_none, errW_some] <;> rfl) | (simp [*, errW_none, errW_some] <;> rfl), by repeat (first | (with_reducible first | exact HB.out | apply below_alloc | apply pw_below_drewN | apply below_drew1) | exact HB.out)⟩
                        · rw [if_neg c56] at H
                          have c56b0 : (t119 == 64) = false := beq_eq_false_iff_ne.mpr c56
                          have c56b1 : (t119 != 64) = true := bne_iff_ne.mpr c56
                          replace H := Option.bind_eq_some_iff.mp H
                          obtain ⟨t132, A610, H⟩ := H
                          replace H : ((seq_Less.f k1 (Go.bits .and .i64 (wrap64 (a1)) 127) (Go.bits .and .i64 (wrap64 (a0)) 127)).bind fun t133 => (some (t132 == (wrap64 (-t133))))) = some r := H
                          have A61 := Aside0.mk A610
                          clear A610
                          replace H := Option.bind_eq_some_iff.mp H
                          obtain ⟨t133, A620, H⟩ := H
                          replace H : (some (t132 == (wrap64 (-t133)))) = some r := H
                          have A62 := Aside0.mk A620
                          clear A620
                          obtain rfl := Option.some.inj H
                          go_wp2_with (first | ((with_reducible refine gate_callee (f := 16) rfl ?_); refine goesL_ (some 50) rfl rfl Try.func16 (by kernel_rfl) rfl #[.int .i64 (Go.bits .and .i64 (wrap64 (a0)) 127), .int .i64 t119] rfl (by (try simp only [List.map_toArray, List.map_cons, List.map_nil]); first | done | rfl | (simp only [List.length_drop, List.length_take]; rfl)) ?_; (with_reducible refine (seq_Add.calls k1 (Go.bits .and .i64 (wrap64 (a0)) 127) t119 t123 _ A17.out).mono ?_); rintro e w63 ⟨rfl, hb⟩; refine ⟨_, rfl, ?_⟩; have n0_ := Aside0.mk (below_step (by repeat (first | (with_reducible first | exact HB.out | apply below_alloc | apply pw_below_drewN | apply below_drew1) | exact HB.out)) hb); clear HB; have HB := n0_; clear n0_; (try clear hb); (try clear hb2); (try clear hk); (try clear hi)) | (go_at_call 15; (with_reducible refine (seq_In.calls k1 (Go.bits .and .i64 (wrap64 (a2)) 127) (Go.bits .and .i64 (wrap64 (a0)) 127) (Go.bits .and .i64 (wrap64 (a1)) 127) t129 _ A50.out).mono ?_); rintro e w64 ⟨rfl, hb⟩; have n0_ := Aside0.mk (below_step (by repeat (first | (with_reducible first | exact HB.out | apply below_alloc | apply pw_below_drewN | apply below_drew1) | exact HB.out)) hb); clear HB; have HB := n0_; clear n0_; (try clear hb); (try clear hb2); (try clear hk); (try clear hi)) | (go_at_call 15; (with_reducible refine (seq_In.calls k1 (Go.bits .and .i64 (wrap64 (a0)) 127) (Go.bits .and .i64 (wrap64 (a0)) 127) (Go.bits .and .i64 (wrap64 (a1)) 127) true _ A52.out).mono ?_); rintro e w65 ⟨rfl, hb⟩; have n0_ := Aside0.mk (below_step (by repeat (first | (with_reducible first | exact HB.out | apply below_alloc | apply pw_below_drewN | apply below_drew1) | exact HB.out)) hb); clear HB; have HB := n0_; clear n0_; (try clear hb); (try clear hb2); (try clear hk); (try clear hi)) | (go_at_call 15; (with_reducible refine (seq_In.calls k1 (Go.bits .and .i64 (wrap64 (a1)) 127) (Go.bits .and .i64 (wrap64 (a0)) 127) (Go.bits .and .i64 (wrap64 (a1)) 127) true _ A54.out).mono ?_); rintro e w66 ⟨rfl, hb⟩; have n0_ := Aside0.mk (below_step (by repeat (first | (with_reducible first | exact HB.out | apply below_alloc | apply pw_below_drewN | apply below_drew1) | exact HB.out)) hb); clear HB; have HB := n0_; clear n0_; (try clear hb); (try clear hb2); (try clear hk); (try clear hi)) | (go_at_call 14; (with_reducible refine (seq_Less.calls k1 (Go.bits .and .i64 (wrap64 (a0)) 127) (Go.bits .and .i64 (wrap64 (a1)) 127) t132 _ A61.out).mono ?_); rintro e w67 ⟨rfl, hb⟩; have n0_ := Aside0.mk (below_step (by repeat (first | (with_reducible first | exact HB.out | apply below_alloc | apply pw_below_drewN | apply below_drew1) | exact HB.out)) hb); clear HB; have HB := n0_; clear n0_; (try clear hb); (try clear hb2); (try clear hk); (try clear hi)) | (go_at_call 14; (with_reducible refine (seq_Less.calls k1 (Go.bits .and .i64 (wrap64 (a1)) 127) (Go.bits .and .i64 (wrap64 (a0)) 127) t133 _ A62.out).mono ?_); rintro e w68 ⟨rfl, hb⟩; have n0_ := Aside0.mk (below_step (by repeat (first | (with_reducible first | exact HB.out | apply below_alloc | apply pw_below_drewN | apply below_drew1) | exact HB.out)) hb); clear HB; have HB := n0_; clear n0_; (try clear hb); (try clear hb2); (try clear hk); (try clear hi)))
                          go_ret
                          exact ⟨by first | rfl | (simp [errW_none, errW_some] <;> rfl) | (simp [*, errW_none, errW_some] <;> rfl), by repeat (first | (with_reducible first | exact HB.out | apply below_alloc | apply pw_below_drewN | apply below_drew1) | exact HB.out)⟩
                      · replace c55 := Bool.eq_false_iff.mpr c55
                        subst c55
                        have H1 : (some false) = some r := by rw [if_neg (show ¬ (false = true) by decide)] at H; exact H
                        clear H
                        have H := H1
                        clear H1
                        obtain rfl := Option.some.inj H
                        go_wp2_with (first | ((with_reducible refine gate_callee (f := 16) rfl ?_); refine goesL_ (some 50) rfl rfl Try.func16 (by kernel_rfl) rfl #[.int .i64 (Go.bits .and .i64 (wrap64 (a0)) 127), .int .i64 t119] rfl (by (try simp only [List.map_toArray, List.map_cons, List.map_nil]); first | done | rfl | (simp only [List.length_drop, List.length_take]; rfl)) ?_; (with_reducible refine (seq_Add.calls k1 (Go.bits .and .i64 (wrap64 (a0)) 127) t119 t123 _ A17.out).mono ?_); rintro e w69 ⟨rfl, hb⟩; refine ⟨_, rfl, ?_⟩; have n0_ := Aside0.mk (below_step (by repeat (first | (with_reducible first | exact HB.out | apply below_alloc | apply pw_below_drewN | apply below_drew1) | exact HB.out)) hb); clear HB; have HB := n0_; clear n0_; (try clear hb); (try clear hb2); (try clear hk); (try clear hi)) | (go_at_call 15; (with_reducible refine (seq_In.calls k1 (Go.bits .and .i64 (wrap64 (a2)) 127) (Go.bits .and .i64 (wrap64 (a0)) 127) (Go.bits .and .i64 (wrap64 (a1)) 127) t129 _ A50.out).mono ?_); rintro e w70 ⟨rfl, hb⟩; have n0_ := Aside0.mk (below_step (by repeat (first | (with_reducible first | exact HB.out | apply below_alloc | apply pw_below_drewN | apply below_drew1) | exact HB.out)) hb); clear HB; have HB := n0_; clear n0_; (try clear hb); (try clear hb2); (try clear hk); (try clear hi)) | (go_at_call 15; (with_reducible refine (seq_In.calls k1 (Go.bits .and .i64 (wrap64 (a0)) 127) (Go.bits .and .i64 (wrap64 (a0)) 127) (Go.bits .and .i64 (wrap64 (a1)) 127) true _ A52.out).mono ?_); rintro e w71 ⟨rfl, hb⟩; have n0_ := Aside0.mk (below_step (by repeat (first | (with_reducible first | exact HB.out | apply below_alloc | apply pw_below_drewN | apply below_drew1) | exact HB.out)) hb); clear HB; have HB := n0_; clear n0_; (try clear hb); (try clear hb2); (try clear hk); (try clear hi)) | (go_at_call 15; (with_reducible refine (seq_In.calls k1 (Go.bits .and .i64 (wrap64 (a1)) 127) (Go.bits .and .i64 (wrap64 (a0)) 127) (Go.bits .and .i64 (wrap64 (a1)) 127) false _ A54.out).mono ?_); rintro e w72 ⟨rfl, hb⟩; have n0_ := Aside0.mk (below_step (by repeat (first | (with_reducible first | exact HB.out | apply below_alloc | apply pw_below_drewN | apply below_drew1) | exact HB.out)) hb); clear HB; have HB := n0_; clear n0_; (try clear hb); (try clear hb2); (try clear hk); (try clear hi)))
                        go_ret
                        exact ⟨by first | rfl | (simp [errW_none, errW_some] <;> rfl) | (simp [*, errW_none, errW_some] <;> rfl), by repeat (first | (with_reducible first | exact HB.out | apply below_alloc | apply pw_below_drewN | apply below_drew1) | exact HB.out)⟩
                    · replace c53 := Bool.eq_false_iff.mpr c53
                      subst c53
                      have H1 : (some false) = some r := by rw [if_neg (show ¬ (false = true) by decide)] at H; exact H
                      clear H
                      have H := H1
                      clear H1
                      obtain rfl := Option.some.inj H
                      go_wp2_with (first | ((with_reducible refine gate_callee (f := 16) rfl ?_); refine goesL_ (some 50) rfl rfl Try.func16 (by kernel_rfl) rfl #[.int .i64 (Go.bits .and .i64 (wrap64 (a0)) 127), .int .i64 t119] rfl (by (try simp only [List.map_toArray, List.map_cons, List.map_nil]); first | done | rfl | (simp only [List.length_drop, List.length_take]; rfl)) ?_; (with_reducible refine (seq_Add.calls k1 (Go.bits .and .i64 (wrap64 (a0)) 127) t119 t123 _ A17.out).mono ?_); rintro e w73 ⟨rfl, hb⟩; refine ⟨_, rfl, ?_⟩; have n0_ := Aside0.mk (below_step (by repeat (first | (with_reducible first | exact HB.out | apply below_alloc | apply pw_below_drewN | apply below_drew1) | exact HB.out)) hb); clear HB; have HB := n0_; clear n0_; (try clear hb); (try clear hb2); (try clear hk); (try clear hi)) | (go_at_call 15; (with_reducible refine (seq_In.calls k1 (Go.bits .and .i64 (wrap64 (a2)) 127) (Go.bits .and .i64 (wrap64 (a0)) 127) (Go.bits .and .i64 (wrap64 (a1)) 127) t129 _ A50.out).mono ?_); rintro e w74 ⟨rfl, hb⟩; have n0_ := Aside0.mk (below_step (by repeat (first | (with_reducible first | exact HB.out | apply below_alloc | apply pw_below_drewN | apply below_drew1) | exact HB.out)) hb); clear HB; have HB := n0_; clear n0_; (try clear hb); (try clear hb2); (try clear hk); (try clear hi)) | (go_at_call 15; (with_reducible refine (seq_In.calls k1 (Go.bits .and .i64 (wrap64 (a0)) 127) (Go.bits .and .i64 (wrap64 (a0)) 127) (Go.bits .and .i64 (wrap64 (a1)) 127) false _ A52.out).mono ?_); rintro e w75 ⟨rfl, hb⟩; have n0_ := Aside0.mk (below_step (by repeat (first | (with_reducible first | exact HB.out | apply below_alloc | apply pw_below_drewN | apply below_drew1) | exact HB.out)) hb); clear HB; have HB := n0_; clear n0_; (try clear hb); (try clear hb2); (try clear hk); (try clear hi)))
                      go_ret
                      exact ⟨by first | rfl | (simp [errW_none, errW_some] <;> rfl) | (simp [*, errW_none, errW_some] <;> rfl), by repeat (first | (with_reducible first | exact HB.out | apply below_alloc | apply pw_below_drewN | apply below_drew1) | exact HB.out)⟩
                  · rw [if_neg c51] at H
                    have c51b0 : (t129 == x12_1) = false := by simpa using c51
                    (try (have c51b1 : decide (t129 = x12_1) = false := by simpa using c51))
                    (try (have c51b2 : (t129 == x12_1) = false := by simpa using c51))
                    (try (have c51b3 : ¬ (t129 = x12_1) := by simpa using c51))
                    clear c51
                    obtain rfl := Option.some.inj H
                    go_wp2_with (first | ((with_reducible refine gate_callee (f := 16) rfl ?_); refine goesL_ (some 50) rfl rfl Try.func16 (by kernel_rfl) rfl #[.int .i64 (Go.bits .and .i64 (wrap64 (a0)) 127), .int .i64 t119] rfl (by (try simp only [List.map_toArray, List.map_cons, List.map_nil]); first | done | rfl | (simp only [List.length_drop, List.length_take]; rfl)) ?_; (with_reducible refine (seq_Add.calls k1 (Go.bits .and .i64 (wrap64 (a0)) 127) t119 t123 _ A17.out).mono ?_); rintro e w76 ⟨rfl, hb⟩; refine ⟨_, rfl, ?_⟩; have n0_ := Aside0.mk (below_step (by repeat (first | (with_reducible first | exact HB.out | apply below_alloc | apply pw_below_drewN | apply below_drew1) | exact HB.out)) hb); clear HB; have HB := n0_; clear n0_; (try clear hb); (try clear hb2); (try clear hk); (try clear hi)) | (go_at_call 15; (with_reducible refine (seq_In.calls k1 (Go.bits .and .i64 (wrap64 (a2)) 127) (Go.bits .and .i64 (wrap64 (a0)) 127) (Go.bits .and .i64 (wrap64 (a1)) 127) t129 _ A50.out).mono ?_); rintro e w77 ⟨rfl, hb⟩; have n0_ := Aside0.mk (below_step (by repeat (first | (with_reducible first | exact HB.out | apply below_alloc | apply pw_below_drewN | apply below_drew1) | exact HB.out)) hb); clear HB; have HB := n0_; clear n0_; (try clear hb); (try clear hb2); (try clear hk); (try clear hi)))
                    go_ret
                    exact ⟨by first | rfl | (simp [errW_none, errW_some] <;> rfl) | (simp [*, errW_none, errW_some] <;> rfl), by repeat (first | (with_reducible first | exact HB.out | apply below_alloc | apply pw_below_drewN | apply below_drew1) | exact HB.out)⟩
                · rw [if_neg c49] at H
                  have c49b0 : ((wrap64 (t120 + t121)) == 128) = false := beq_eq_false_iff_ne.mpr c49
                  have c49b1 : ((wrap64 (t120 + t121)) != 128) = true := bne_iff_ne.mpr c49
                  obtain rfl := Option.some.inj H
                  go_wp2_with (first | ((with_reducible refine gate_callee (f := 16) rfl ?_); refine goesL_ (some 50) rfl rfl Try.func16 (by kernel_rfl) rfl #[.int .i64 (Go.bits .and .i64 (wrap64 (a0)) 127), .int .i64 t119] rfl (by (try simp only [List.map_toArray, List.map_cons, List.map_nil]); first | done | rfl | (simp only [List.length_drop, List.length_take]; rfl)) ?_; (with_reducible refine (seq_Add.calls k1 (Go.bits .and .i64 (wrap64 (a0)) 127) t119 t123 _ A17.out).mono ?_); rintro e w78 ⟨rfl, hb⟩; refine ⟨_, rfl, ?_⟩; have n0_ := Aside0.mk (below_step (by repeat (first | (with_reducible first | exact HB.out | apply below_alloc | apply pw_below_drewN | apply below_drew1) | exact HB.out)) hb); clear HB; have HB := n0_; clear n0_; (try clear hb); (try clear hb2); (try clear hk); (try clear hi)))
                  go_ret
                  exact ⟨by first | rfl | (simp [errW_none, errW_some] <;> rfl) | (simp [*, errW_none, errW_some] <;> rfl), by repeat (first | (with_reducible first | exact HB.out | apply below_alloc | apply pw_below_drewN | apply below_drew1) | exact HB.out)⟩
            · rw [if_neg c19] at H
              have c19b0 : ((wrap64 (t120 + t121)) == 0) = false := beq_eq_false_iff_ne.mpr c19
              have c19b1 : ((wrap64 (t120 + t121)) != 0) = true := bne_iff_ne.mpr c19
              by_cases c79 : (wrap64 (t120 + t121)) = 128
              · rw [if_pos c79] at H
                have c79b0 : ((wrap64 (t120 + t121)) == 128) = true := beq_iff_eq.mpr c79
                have c79b1 : ((wrap64 (t120 + t121)) != 128) = false := bne_eq_false_iff_eq.mpr c79
                clear c79
                by_cases c80 : (Go.bits .and .i64 (wrap64 (a0)) 127) = (Go.bits .and .i64 (wrap64 (a1)) 127)
                · rw [if_pos c80] at H
                  have c80b0 : ((Go.bits .and .i64 (wrap64 (a0)) 127) == (Go.bits .and .i64 (wrap64 (a1)) 127)) = true := beq_iff_eq.mpr c80
                  have c80b1 : ((Go.bits .and .i64 (wrap64 (a0)) 127) != (Go.bits .and .i64 (wrap64 (a1)) 127)) = false := bne_eq_false_iff_eq.mpr c80
                  clear c80
                  obtain rfl := Option.some.inj H
                  go_wp2_with (first | ((with_reducible refine gate_callee (f := 16) rfl ?_); refine goesL_ (some 50) rfl rfl Try.func16 (by kernel_rfl) rfl #[.int .i64 (Go.bits .and .i64 (wrap64 (a0)) 127), .int .i64 t119] rfl (by (try simp only [List.map_toArray, List.map_cons, List.map_nil]); first | done | rfl | (simp only [List.length_drop, List.length_take]; rfl)) ?_; (with_reducible refine (seq_Add.calls k1 (Go.bits .and .i64 (wrap64 (a0)) 127) t119 t123 _ A17.out).mono ?_); rintro e w81 ⟨rfl, hb⟩; refine ⟨_, rfl, ?_⟩; have n0_ := Aside0.mk (below_step (by repeat (first | (with_reducible first | exact HB.out | apply below_alloc | apply pw_below_drewN | apply below_drew1) | exact HB.out)) hb); clear HB; have HB := n0_; clear n0_; (try clear hb); (try clear hb2); (try clear hk); (try clear hi)))
                  go_ret
                  exact ⟨by first | rfl | (simp [errW_none, errW_some] <;> rfl) | (simp [*, errW_none, errW_some] <;> rfl), by repeat (first | (with_reducible first | exact HB.out | apply below_alloc | apply pw_below_drewN | apply below_drew1) | exact HB.out)⟩
                · rw [if_neg c80] at H
                  have c80b0 : ((Go.bits .and .i64 (wrap64 (a0)) 127) == (Go.bits .and .i64 (wrap64 (a1)) 127)) = false := beq_eq_false_iff_ne.mpr c80
                  have c80b1 : ((Go.bits .and .i64 (wrap64 (a0)) 127) != (Go.bits .and .i64 (wrap64 (a1)) 127)) = true := bne_iff_ne.mpr c80
                  replace H := Option.bind_eq_some_iff.mp H
                  obtain ⟨t134, A820, H⟩ := H
                  replace H : (if (t134 == x12_1) = true then ((seq_In.f k1 (Go.bits .and .i64 (wrap64 (a0)) 127) (Go.bits .and .i64 (wrap64 (a0)) 127) (Go.bits .and .i64 (wrap64 (a1)) 127)).bind fun t135 => (if t135 = true then ((seq_In.f k1 (Go.bits .and .i64 (wrap64 (a1)) 127) (Go.bits .and .i64 (wrap64 (a0)) 127) (Go.bits .and .i64 (wrap64 (a1)) 127)).bind fun t136 => (if t136 = true then (if t119 = 64 then (some true) else ((seq_Less.f k1 (Go.bits .and .i64 (wrap64 (a0)) 127) (Go.bits .and .i64 (wrap64 (a1)) 127)).bind fun t137 => ((seq_Less.f k1 (Go.bits .and .i64 (wrap64 (a1)) 127) (Go.bits .and .i64 (wrap64 (a0)) 127)).bind fun t138 => (some (t137 == (wrap64 (-t138))))))) else (some false))) else (some false))) else (some false)) = some r := H
                  have A82 := Aside0.mk A820
                  clear A820
                  by_cases c83 : (t134 == x12_1) = true
                  · rw [if_pos c83] at H
                    have c83b0 : (t134 == x12_1) = true := c83
                    (try (have c83b1 : decide (t134 = x12_1) = true := by simpa using c83))
                    (try (have c83b2 : (t134 == x12_1) = true := by simpa using c83))
                    clear c83
                    replace H := Option.bind_eq_some_iff.mp H
                    obtain ⟨t135, A840, H⟩ := H
                    replace H : (if t135 = true then ((seq_In.f k1 (Go.bits .and .i64 (wrap64 (a1)) 127) (Go.bits .and .i64 (wrap64 (a0)) 127) (Go.bits .and .i64 (wrap64 (a1)) 127)).bind fun t136 => (if t136 = true then (if t119 = 64 then (some true) else ((seq_Less.f k1 (Go.bits .and .i64 (wrap64 (a0)) 127) (Go.bits .and .i64 (wrap64 (a1)) 127)).bind fun t137 => ((seq_Less.f k1 (Go.bits .and .i64 (wrap64 (a1)) 127) (Go.bits .and .i64 (wrap64 (a0)) 127)).bind fun t138 => (some (t137 == (wrap64 (-t138))))))) else (some false))) else (some false)) = some r := H
                    have A84 := Aside0.mk A840
                    clear A840
                    by_cases c85 : t135 = true
                    · subst c85
                      have H1 : ((seq_In.f k1 (Go.bits .and .i64 (wrap64 (a1)) 127) (Go.bits .and .i64 (wrap64 (a0)) 127) (Go.bits .and .i64 (wrap64 (a1)) 127)).bind fun t136 => (if t136 = true then (if t119 = 64 then (some true) else ((seq_Less.f k1 (Go.bits .and .i64 (wrap64 (a0)) 127) (Go.bits .and .i64 (wrap64 (a1)) 127)).bind fun t137 => ((seq_Less.f k1 (Go.bits .and .i64 (wrap64 (a1)) 127) (Go.bits .and .i64 (wrap64 (a0)) 127)).bind fun t138 => (some (t137 == (wrap64 (-t138))))))) else (some false))) = some r := by rw [if_pos rfl] at H; exact H
                      clear H
                      have H := H1
                      clear H1
                      replace H := Option.bind_eq_some_iff.mp H
                      obtain ⟨t136, A860, H⟩ := H
                      replace H : (if t136 = true then (if t119 = 64 then (some true) else ((seq_Less.f k1 (Go.bits .and .i64 (wrap64 (a0)) 127) (Go.bits .and .i64 (wrap64 (a1)) 127)).bind fun t137 => ((seq_Less.f k1 (Go.bits .and .i64 (wrap64 (a1)) 127) (Go.bits .and .i64 (wrap64 (a0)) 127)).bind fun t138 => (some (t137 == (wrap64 (-t138))))))) else (some false)) = some r := H
                      have A86 := Aside0.mk A860
                      clear A860
                      by_cases c87 : t136 = true
                      · subst c87
                        have H1 : (if t119 = 64 then (some true) else ((seq_Less.f k1 (Go.bits .and .i64 (wrap64 (a0)) 127) (Go.bits .and .i64 (wrap64 (a1)) 127)).bind fun t137 => ((seq_Less.f k1 (Go.bits .and .i64 (wrap64 (a1)) 127) (Go.bits .and .i64 (wrap64 (a0)) 127)).bind fun t138 => (some (t137 == (wrap64 (-t138))))))) = some r := by rw [if_pos rfl] at H; exact H
                        clear H
                        have H := H1
                        clear H1
                        by_cases c88 : t119 = 64
                        · rw [if_pos c88] at H
                          have c88b0 : (t119 == 64) = true := beq_iff_eq.mpr c88
                          have c88b1 : (t119 != 64) = false := bne_eq_false_iff_eq.mpr c88
                          clear c88
                          obtain rfl := Option.some.inj H
                          go_wp2_with (first | ((with_reducible refine gate_callee (f := 16) rfl ?_); refine goesL_ (some 50) rfl rfl Try.func16 (by kernel_rfl) rfl #[.int .i64 (Go.bits .and .i64 (wrap64 (a0)) 127), .int .i64 t119] rfl (by (try simp only [List.map_toArray, List.map_cons, List.map_nil]); first | done | rfl | (simp only [List.length_drop, List.length_take]; rfl)) ?_; (with_reducible refine (seq_Add.calls k1 (Go.bits .and .i64 (wrap64 (a0)) 127) t119 t123 _ A17.out).mono ?_); rintro e w89 ⟨rfl, hb⟩; refine ⟨_, rfl, ?_⟩; have n0_ := Aside0.mk (below_step (by repeat (first | (with_reducible first | exact HB.out | apply below_alloc | apply pw_below_drewN | apply below_drew1) | exact HB.out)) hb); clear HB; have HB := n0_; clear n0_; (try clear hb); (try clear hb2); (try clear hk); (try clear hi)) | (go_at_call 15; (with_reducible refine (seq_In.calls k1 (Go.bits .and .i64 (wrap64 (a2)) 127) (Go.bits .and .i64 (wrap64 (a0)) 127) (Go.bits .and .i64 (wrap64 (a1)) 127) t134 _ A82.out).mono ?_); rintro e w90 ⟨rfl, hb⟩; have n0_ := Aside0.mk (below_step (by repeat (first | (with_reducible first | exact HB.out | apply below_alloc | apply pw_below_drewN | apply below_drew1) | exact HB.out)) hb); clear HB; have HB := n0_; clear n0_; (try clear hb); (try clear hb2); (try clear hk); (try clear hi)) | (go_at_call 15; (with_reducible refine (seq_In.calls k1 (Go.bits .and .i64 (wrap64 (a0)) 127) (Go.bits .and .i64 (wrap64 (a0)) 127) (Go.bits .and .i64 (wrap64 (a1)) 127) true _ A84.out).mono ?_); rintro e w91 ⟨rfl, hb⟩; have n0_ := Aside0.mk (below_step (by repeat (first | (with_reducible first | exact HB.out | apply below_alloc | apply pw_below_drewN | apply below_drew1) | exact HB.out)) hb); clear HB; have HB := n0_; clear n0_; (try clear hb); (try clear hb2); (try clear hk); (try clear hi)) | (go_at_call 15; (with_reducible refine (seq_In.calls k1 (Go.bits .and .i64 (wrap64 (a1)) 127) (Go.bits .and .i64 (wrap64 (a0)) 127) (Go.bits .and .i64 (wrap64 (a1)) 127) true _ A86.out).mono ?_); rintro e w92 ⟨rfl, hb⟩; have n0_ := Aside0.mk (below_step (by repeat (first | (with_reducible first | exact HB.out | apply below_alloc | apply pw_below_drewN | apply below_drew1) | exact HB.out)) hb); clear HB; have HB := n0_; clear n0_; (try clear hb); (try clear hb2); (try clear hk); (try clear hi)))
                          go_ret
                          exact ⟨by first | rfl | (simp [errW_none, errW_some] <;> rfl) | (simp [*, errW_none, errW_some] <;> rfl), by repeat (first | (with_reducible first | exact HB.out | apply below_alloc | apply pw_below_drewN | apply below_drew1) | exact HB.out)⟩
                        · rw [if_neg c88] at H
                          have c88b0 : (t119 == 64) = false := beq_eq_false_iff_ne.mpr c88
                          have c88b1 : (t119 != 64) = true := bne_iff_ne.mpr c88
                          replace H := Option.bind_eq_some_iff.mp H
                          obtain ⟨t137, A930, H⟩ := H
                          replace H : ((seq_Less.f k1 (Go.bits .and .i64 (wrap64 (a1)) 127) (Go.bits .and .i64 (wrap64 (a0)) 127)).bind fun t138 => (some (t137 == (wrap64 (-t138))))) = some r := H
                          have A93 := Aside0.mk A930
                          clear A930
                          replace H := Option.bind_eq_some_iff.mp H
                          obtain ⟨t138, A940, H⟩ := H
                          replace H : (some (t137 == (wrap64 (-t138)))) = some r := H
                          have A94 := Aside0.mk A940
                          clear A940
                          obtain rfl := Option.some.inj H
                          go_wp2_with (first | ((with_reducible refine gate_callee (f := 16) rfl ?_); refine goesL_ (some 50) rfl rfl Try.func16 (by kernel_rfl) rfl #[.int .i64 (Go.bits .and .i64 (wrap64 (a0)) 127), .int .i64 t119] rfl (by (try simp only [List.map_toArray, List.map_cons, List.map_nil]); first | done | rfl | (simp only [List.length_drop, List.length_take]; rfl)) ?_; (with_reducible refine (seq_Add.calls k1 (Go.bits .and .i64 (wrap64 (a0)) 127) t119 t123 _ A17.out).mono ?_); rintro e w95 ⟨rfl, hb⟩; refine ⟨_, rfl, ?_⟩; have n0_ := Aside0.mk (below_step (by repeat (first | (with_reducible first | exact HB.out | apply below_alloc | apply pw_below_drewN | apply below_drew1) | exact HB.out)) hb); clear HB; have HB := n0_; clear n0_; (try clear hb); (try clear hb2); (try clear hk); (try clear hi)) | (go_at_call 15; (with_reducible refine (seq_In.calls k1 (Go.bits .and .i64 (wrap64 (a2)) 127) (Go.bits .and .i64 (wrap64 (a0)) 127) (Go.bits .and .i64 (wrap64 (a1)) 127) t134 _ A82.out).mono ?_); rintro e w96 ⟨rfl, hb⟩; have n0_ := Aside0.mk (below_step (by repeat (first | (with_reducible first | exact HB.out | apply below_alloc | apply pw_below_drewN | apply below_drew1) | exact HB.out)) hb); clear HB; have HB := n0_; clear n0_; (try clear hb); (try clear hb2); (try clear hk); (try clear hi)) | (go_at_call 15; (with_reducible refine (seq_In.calls k1 (Go.bits .and .i64 (wrap64 (a0)) 127) (Go.bits .and .i64 (wrap64 (a0)) 127) (Go.bits .and .i64 (wrap64 (a1)) 127) true _ A84.out).mono ?_); rintro e w97 ⟨rfl, hb⟩; have n0_ := Aside0.mk (below_step (by repeat (first | (with_reducible first | exact HB.out | apply below_alloc | apply pw_below_drewN | apply below_drew1) | exact HB.out)) hb); clear HB; have HB := n0_; clear n0_; (try clear hb); (try clear hb2); (try clear hk); (try clear hi)) | (go_at_call 15; (with_reducible refine (seq_In.calls k1 (Go.bits .and .i64 (wrap64 (a1)) 127) (Go.bits .and .i64 (wrap64 (a0)) 127) (Go.bits .and .i64 (wrap64 (a1)) 127) true _ A86.out).mono ?_); rintro e w98 ⟨rfl, hb⟩; have n0_ := Aside0.mk (below_step (by repeat (first | (with_reducible first | exact HB.out | apply below_alloc | apply pw_below_drewN | apply below_drew1) | exact HB.out)) hb); clear HB; have HB := n0_; clear n0_; (try clear hb); (try clear hb2); (try clear hk); (try clear hi)) | (go_at_call 14; (with_reducible refine (seq_Less.calls k1 (Go.bits .and .i64 (wrap64 (a0)) 127) (Go.bits .and .i64 (wrap64 (a1)) 127) t137 _ A93.out).mono ?_); rintro e w99 ⟨rfl, hb⟩; have n0_ := Aside0.mk (below_step (by repeat (first | (with_reducible first | exact HB.out | apply below_alloc | apply pw_below_drewN | apply below_drew1) | exact HB.out)) hb); clear HB; have HB := n0_; clear n0_; (try clear hb); (try clear hb2); (try clear hk); (try clear hi)) | (go_at_call 14; (with_reducible refine (seq_Less.calls k1 (Go.bits .and .i64 (wrap64 (a1)) 127) (Go.bits .and .i64 (wrap64 (a0)) 127) t138 _ A94.out).mono ?_); rintro e w100 ⟨rfl, hb⟩; have n0_ := Aside0.mk (below_step (by repeat (first | (with_reducible first | exact HB.out | apply below_alloc | apply pw_below_drewN | apply below_drew1) | exact HB.out)) hb); clear HB; have HB := n0_; clear n0_; (try clear hb); (try clear hb2); (try clear hk); (try clear hi)))
                          go_ret
                          exact ⟨by first | rfl | (simp [errW_none, errW_some] <;> rfl) | (simp [*, errW_none, errW_some] <;> rfl), by repeat (first | (with_reducible first | exact HB.out | apply below_alloc | apply pw_below_drewN | apply below_drew1) | exact HB.out)⟩
                      · replace c87 := Bool.eq_false_iff.mpr c87
                        subst c87
                        have H1 : (some false) = some r := by rw [if_neg (show ¬ (false = true) by decide)] at H; exact H
                        clear H
                        have H := H1
                        clear H1
                        obtain rfl := Option.some.inj H
                        go_wp2_with (first | ((with_reducible refine gate_callee (f := 16) rfl ?_); refine goesL_ (some 50) rfl rfl Try.func16 (by kernel_rfl) rfl #[.int .i64 (Go.bits .and .i64 (wrap64 (a0)) 127), .int .i64 t119] rfl (by (try simp only [List.map_toArray, List.map_cons, List.map_nil]); first | done | rfl | (simp only [List.length_drop, List.length_take]; rfl)) ?_; (with_reducible refine (seq_Add.calls k1 (Go.bits .and .i64 (wrap64 (a0)) 127) t119 t123 _ A17.out).mono ?_); rintro e w101 ⟨rfl, hb⟩; refine ⟨_, rfl, ?_⟩; have n0_ := Aside0.mk (below_step (by repeat (first | (with_reducible first | exact HB.out | apply below_alloc | apply pw_below_drewN | apply below_drew1) | exact HB.out)) hb); clear HB; have HB := n0_; clear n0_; (try clear hb); (try clear hb2); (try clear hk); (try clear hi)) | (go_at_call 15; (with_reducible refine (seq_In.calls k1 (Go.bits .and .i64 (wrap64 (a2)) 127) (Go.bits .and .i64 (wrap64 (a0)) 127) (Go.bits .and .i64 (wrap64 (a1)) 127) t134 _ A82.out).mono ?_); rintro e w102 ⟨rfl, hb⟩; have n0_ := Aside0.mk (below_step (by repeat (first | (with_reducible first | exact HB.out | apply below_alloc | apply pw_below_drewN | apply below_drew1) | exact HB.out)) hb); clear HB; have HB := n0_; clear n0_; (try clear hb); (try clear hb2); (try clear hk); (try clear hi)) | (go_at_call 15; (with_reducible refine (seq_In.calls k1 (Go.bits .and .i64 (wrap64 (a0)) 127) (Go.bits .and .i64 (wrap64 (a0)) 127) (Go.bits .and .i64 (wrap64 (a1)) 127) true _ A84.out).mono ?_); rintro e w103 ⟨rfl, hb⟩; have n0_ := Aside0.mk (below_step (by repeat (first | (with_reducible first | exact HB.out | apply below_alloc | apply pw_below_drewN | apply below_drew1) | exact HB.out)) hb); clear HB; have HB := n0_; clear n0_; (try clear hb); (try clear hb2); (try clear hk); (try clear hi)) | (go_at_call 15; (with_reducible refine (seq_In.calls k1 (Go.bits .and .i64 (wrap64 (a1)) 127) (Go.bits .and .i64 (wrap64 (a0)) 127) (Go.bits .and .i64 (wrap64 (a1)) 127) false _ A86.out).mono ?_); rintro e w104 ⟨rfl, hb⟩; have n0_ := Aside0.mk (below_step (by repeat (first | (with_reducible first | exact HB.out | apply below_alloc | apply pw_below_drewN | apply below_drew1) | exact HB.out)) hb); clear HB; have HB := n0_; clear n0_; (try clear hb); (try clear hb2); (try clear hk); (try clear hi)))
                        go_ret
                        exact ⟨by first | rfl | (simp [errW_none, errW_some] <;> rfl) | (simp [*, errW_none, errW_some] <;> rfl), by repeat (first | (with_reducible first | exact HB.out | apply below_alloc | apply pw_below_drewN | apply below_drew1) | exact HB.out)⟩
                    · replace c85 := Bool.eq_false_iff.mpr c85
                      subst c85
                      have H1 : (some false) = some r := by rw [if_neg (show ¬ (false = true) by decide)] at H; exact H
                      clear H
                      have H := H1
                      clear H1
                      obtain rfl := Option.some.inj H
                      go_wp2_with (first | ((with_reducible refine gate_callee (f := 16) rfl ?_); refine goesL_ (some 50) rfl rfl Try.func16 (by kernel_rfl) rfl #[.int .i64 (Go.bits .and .i64 (wrap64 (a0)) 127), .int .i64 t119] rfl (by (try simp only [List.map_toArray, List.map_cons, List.map_nil]); first | done | rfl | (simp only [List.length_drop, List.length_take]; rfl)) ?_; (with_reducible refine (seq_Add.calls k1 (Go.bits .and .i64 (wrap64 (a0)) 127) t119 t123 _ A17.out).mono ?_); rintro e w105 ⟨rfl, hb⟩; refine ⟨_, rfl, ?_⟩; have n0_ := Aside0.mk (below_step (by repeat (first | (with_reducible first | exact HB.out | apply below_alloc | apply pw_below_drewN | apply below_drew1) | exact HB.out)) hb); clear HB; have HB := n0_; clear n0_; (try clear hb); (try clear hb2); (try clear hk); (try clear hi)) | (go_at_call 15; (with_reducible refine (seq_In.calls k1 (Go.bits .and .i64 (wrap64 (a2)) 127) (Go.bits .and .i64 (wrap64 (a0)) 127) (Go.bits .and .i64 (wrap64 (a1)) 127) t134 _ A82.out).mono ?_); rintro e w106 ⟨rfl, hb⟩; have n0_ := Aside0.mk (below_step (by repeat (first | (with_reducible first | exact HB.out | apply below_alloc | apply pw_below_drewN | apply below_drew1) | exact HB.out)) hb); clear HB; have HB := n0_; clear n0_; (try clear hb); (try clear hb2); (try clear hk); (try clear hi)) | (go_at_call 15; (with_reducible refine (seq_In.calls k1 (Go.bits .and .i64 (wrap64 (a0)) 127) (Go.bits .and .i64 (wrap64 (a0)) 127) (Go.bits .and .i64 (wrap64 (a1)) 127) false _ A84.out).mono ?_); rintro e w107 ⟨rfl, hb⟩; have n0_ := Aside0.mk (below_step (by repeat (first | (with_reducible first | exact HB.out | apply below_alloc | apply pw_below_drewN | apply below_drew1) | exact HB.out)) hb); clear HB; have HB := n0_; clear n0_; (try clear hb); (try clear hb2); (try clear hk); (try clear hi)))
                      go_ret
                      exact ⟨by first | rfl | (simp [errW_none, errW_some] <;> rfl) | (simp [*, errW_none, errW_some] <;> rfl), by repeat (first | (with_reducible first | exact HB.out | apply below_alloc | apply pw_below_drewN | apply below_drew1) | exact HB.out)⟩
                  · rw [if_neg c83] at H
                    have c83b0 : (t134 == x12_1) = false := by simpa using c83
                    (try (have c83b1 : decide (t134 = x12_1) = false := by simpa using c83))
                    (try (have c83b2 : (t134 == x12_1) = false := by simpa using c83))
                    (try (have c83b3 : ¬ (t134 = x12_1) := by simpa using c83))
                    clear c83
                    obtain rfl := Option.some.inj H
                    go_wp2_with (first | ((with_reducible refine gate_callee (f := 16) rfl ?_); refine goesL_ (some 50) rfl rfl Try.func16 (by kernel_rfl) rfl #[.int .i64 (Go.bits .and .i64 (wrap64 (a0)) 127), .int .i64 t119] rfl (by (try simp only [List.map_toArray, List.map_cons, List.map_nil]); first | done | rfl | (simp only [List.length_drop, List.length_take]; rfl)) ?_; (with_reducible refine (seq_Add.calls k1 (Go.bits .and .i64 (wrap64 (a0)) 127) t119 t123 _ A17.out).mono ?_); rintro e w108 ⟨rfl, hb⟩; refine ⟨_, rfl, ?_⟩; have n0_ := Aside0.mk (below_step (by repeat (first | (with_reducible first | exact HB.out | apply below_alloc | apply pw_below_drewN | apply below_drew1) | exact HB.out)) hb); clear HB; have HB := n0_; clear n0_; (try clear hb); (try clear hb2); (try clear hk); (try clear hi)) | (go_at_call 15; (with_reducible refine (seq_In.calls k1 (Go.bits .and .i64 (wrap64 (a2)) 127) (Go.bits .and .i64 (wrap64 (a0)) 127) (Go.bits .and .i64 (wrap64 (a1)) 127) t134 _ A82.out).mono ?_); rintro e w109 ⟨rfl, hb⟩; have n0_ := Aside0.mk (below_step (by repeat (first | (with_reducible first | exact HB.out | apply below_alloc | apply pw_below_drewN | apply below_drew1) | exact HB.out)) hb); clear HB; have HB := n0_; clear n0_; (try clear hb); (try clear hb2); (try clear hk); (try clear hi)))
                    go_ret
                    exact ⟨by first | rfl | (simp [errW_none, errW_some] <;> rfl) | (simp [*, errW_none, errW_some] <;> rfl), by repeat (first | (with_reducible first | exact HB.out | apply below_alloc | apply pw_below_drewN | apply below_drew1) | exact HB.out)⟩
              · rw [if_neg c79] at H
                have c79b0 : ((wrap64 (t120 + t121)) == 128) = false := beq_eq_false_iff_ne.mpr c79
                have c79b1 : ((wrap64 (t120 + t121)) != 128) = true := bne_iff_ne.mpr c79
                obtain rfl := Option.some.inj H
                go_wp2_with (first | ((with_reducible refine gate_callee (f := 16) rfl ?_); refine goesL_ (some 50) rfl rfl Try.func16 (by kernel_rfl) rfl #[.int .i64 (Go.bits .and .i64 (wrap64 (a0)) 127), .int .i64 t119] rfl (by (try simp only [List.map_toArray, List.map_cons, List.map_nil]); first | done | rfl | (simp only [List.length_drop, List.length_take]; rfl)) ?_; (with_reducible refine (seq_Add.calls k1 (Go.bits .and .i64 (wrap64 (a0)) 127) t119 t123 _ A17.out).mono ?_); rintro e w110 ⟨rfl, hb⟩; refine ⟨_, rfl, ?_⟩; have n0_ := Aside0.mk (below_step (by repeat (first | (with_reducible first | exact HB.out | apply below_alloc | apply pw_below_drewN | apply below_drew1) | exact HB.out)) hb); clear HB; have HB := n0_; clear n0_; (try clear hb); (try clear hb2); (try clear hk); (try clear hi)))
                go_ret
                exact ⟨by first | rfl | (simp [errW_none, errW_some] <;> rfl) | (simp [*, errW_none, errW_some] <;> rfl), by repeat (first | (with_reducible first | exact HB.out | apply below_alloc | apply pw_below_drewN | apply below_drew1) | exact HB.out)⟩
          · rw [if_neg c18] at H
            have c18b0 : (t123 == (Go.bits .and .i64 (wrap64 (a1)) 127)) = false := beq_eq_false_iff_ne.mpr c18
            have c18b1 : (t123 != (Go.bits .and .i64 (wrap64 (a1)) 127)) = true := bne_iff_ne.mpr c18
            obtain rfl := Option.some.inj H
            go_wp2_with (first | ((with_reducible refine gate_callee (f := 16) rfl ?_); refine goesL_ (some 50) rfl rfl Try.func16 (by kernel_rfl) rfl #[.int .i64 (Go.bits .and .i64 (wrap64 (a0)) 127), .int .i64 t119] rfl (by (try simp only [List.map_toArray, List.map_cons, List.map_nil]); first | done | rfl | (simp only [List.length_drop, List.length_take]; rfl)) ?_; (with_reducible refine (seq_Add.calls k1 (Go.bits .and .i64 (wrap64 (a0)) 127) t119 t123 _ A17.out).mono ?_); rintro e w111 ⟨rfl, hb⟩; refine ⟨_, rfl, ?_⟩; have n0_ := Aside0.mk (below_step (by repeat (first | (with_reducible first | exact HB.out | apply below_alloc | apply pw_below_drewN | apply below_drew1) | exact HB.out)) hb); clear HB; have HB := n0_; clear n0_; (try clear hb); (try clear hb2); (try clear hk); (try clear hi)))
            go_ret
            exact ⟨by first | rfl | (simp [errW_none, errW_some] <;> rfl) | (simp [*, errW_none, errW_some] <;> rfl), by repeat (first | (with_reducible first | exact HB.out | apply below_alloc | apply pw_below_drewN | apply below_drew1) | exact HB.out)⟩
  · replace c5 := Bool.eq_false_iff.mpr c5
    subst c5
    have H1 : (some false) = some r := by rw [if_neg (show ¬ (false = true) by decide)] at H; exact H
    clear H
    have H := H1
    clear H1
    obtain rfl := Option.some.inj H
    go_enter Try.func5, Try.ntmps5
    go_wp2_with (first | ((with_reducible refine gate_callee (f := 13) rfl ?_); refine goesL_ (some 14) rfl rfl Try.func13 (by kernel_rfl) rfl #[] rfl (by (try simp only [List.map_toArray, List.map_cons, List.map_nil]); first | done | rfl | (simp only [List.length_drop, List.length_take]; rfl)) ?_; (with_reducible refine (antiphonlaw9_awake.calls k  false _ A4.out).mono ?_); rintro e w112 ⟨rfl, hb⟩; refine ⟨_, rfl, ?_⟩; have n0_ := Aside0.mk (below_step (by repeat (first | (with_reducible first | exact HB.out | apply below_alloc | apply pw_below_drewN | apply below_drew1) | exact HB.out)) hb); clear HB; have HB := n0_; clear n0_; (try clear hb); (try clear hb2); (try clear hk); (try clear hi)))
    go_ret
    exact ⟨by first | rfl | (simp [errW_none, errW_some] <;> rfl) | (simp [*, errW_none, errW_some] <;> rfl), by repeat (first | (with_reducible first | exact HB.out | apply below_alloc | apply pw_below_drewN | apply below_drew1) | exact HB.out)⟩

/-- THE ONE PURE STATEMENT of antiphonlaw9_SeqWays: yours. -/
def antiphonlaw9_SeqWays.Pure : Prop := ∀ (a0 : Int) (a1 : Int) (a2 : Int), (Lit.int .u8 a0).wf = true → (Lit.int .u8 a1).wf = true → (Lit.int .u8 a2).wf = true → ∃ k, antiphonlaw9_SeqWays.f k a0 a1 a2 = some true
theorem antiphonlaw9_SeqWays.walk (P : antiphonlaw9_SeqWays.Pure) (a0 : Int) (a1 : Int) (a2 : Int) (w : World) (w0 : (Lit.int .u8 a0).wf = true) (w1 : (Lit.int .u8 a1).wf = true) (w2 : (Lit.int .u8 a2).wf = true) :
    Calls Try.prog 5 #[.int .u8 a0, .int .u8 a1, .int .u8 a2] w fun e w' => e = .returned (.bool true) ∧ Below w.heap.size w w' := by
  obtain ⟨k, h⟩ := P a0 a1 a2 w0 w1 w2
  refine (antiphonlaw9_SeqWays.calls k a0 a1 a2 true w h).mono ?_
  rintro e w' ⟨rfl, hd⟩
  exact ⟨rfl, hd⟩

end Go.Proofs.Ytlhfdfjjploboaa.PSeqWays
