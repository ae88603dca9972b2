/- The law BoundGrows, walked. -/
import Derived.Test.YtaefahbgeokopaaBoundN
import Derived.Test.YtaefahbgeokopaaParF
namespace Go.Proofs.Ytaefahbgeokopaa
open Go.RowKit Go.Shelf
set_option linter.unusedVariables false
set_option linter.unusedSimpArgs false

def growM (c : CM) (m0 m1 m2 : Int) : CM := { c with tr := c.tr + m0 % 20, ak := c.ak + m1 % 20, bu := c.bu + m2 % 20 }
theorem growM_ok {c : CM} (h : c.ok) (hb : (1 ≤ c.tr ∧ c.tr ≤ 5) ∧ (1 ≤ c.ak ∧ c.ak ≤ 5) ∧ (1 ≤ c.bu ∧ c.bu ≤ 5)) {m0 m1 m2 : Int} (hm0 : 0 ≤ m0) (hm1 : 0 ≤ m1) (hm2 : 0 ≤ m2) : (growM c m0 m1 m2).ok ∧ c.tr ≤ (growM c m0 m1 m2).tr ∧ c.sum ≤ (growM c m0 m1 m2).sum := by
  unfold growM CM.ok CM.sum tick at *; dsimp only; omega
def IsCfg (n : Nat) : World → Value → Prop := fun w v => ∃ b, n ≤ b ∧ v = .pointer (some ⟨b, 0, none⟩) ∧ Blk w b #[.int .i64 0, .int .i64 0, .int .i64 0, .int .i64 0, .int .i64 0, .int .i64 0] 44
theorem IsCfg.keeps (n : Nat) : Keeps [] (IsCfg n) := fun _ _ _ hf ⟨b, n, e, h⟩ => ⟨b, n, e, h.fr hf (by simp)⟩
theorem Blk.cfg {w : World} {b : Nat} {t : TypeId} (h : Blk w b #[.int .i64 0, .int .i64 0, .int .i64 0, .int .i64 0, .int .i64 0, .int .i64 0] t) (c : CM) :
    Blk ((((((w.setCell ⟨b, 0, none⟩ (.int .i64 c.wd)).setCell ⟨b, 1, none⟩ (.int .i64 c.tr)).setCell ⟨b, 2, none⟩ (.int .i64 c.ak)).setCell ⟨b, 3, none⟩ (.int .i64 c.po)).setCell ⟨b, 4, none⟩ (.int .i64 c.re)).setCell ⟨b, 5, none⟩ (.int .i64 c.bu)) b #[.int .i64 c.wd, .int .i64 c.tr, .int .i64 c.ak, .int .i64 c.po, .int .i64 c.re, .int .i64 c.bu] t := by
  have h0 : Blk _ b #[.int .i64 c.wd, .int .i64 0, .int .i64 0, .int .i64 0, .int .i64 0, .int .i64 0] t := Blk.set h 0 (.int .i64 c.wd) rfl
  have h1 : Blk _ b #[.int .i64 c.wd, .int .i64 c.tr, .int .i64 0, .int .i64 0, .int .i64 0, .int .i64 0] t := Blk.set h0 1 (.int .i64 c.tr) rfl
  have h2 : Blk _ b #[.int .i64 c.wd, .int .i64 c.tr, .int .i64 c.ak, .int .i64 0, .int .i64 0, .int .i64 0] t := Blk.set h1 2 (.int .i64 c.ak) rfl
  have h3 : Blk _ b #[.int .i64 c.wd, .int .i64 c.tr, .int .i64 c.ak, .int .i64 c.po, .int .i64 0, .int .i64 0] t := Blk.set h2 3 (.int .i64 c.po) rfl
  have h4 : Blk _ b #[.int .i64 c.wd, .int .i64 c.tr, .int .i64 c.ak, .int .i64 c.po, .int .i64 c.re, .int .i64 0] t := Blk.set h3 4 (.int .i64 c.re) rfl
  have h5 : Blk _ b #[.int .i64 c.wd, .int .i64 c.tr, .int .i64 c.ak, .int .i64 c.po, .int .i64 c.re, .int .i64 c.bu] t := Blk.set h4 5 (.int .i64 c.bu) rfl
  exact h5
theorem Blk.cfgfar {w : World} {b b' : Nat} {t : TypeId} {z : Array Value} (h : Blk w b z t) (hb : b ≠ b') (c : CM) :
    Blk ((((((w.setCell ⟨b', 0, none⟩ (.int .i64 c.wd)).setCell ⟨b', 1, none⟩ (.int .i64 c.tr)).setCell ⟨b', 2, none⟩ (.int .i64 c.ak)).setCell ⟨b', 3, none⟩ (.int .i64 c.po)).setCell ⟨b', 4, none⟩ (.int .i64 c.re)).setCell ⟨b', 5, none⟩ (.int .i64 c.bu)) b z t :=
  (((((h.far hb _).far hb _).far hb _).far hb _).far hb _).far hb _
theorem Fr.cfg {w0 w : World} {b : Nat} {L : List Nat} (h : Fr L w0 w) (hb : b ∈ L ∨ w0.heap.size ≤ b) (c : CM) :
    Fr L w0 ((((((w.setCell ⟨b, 0, none⟩ (.int .i64 c.wd)).setCell ⟨b, 1, none⟩ (.int .i64 c.tr)).setCell ⟨b, 2, none⟩ (.int .i64 c.ak)).setCell ⟨b, 3, none⟩ (.int .i64 c.po)).setCell ⟨b, 4, none⟩ (.int .i64 c.re)).setCell ⟨b, 5, none⟩ (.int .i64 c.bu)) :=
  (((((h.setL b 0 _ hb).setL b 1 _ hb).setL b 2 _ hb).setL b 3 _ hb).setL b 4 _ hb).setL b 5 _ hb
theorem grows_facts {c d : CM} (hc : c.ok) (hd : d.ok) (h1 : c.tr ≤ d.tr) (h2 : c.sum ≤ d.sum) (k : Int) (hk0 : 0 ≤ k) (hk : k < 64) :
    decide (0 < givesV c) = true ∧ decide (givesV c ≤ givesV d) = true ∧ decide (0 < sendsV c k) = true ∧ decide (sendsV c k ≤ sendsV d k) = true ∧ decide (sendsV c k < sendsV c (k + 1)) = true ∧ sendsV c 129 = 0 := by
  have a1 := c.sum_ok hc
  have a2 := c.tr_ok hc
  have a3 := d.sum_ok hd
  have a4 := d.tr_ok hd
  have e1 : givesV c = c.gives := if_pos hc
  have e2 : givesV d = d.gives := if_pos hd
  have e3 : sendsV c k = c.sends k := if_pos ⟨hc, hk0, by omega⟩
  have e4 : sendsV d k = d.sends k := if_pos ⟨hd, hk0, by omega⟩
  have e5 : sendsV c (k + 1) = c.sends (k + 1) := if_pos ⟨hc, by omega, by omega⟩
  have e6 : sendsV c 129 = 0 := if_neg (by omega)
  rw [e1, e2, e3, e4, e5]
  have m1 : c.gives ≤ d.gives := by
    unfold CM.gives
    exact Int.mul_le_mul (show c.tr + 2 ≤ d.tr + 2 by omega) h2 (show 0 ≤ c.sum by omega) (show 0 ≤ d.tr + 2 by omega)
  have m2 : c.sends k ≤ d.sends k := by
    unfold CM.sends
    exact Int.mul_le_mul (Int.le_refl (k + 2)) (show c.sum + 4 ≤ d.sum + 4 by omega) (show 0 ≤ c.sum + 4 by omega) (show 0 ≤ k + 2 by omega)
  have m3 : c.sends k < c.sends (k + 1) := by
    unfold CM.sends
    exact Int.mul_lt_mul_of_pos_right (show k + 2 < k + 1 + 2 by omega) (show 0 < c.sum + 4 by omega)
  exact ⟨decide_eq_true (c.gives_ok hc).1, decide_eq_true m1, decide_eq_true (CM.sends_ok hc hk0 (by omega)).1, decide_eq_true m2, decide_eq_true m3, e6⟩

set_option maxHeartbeats 8000000 in
set_option maxRecDepth 100000 in
theorem law_BoundGrows (n i m0 m1 m2 : Int) (w : World) (hi : 0 ≤ i ∧ i ≤ 255) (hm0 : 0 ≤ m0 ∧ m0 ≤ 255) (hm1 : 0 ≤ m1 ∧ m1 ≤ 255) (hm2 : 0 ≤ m2 ∧ m2 ≤ 255) :
    Calls Try.prog 6 #[.int .i64 n, .int .u8 i, .agg #[.int .u8 m0, .int .u8 m1, .int .u8 m2]] w fun e w' => e = .returned (.bool true) ∧ Fr [] w w' := by
  have hok := madeM_ok n
  have hb : (1 ≤ (madeM n).tr ∧ (madeM n).tr ≤ 5) ∧ (1 ≤ (madeM n).ak ∧ (madeM n).ak ≤ 5) ∧ (1 ≤ (madeM n).bu ∧ (madeM n).bu ≤ 5) := by unfold madeM; dsimp only; omega
  obtain ⟨c, hc⟩ : ∃ c, madeM n = c := ⟨_, rfl⟩
  have HC := Lib.hid hc
  rw [hc] at hok hb
  clear hc
  obtain ⟨dok, dtr, dsum⟩ := growM_ok hok hb hm0.1 hm1.1 hm2.1
  have q0 : wrap64 (c.tr + m0 % 20) = c.tr + m0 % 20 := by unfold wrap64; omega
  have q1 : wrap64 (c.ak + m1 % 20) = c.ak + m1 % 20 := by unfold wrap64; omega
  have q2 : wrap64 (c.bu + m2 % 20) = c.bu + m2 % 20 := by unfold wrap64; omega
  go_enter Try.func6, Try.ntmps6
  have hm := Blk.new w #[.int .u8 m0, .int .u8 m1, .int .u8 m2] 53
  go_wp2_with fail
  refine (b_awake _).mono ?_
  rintro e w1 ⟨rfl, f1⟩
  go_wp2_with fail
  refine (law19_Made n _).mono ?_
  rintro e w2 ⟨rfl, f2⟩
  rw [HC.out]
  have hm2 := (hm.fr f1 (by simp)).fr f2 (by simp)
  have b0 : w2.cell? ⟨w.heap.size, 0, none⟩ = some (.int .u8 m0) := hm2.cell 0 rfl
  have b1 : w2.cell? ⟨w.heap.size, 1, none⟩ = some (.int .u8 m1) := hm2.cell 1 rfl
  have b2 : w2.cell? ⟨w.heap.size, 2, none⟩ = some (.int .u8 m2) := hm2.cell 2 rfl
  have hs2 : w.heap.size < w2.heap.size := hm2.lt
  go_wp2
  have hC := (Blk.newAt w2 w2.heap.size #[.int .i64 c.wd, .int .i64 c.tr, .int .i64 c.ak, .int .i64 c.po, .int .i64 c.re, .int .i64 c.bu] 47 rfl).alloc (.cells #[.int .i64 c.wd, .int .i64 (c.tr + m0 % 20), .int .i64 (c.ak + m1 % 20), .int .i64 c.po, .int .i64 c.re, .int .i64 (c.bu + m2 % 20)] 47)
  have hE := Blk.newAt (w2.alloc (.cells #[.int .i64 c.wd, .int .i64 c.tr, .int .i64 c.ak, .int .i64 c.po, .int .i64 c.re, .int .i64 c.bu] 47)) (w2.heap.size + 1) #[.int .i64 c.wd, .int .i64 (c.tr + m0 % 20), .int .i64 (c.ak + m1 % 20), .int .i64 c.po, .int .i64 c.re, .int .i64 (c.bu + m2 % 20)] 47 (by simp)
  have F3 : Fr [] w ((w2.alloc (.cells #[.int .i64 c.wd, .int .i64 c.tr, .int .i64 c.ak, .int .i64 c.po, .int .i64 c.re, .int .i64 c.bu] 47)).alloc (.cells #[.int .i64 c.wd, .int .i64 (c.tr + m0 % 20), .int .i64 (c.ak + m1 % 20), .int .i64 c.po, .int .i64 c.re, .int .i64 (c.bu + m2 % 20)] 47)) := (((((Fr.refl _ _).alloc _).tr f1).tr f2).alloc _).alloc _
  clear b0 b1 b2 hm hm2 f1 f2 q0 q1 q2
  generalize ((w2.alloc (.cells #[.int .i64 c.wd, .int .i64 c.tr, .int .i64 c.ak, .int .i64 c.po, .int .i64 c.re, .int .i64 c.bu] 47)).alloc (.cells #[.int .i64 c.wd, .int .i64 (c.tr + m0 % 20), .int .i64 (c.ak + m1 % 20), .int .i64 c.po, .int .i64 c.re, .int .i64 (c.bu + m2 % 20)] 47)) = w3 at *
  generalize w2.heap.size + 1 = bd at *
  generalize w2.heap.size = bc at *
  have hE' : Blk w3 bd #[.int .i64 (growM c m0 m1 m2).wd, .int .i64 (growM c m0 m1 m2).tr, .int .i64 (growM c m0 m1 m2).ak, .int .i64 (growM c m0 m1 m2).po, .int .i64 (growM c m0 m1 m2).re, .int .i64 (growM c m0 m1 m2).bu] 47 := hE
  clear hE hs2
  generalize growM c m0 m1 m2 = d at *
  have kc0 : ∀ wx, Fr [] w3 wx → wx.cell? ⟨bc, 0, none⟩ = some (.int .i64 c.wd) := fun wx hf => hf.cell (hC.cell 0 rfl) (by simp)
  have kd0 : ∀ wx, Fr [] w3 wx → wx.cell? ⟨bd, 0, none⟩ = some (.int .i64 d.wd) := fun wx hf => hf.cell (hE'.cell 0 rfl) (by simp)
  have kc1 : ∀ wx, Fr [] w3 wx → wx.cell? ⟨bc, 1, none⟩ = some (.int .i64 c.tr) := fun wx hf => hf.cell (hC.cell 1 rfl) (by simp)
  have kd1 : ∀ wx, Fr [] w3 wx → wx.cell? ⟨bd, 1, none⟩ = some (.int .i64 d.tr) := fun wx hf => hf.cell (hE'.cell 1 rfl) (by simp)
  have kc2 : ∀ wx, Fr [] w3 wx → wx.cell? ⟨bc, 2, none⟩ = some (.int .i64 c.ak) := fun wx hf => hf.cell (hC.cell 2 rfl) (by simp)
  have kd2 : ∀ wx, Fr [] w3 wx → wx.cell? ⟨bd, 2, none⟩ = some (.int .i64 d.ak) := fun wx hf => hf.cell (hE'.cell 2 rfl) (by simp)
  have kc3 : ∀ wx, Fr [] w3 wx → wx.cell? ⟨bc, 3, none⟩ = some (.int .i64 c.po) := fun wx hf => hf.cell (hC.cell 3 rfl) (by simp)
  have kd3 : ∀ wx, Fr [] w3 wx → wx.cell? ⟨bd, 3, none⟩ = some (.int .i64 d.po) := fun wx hf => hf.cell (hE'.cell 3 rfl) (by simp)
  have kc4 : ∀ wx, Fr [] w3 wx → wx.cell? ⟨bc, 4, none⟩ = some (.int .i64 c.re) := fun wx hf => hf.cell (hC.cell 4 rfl) (by simp)
  have kd4 : ∀ wx, Fr [] w3 wx → wx.cell? ⟨bd, 4, none⟩ = some (.int .i64 d.re) := fun wx hf => hf.cell (hE'.cell 4 rfl) (by simp)
  have kc5 : ∀ wx, Fr [] w3 wx → wx.cell? ⟨bc, 5, none⟩ = some (.int .i64 c.bu) := fun wx hf => hf.cell (hC.cell 5 rfl) (by simp)
  have kd5 : ∀ wx, Fr [] w3 wx → wx.cell? ⟨bd, 5, none⟩ = some (.int .i64 d.bu) := fun wx hf => hf.cell (hE'.cell 5 rfl) (by simp)
  refine wp_region_keepsF [] [4, 5] [Is (c.val), Is (c.val), Is (d.val), Is (d.val), IsCfg w3.heap.size, IsCfg w3.heap.size] 6 (by kernel_rfl) (by kernel_rfl) (by kernel_rfl) (by kernel_rfl) (by kernel_rfl) (by kernel_rfl) ?hV ?hO ?hS ?hD
  case hV =>
    repeat (first | exact trivial | exact Is.keeps _ | exact Any.keeps | exact IsSl.keeps _ _ _ | exact IsCfg.keeps _ | refine And.intro ?_ ?_)
  case hO =>
    intro i hi w v hv
    have hv' : IsCfg w3.heap.size w v := by
      simp only [List.mem_cons, List.not_mem_nil, or_false] at hi
      rcases hi with rfl | rfl <;> exact hv
    obtain ⟨b, -, rfl, hb⟩ := hv'
    intro b' e
    cases e
    exact hb.lt
  case hS =>
    clear hC hE' F3
    (repeat' (first | exact trivial | refine And.intro ?_ ?_))
    · intro ac wx hf hs hp K hK
      simp only [waits, holdsA, nth, Is, Any, List.filter_cons, List.filter_nil, List.map_cons, List.map_nil, Region.binds, if_true, true_and, and_true, Nat.reduceAdd, List.getElem?_cons_zero, List.getElem?_cons_succ, Option.bind_some, Array.getD_eq_getD_getElem?] at hp
      have hs7 := hs 7 (by kernel_rfl)
      simp only [Array.getD_eq_getD_getElem?, List.getElem?_toArray, List.getElem?_cons_succ, List.getElem?_cons_zero, Option.getD_some] at hs7
      clear hs
      have m0 := kc0 wx hf
      have m1 := kc1 wx hf
      have m2 := kc2 wx hf
      have m3 := kc3 wx hf
      have m4 := kc4 wx hf
      have m5 := kc5 wx hf
      clear hf kc0 kc1 kc2 kc3 kc4 kc5 kd0 kd1 kd2 kd3 kd4 kd5
      (try simp only [hp])
      go_simp
      try dsimp only
      refine hK.out _ _ ?_ ?_ ?_
      · ((repeat (first | (with_reducible exact Fr.refl _ _) | (with_reducible assumption) | (with_reducible refine Fr.drew ?_) | (with_reducible refine Fr.drewN ?_ _) | (with_reducible refine Fr.alloc ?_ _) | (with_reducible refine Fr.setL ?_ _ _ _ ?_) | (focus (refine Or.inl ?_; simp; done)) | (focus (refine Or.inr ?_; simp; done)) | (focus (refine Or.inr ?_; simp; omega)) | (focus (refine Or.inr ?_; omega)))); done)
      · simp only [nth]
        first | (unfold Is; rfl) | (unfold Any; exact trivial) | exact IsSl.new _ _ _ _ | assumption
      · first | exact fun h => absurd h (by decide) | exact fun _ b hb => by cases hb; exact Nat.le_refl _
    · intro ac wx hf hs hp K hK
      simp only [waits, holdsA, nth, Is, Any, List.filter_cons, List.filter_nil, List.map_cons, List.map_nil, Region.binds, if_true, true_and, and_true, Nat.reduceAdd, List.getElem?_cons_zero, List.getElem?_cons_succ, Option.bind_some, Array.getD_eq_getD_getElem?] at hp
      clear hs
      (try simp only [hp])
      go_simp
      go_at_call 16
      refine (law19_Config c _).mono ?_
      rintro e w' ⟨rfl, fz⟩
      exact hK.out _ _ fz rfl (fun h => absurd h (by decide))
    · intro ac wx hf hs hp K hK
      simp only [waits, holdsA, nth, Is, Any, List.filter_cons, List.filter_nil, List.map_cons, List.map_nil, Region.binds, if_true, true_and, and_true, Nat.reduceAdd, List.getElem?_cons_zero, List.getElem?_cons_succ, Option.bind_some, Array.getD_eq_getD_getElem?] at hp
      have hs8 := hs 8 (by kernel_rfl)
      simp only [Array.getD_eq_getD_getElem?, List.getElem?_toArray, List.getElem?_cons_succ, List.getElem?_cons_zero, Option.getD_some] at hs8
      clear hs
      have m0 := kd0 wx hf
      have m1 := kd1 wx hf
      have m2 := kd2 wx hf
      have m3 := kd3 wx hf
      have m4 := kd4 wx hf
      have m5 := kd5 wx hf
      clear hf kc0 kc1 kc2 kc3 kc4 kc5 kd0 kd1 kd2 kd3 kd4 kd5
      (try simp only [hp])
      go_simp
      try dsimp only
      refine hK.out _ _ ?_ ?_ ?_
      · ((repeat (first | (with_reducible exact Fr.refl _ _) | (with_reducible assumption) | (with_reducible refine Fr.drew ?_) | (with_reducible refine Fr.drewN ?_ _) | (with_reducible refine Fr.alloc ?_ _) | (with_reducible refine Fr.setL ?_ _ _ _ ?_) | (focus (refine Or.inl ?_; simp; done)) | (focus (refine Or.inr ?_; simp; done)) | (focus (refine Or.inr ?_; simp; omega)) | (focus (refine Or.inr ?_; omega)))); done)
      · simp only [nth]
        first | (unfold Is; rfl) | (unfold Any; exact trivial) | exact IsSl.new _ _ _ _ | assumption
      · first | exact fun h => absurd h (by decide) | exact fun _ b hb => by cases hb; exact Nat.le_refl _
    · intro ac wx hf hs hp K hK
      simp only [waits, holdsA, nth, Is, Any, List.filter_cons, List.filter_nil, List.map_cons, List.map_nil, Region.binds, if_true, true_and, and_true, Nat.reduceAdd, List.getElem?_cons_zero, List.getElem?_cons_succ, Option.bind_some, Array.getD_eq_getD_getElem?] at hp
      clear hs
      (try simp only [hp])
      go_simp
      go_at_call 16
      refine (law19_Config d _).mono ?_
      rintro e w' ⟨rfl, fz⟩
      exact hK.out _ _ fz rfl (fun h => absurd h (by decide))
    · intro ac wx hf hs hp K hK
      simp only [waits, holdsA, nth, Is, Any, List.filter_cons, List.filter_nil, List.map_cons, List.map_nil, Region.binds, if_true, true_and, and_true, Nat.reduceAdd, List.getElem?_cons_zero, List.getElem?_cons_succ, Option.bind_some, Array.getD_eq_getD_getElem?] at hp
      clear hs
      clear kc0 kc1 kc2 kc3 kc4 kc5 kd0 kd1 kd2 kd3 kd4 kd5
      have hfs := hf.size
      clear hf
      go_simp
      exact hK.out _ _ ((Fr.refl _ _).alloc _) ⟨_, hfs, rfl, Blk.new _ _ _⟩ (fun _ b hb => by cases hb; exact Nat.le_refl _)
    · intro ac wx hf hs hp K hK
      simp only [waits, holdsA, nth, Is, Any, List.filter_cons, List.filter_nil, List.map_cons, List.map_nil, Region.binds, if_true, true_and, and_true, Nat.reduceAdd, List.getElem?_cons_zero, List.getElem?_cons_succ, Option.bind_some, Array.getD_eq_getD_getElem?] at hp
      clear hs
      clear kc0 kc1 kc2 kc3 kc4 kc5 kd0 kd1 kd2 kd3 kd4 kd5
      have hfs := hf.size
      clear hf
      go_simp
      exact hK.out _ _ ((Fr.refl _ _).alloc _) ⟨_, hfs, rfl, Blk.new _ _ _⟩ (fun _ b hb => by cases hb; exact Nat.le_refl _)
  case hD =>
    intro x wx hf hp hap
    simp only [List.take_succ_cons, List.take_zero, List.drop_succ_cons, List.drop_zero, fill, List.setIfInBounds_toArray, List.set_cons_zero, List.set_cons_succ, Nat.reduceAdd, Act.put]
    simp only [List.range_eq_range', List.range'_succ, List.range'_zero, Nat.zero_add, Nat.add_zero, Nat.reduceAdd, holds, nth, Is, Any, true_and, and_true] at hp
    obtain ⟨x0, x1, x2, x3, ⟨b4, hn4, x4, hb4⟩, ⟨b5, hn5, x5, hb5⟩⟩ := hp
    have hne : b4 ≠ b5 := hap 4 5 (by decide) (by decide) (by decide) (by decide) (by decide) b4 b5 x4 x5
    have hne2 : b5 ≠ b4 := fun e => hne e.symm
    simp only [x0, x1, x2, x3, x4, x5]
    clear x0 x1 x2 x3 x4 x5 hap kc0 kc1 kc2 kc3 kc4 kc5 kd0 kd1 kd2 kd3 kd4 kd5
    have g40 : wx.cell? ⟨b4, 0, none⟩ = some (.int .i64 0) := hb4.cell 0 rfl
    have z40 := hb4.free 0
    have g41 : wx.cell? ⟨b4, 1, none⟩ = some (.int .i64 0) := hb4.cell 1 rfl
    have z41 := hb4.free 1
    have g42 : wx.cell? ⟨b4, 2, none⟩ = some (.int .i64 0) := hb4.cell 2 rfl
    have z42 := hb4.free 2
    have g43 : wx.cell? ⟨b4, 3, none⟩ = some (.int .i64 0) := hb4.cell 3 rfl
    have z43 := hb4.free 3
    have g44 : wx.cell? ⟨b4, 4, none⟩ = some (.int .i64 0) := hb4.cell 4 rfl
    have z44 := hb4.free 4
    have g45 : wx.cell? ⟨b4, 5, none⟩ = some (.int .i64 0) := hb4.cell 5 rfl
    have z45 := hb4.free 5
    have g50 : wx.cell? ⟨b5, 0, none⟩ = some (.int .i64 0) := hb5.cell 0 rfl
    have z50 := hb5.free 0
    have g51 : wx.cell? ⟨b5, 1, none⟩ = some (.int .i64 0) := hb5.cell 1 rfl
    have z51 := hb5.free 1
    have g52 : wx.cell? ⟨b5, 2, none⟩ = some (.int .i64 0) := hb5.cell 2 rfl
    have z52 := hb5.free 2
    have g53 : wx.cell? ⟨b5, 3, none⟩ = some (.int .i64 0) := hb5.cell 3 rfl
    have z53 := hb5.free 3
    have g54 : wx.cell? ⟨b5, 4, none⟩ = some (.int .i64 0) := hb5.cell 4 rfl
    have z54 := hb5.free 4
    have g55 : wx.cell? ⟨b5, 5, none⟩ = some (.int .i64 0) := hb5.cell 5 rfl
    have z55 := hb5.free 5
    go_wp2
    have hB4 := (hb4.cfg c).cfgfar hne d
    have hB5 := (hb5.cfgfar hne2 c).cfg d
    have hsz := hf.size
    have F5 : Fr [] w ((((((((((((wx.setCell ⟨b4, 0, none⟩ (.int .i64 c.wd)).setCell ⟨b4, 1, none⟩ (.int .i64 c.tr)).setCell ⟨b4, 2, none⟩ (.int .i64 c.ak)).setCell ⟨b4, 3, none⟩ (.int .i64 c.po)).setCell ⟨b4, 4, none⟩ (.int .i64 c.re)).setCell ⟨b4, 5, none⟩ (.int .i64 c.bu)).setCell ⟨b5, 0, none⟩ (.int .i64 d.wd)).setCell ⟨b5, 1, none⟩ (.int .i64 d.tr)).setCell ⟨b5, 2, none⟩ (.int .i64 d.ak)).setCell ⟨b5, 3, none⟩ (.int .i64 d.po)).setCell ⟨b5, 4, none⟩ (.int .i64 d.re)).setCell ⟨b5, 5, none⟩ (.int .i64 d.bu)) := ((F3.tr hf).cfg (.inr (by have := F3.size; omega)) c).cfg (.inr (by have := F3.size; omega)) d
    generalize ((((((((((((wx.setCell ⟨b4, 0, none⟩ (.int .i64 c.wd)).setCell ⟨b4, 1, none⟩ (.int .i64 c.tr)).setCell ⟨b4, 2, none⟩ (.int .i64 c.ak)).setCell ⟨b4, 3, none⟩ (.int .i64 c.po)).setCell ⟨b4, 4, none⟩ (.int .i64 c.re)).setCell ⟨b4, 5, none⟩ (.int .i64 c.bu)).setCell ⟨b5, 0, none⟩ (.int .i64 d.wd)).setCell ⟨b5, 1, none⟩ (.int .i64 d.tr)).setCell ⟨b5, 2, none⟩ (.int .i64 d.ak)).setCell ⟨b5, 3, none⟩ (.int .i64 d.po)).setCell ⟨b5, 4, none⟩ (.int .i64 d.re)).setCell ⟨b5, 5, none⟩ (.int .i64 d.bu)) = w5 at *
    obtain ⟨u1, u2, u3, u4, u5, u6⟩ := grows_facts hok dok dtr dsum (i % 64) (by omega) (by omega)
    have u7 : (sendsV c 129 == 0) = true := by rw [u6]; rfl
    have u8 : IntKind.i64.wrap (i % 64 + 1) = i % 64 + 1 := IntWalk.i64_in _ (by omega)
    clear g40 z40
    clear g50 z50
    clear g41 z41
    clear g51 z51
    clear g42 z42
    clear g52 z52
    clear g43 z43
    clear g53 z53
    clear g44 z44
    clear g54 z54
    clear g45 z45
    clear g55 z55
    clear hb4 hb5 hne hne2 hC hE' HC dok dtr dsum hok hb u6
    have kc0 : ∀ wx, Fr [] w5 wx → wx.cell? ⟨b4, 0, none⟩ = some (.int .i64 c.wd) := fun wx hf => hf.cell (hB4.cell 0 rfl) (by simp)
    have kd0 : ∀ wx, Fr [] w5 wx → wx.cell? ⟨b5, 0, none⟩ = some (.int .i64 d.wd) := fun wx hf => hf.cell (hB5.cell 0 rfl) (by simp)
    have kc1 : ∀ wx, Fr [] w5 wx → wx.cell? ⟨b4, 1, none⟩ = some (.int .i64 c.tr) := fun wx hf => hf.cell (hB4.cell 1 rfl) (by simp)
    have kd1 : ∀ wx, Fr [] w5 wx → wx.cell? ⟨b5, 1, none⟩ = some (.int .i64 d.tr) := fun wx hf => hf.cell (hB5.cell 1 rfl) (by simp)
    have kc2 : ∀ wx, Fr [] w5 wx → wx.cell? ⟨b4, 2, none⟩ = some (.int .i64 c.ak) := fun wx hf => hf.cell (hB4.cell 2 rfl) (by simp)
    have kd2 : ∀ wx, Fr [] w5 wx → wx.cell? ⟨b5, 2, none⟩ = some (.int .i64 d.ak) := fun wx hf => hf.cell (hB5.cell 2 rfl) (by simp)
    have kc3 : ∀ wx, Fr [] w5 wx → wx.cell? ⟨b4, 3, none⟩ = some (.int .i64 c.po) := fun wx hf => hf.cell (hB4.cell 3 rfl) (by simp)
    have kd3 : ∀ wx, Fr [] w5 wx → wx.cell? ⟨b5, 3, none⟩ = some (.int .i64 d.po) := fun wx hf => hf.cell (hB5.cell 3 rfl) (by simp)
    have kc4 : ∀ wx, Fr [] w5 wx → wx.cell? ⟨b4, 4, none⟩ = some (.int .i64 c.re) := fun wx hf => hf.cell (hB4.cell 4 rfl) (by simp)
    have kd4 : ∀ wx, Fr [] w5 wx → wx.cell? ⟨b5, 4, none⟩ = some (.int .i64 d.re) := fun wx hf => hf.cell (hB5.cell 4 rfl) (by simp)
    have kc5 : ∀ wx, Fr [] w5 wx → wx.cell? ⟨b4, 5, none⟩ = some (.int .i64 c.bu) := fun wx hf => hf.cell (hB4.cell 5 rfl) (by simp)
    have kd5 : ∀ wx, Fr [] w5 wx → wx.cell? ⟨b5, 5, none⟩ = some (.int .i64 d.bu) := fun wx hf => hf.cell (hB5.cell 5 rfl) (by simp)
    refine wp_region_keeps [] [Is (c.val), Is (.int .i64 (givesV c)), Is (.bool true), Is (.bool true), Is (c.val), Is (.int .i64 (givesV c)), Is (d.val), Is (.int .i64 (givesV d)), Is (.bool true), Is (.bool true), Is (.bool true), Is (c.val), Is (.int .i64 (i % 64)), Is (.int .i64 (sendsV c (i % 64))), Is (.bool true), Is (.bool true), Is (.bool true), Is (c.val), Is (.int .i64 (i % 64)), Is (.int .i64 (sendsV c (i % 64))), Is (d.val), Is (.int .i64 (i % 64)), Is (.int .i64 (sendsV d (i % 64))), Is (.bool true), Is (.bool true), Is (.bool true), Is (c.val), Is (.int .i64 (i % 64)), Is (.int .i64 (sendsV c (i % 64))), Is (c.val), Is (.int .i64 (i % 64)), Is (.int .i64 (i % 64 + 1)), Is (.int .i64 (sendsV c (i % 64 + 1))), Is (.bool true), Is (.bool true), Is (.bool true), Is (c.val), Is (.int .i64 (sendsV c 129)), Is (.bool true), Is (.bool true), Is (.bool true)] (by kernel_rfl) (by kernel_rfl) (by kernel_rfl) (by kernel_rfl) ?hV ?hS ?hD
    case hV =>
      repeat (first | exact trivial | exact Is.keeps _ | exact Any.keeps | exact IsSl.keeps _ _ _ | refine And.intro ?_ ?_)
    case hS =>
      clear hB4 hB5 F5
      (repeat' (first | exact trivial | refine And.intro ?_ ?_))
      · intro ac wx hf hs hp K hK
        simp only [waits, holdsA, nth, Is, Any, List.filter_cons, List.filter_nil, List.map_cons, List.map_nil, Region.binds, if_true, true_and, and_true, Nat.reduceAdd, List.getElem?_cons_zero, List.getElem?_cons_succ, Option.bind_some, Array.getD_eq_getD_getElem?] at hp
        have hs9 := hs 9 (by kernel_rfl)
        simp only [Array.getD_eq_getD_getElem?, List.getElem?_toArray, List.getElem?_cons_succ, List.getElem?_cons_zero, Option.getD_some] at hs9
        clear hs
        have m0 := kc0 wx hf
        have m1 := kc1 wx hf
        have m2 := kc2 wx hf
        have m3 := kc3 wx hf
        have m4 := kc4 wx hf
        have m5 := kc5 wx hf
        clear hf kc0 kc1 kc2 kc3 kc4 kc5 kd0 kd1 kd2 kd3 kd4 kd5
        (try simp only [hp])
        go_simp
        try dsimp only
        refine hK.out _ _ ?_ ?_
        · ((repeat (first | (with_reducible exact Fr.refl _ _) | (with_reducible assumption) | (with_reducible refine Fr.drew ?_) | (with_reducible refine Fr.drewN ?_ _) | (with_reducible refine Fr.alloc ?_ _) | (with_reducible refine Fr.setL ?_ _ _ _ ?_) | (focus (refine Or.inl ?_; simp; done)) | (focus (refine Or.inr ?_; simp; done)) | (focus (refine Or.inr ?_; simp; omega)) | (focus (refine Or.inr ?_; omega)))); done)
        · simp only [nth]
          first | (unfold Is; rfl) | (unfold Any; exact trivial) | exact IsSl.new _ _ _ _ | assumption
      · intro ac wx hf hs hp K hK
        simp only [waits, holdsA, nth, Is, Any, List.filter_cons, List.filter_nil, List.map_cons, List.map_nil, Region.binds, if_true, true_and, and_true, Nat.reduceAdd, List.getElem?_cons_zero, List.getElem?_cons_succ, Option.bind_some, Array.getD_eq_getD_getElem?] at hp
        clear hs
        (try simp only [hp])
        go_simp
        go_at_call 14
        refine (bGives c _).mono ?_
        rintro e w' ⟨rfl, fz⟩
        exact hK.out _ _ fz rfl
      · intro ac wx hf hs hp K hK
        simp only [waits, holdsA, nth, Is, Any, List.filter_cons, List.filter_nil, List.map_cons, List.map_nil, Region.binds, if_true, true_and, and_true, Nat.reduceAdd, List.getElem?_cons_zero, List.getElem?_cons_succ, Option.bind_some, Array.getD_eq_getD_getElem?] at hp
        clear hs
        clear hf
        (try simp only [hp])
        go_simp
        try dsimp only
        refine hK.out _ _ ?_ ?_
        · ((repeat (first | (with_reducible exact Fr.refl _ _) | (with_reducible assumption) | (with_reducible refine Fr.drew ?_) | (with_reducible refine Fr.drewN ?_ _) | (with_reducible refine Fr.alloc ?_ _) | (with_reducible refine Fr.setL ?_ _ _ _ ?_) | (focus (refine Or.inl ?_; simp; done)) | (focus (refine Or.inr ?_; simp; done)) | (focus (refine Or.inr ?_; simp; omega)) | (focus (refine Or.inr ?_; omega)))); done)
        · simp only [nth]
          first | (unfold Is; rfl) | (unfold Any; exact trivial) | exact IsSl.new _ _ _ _ | assumption
      · intro ac wx hf hs hp K hK
        simp only [waits, holdsA, nth, Is, Any, List.filter_cons, List.filter_nil, List.map_cons, List.map_nil, Region.binds, if_true, true_and, and_true, Nat.reduceAdd, List.getElem?_cons_zero, List.getElem?_cons_succ, Option.bind_some, Array.getD_eq_getD_getElem?] at hp
        clear hs
        clear hf
        (try simp only [hp])
        go_simp
        try dsimp only
        refine hK.out _ _ ?_ ?_
        · ((repeat (first | (with_reducible exact Fr.refl _ _) | (with_reducible assumption) | (with_reducible refine Fr.drew ?_) | (with_reducible refine Fr.drewN ?_ _) | (with_reducible refine Fr.alloc ?_ _) | (with_reducible refine Fr.setL ?_ _ _ _ ?_) | (focus (refine Or.inl ?_; simp; done)) | (focus (refine Or.inr ?_; simp; done)) | (focus (refine Or.inr ?_; simp; omega)) | (focus (refine Or.inr ?_; omega)))); done)
        · simp only [nth]
          first | (unfold Is; rfl) | (unfold Any; exact trivial) | exact IsSl.new _ _ _ _ | assumption
      · intro ac wx hf hs hp K hK
        simp only [waits, holdsA, nth, Is, Any, List.filter_cons, List.filter_nil, List.map_cons, List.map_nil, Region.binds, if_true, true_and, and_true, Nat.reduceAdd, List.getElem?_cons_zero, List.getElem?_cons_succ, Option.bind_some, Array.getD_eq_getD_getElem?] at hp
        have hs9 := hs 9 (by kernel_rfl)
        simp only [Array.getD_eq_getD_getElem?, List.getElem?_toArray, List.getElem?_cons_succ, List.getElem?_cons_zero, Option.getD_some] at hs9
        clear hs
        simp only [getD_bool] at hp
        have m0 := kc0 wx hf
        have m1 := kc1 wx hf
        have m2 := kc2 wx hf
        have m3 := kc3 wx hf
        have m4 := kc4 wx hf
        have m5 := kc5 wx hf
        clear hf kc0 kc1 kc2 kc3 kc4 kc5 kd0 kd1 kd2 kd3 kd4 kd5
        (try simp only [hp])
        go_simp
        try dsimp only
        refine hK.out _ _ ?_ ?_
        · ((repeat (first | (with_reducible exact Fr.refl _ _) | (with_reducible assumption) | (with_reducible refine Fr.drew ?_) | (with_reducible refine Fr.drewN ?_ _) | (with_reducible refine Fr.alloc ?_ _) | (with_reducible refine Fr.setL ?_ _ _ _ ?_) | (focus (refine Or.inl ?_; simp; done)) | (focus (refine Or.inr ?_; simp; done)) | (focus (refine Or.inr ?_; simp; omega)) | (focus (refine Or.inr ?_; omega)))); done)
        · simp only [nth]
          first | (unfold Is; rfl) | (unfold Any; exact trivial) | exact IsSl.new _ _ _ _ | assumption
      · intro ac wx hf hs hp K hK
        simp only [waits, holdsA, nth, Is, Any, List.filter_cons, List.filter_nil, List.map_cons, List.map_nil, Region.binds, if_true, true_and, and_true, Nat.reduceAdd, List.getElem?_cons_zero, List.getElem?_cons_succ, Option.bind_some, Array.getD_eq_getD_getElem?] at hp
        clear hs
        simp only [getD_bool] at hp
        (try simp only [hp])
        go_simp
        go_at_call 14
        refine (bGives c _).mono ?_
        rintro e w' ⟨rfl, fz⟩
        exact hK.out _ _ fz rfl
      · intro ac wx hf hs hp K hK
        simp only [waits, holdsA, nth, Is, Any, List.filter_cons, List.filter_nil, List.map_cons, List.map_nil, Region.binds, if_true, true_and, and_true, Nat.reduceAdd, List.getElem?_cons_zero, List.getElem?_cons_succ, Option.bind_some, Array.getD_eq_getD_getElem?] at hp
        have hs10 := hs 10 (by kernel_rfl)
        simp only [Array.getD_eq_getD_getElem?, List.getElem?_toArray, List.getElem?_cons_succ, List.getElem?_cons_zero, Option.getD_some] at hs10
        clear hs
        simp only [getD_bool] at hp
        have m0 := kd0 wx hf
        have m1 := kd1 wx hf
        have m2 := kd2 wx hf
        have m3 := kd3 wx hf
        have m4 := kd4 wx hf
        have m5 := kd5 wx hf
        clear hf kc0 kc1 kc2 kc3 kc4 kc5 kd0 kd1 kd2 kd3 kd4 kd5
        (try simp only [hp])
        go_simp
        try dsimp only
        refine hK.out _ _ ?_ ?_
        · ((repeat (first | (with_reducible exact Fr.refl _ _) | (with_reducible assumption) | (with_reducible refine Fr.drew ?_) | (with_reducible refine Fr.drewN ?_ _) | (with_reducible refine Fr.alloc ?_ _) | (with_reducible refine Fr.setL ?_ _ _ _ ?_) | (focus (refine Or.inl ?_; simp; done)) | (focus (refine Or.inr ?_; simp; done)) | (focus (refine Or.inr ?_; simp; omega)) | (focus (refine Or.inr ?_; omega)))); done)
        · simp only [nth]
          first | (unfold Is; rfl) | (unfold Any; exact trivial) | exact IsSl.new _ _ _ _ | assumption
      · intro ac wx hf hs hp K hK
        simp only [waits, holdsA, nth, Is, Any, List.filter_cons, List.filter_nil, List.map_cons, List.map_nil, Region.binds, if_true, true_and, and_true, Nat.reduceAdd, List.getElem?_cons_zero, List.getElem?_cons_succ, Option.bind_some, Array.getD_eq_getD_getElem?] at hp
        clear hs
        simp only [getD_bool] at hp
        (try simp only [hp])
        go_simp
        go_at_call 14
        refine (bGives d _).mono ?_
        rintro e w' ⟨rfl, fz⟩
        exact hK.out _ _ fz rfl
      · intro ac wx hf hs hp K hK
        simp only [waits, holdsA, nth, Is, Any, List.filter_cons, List.filter_nil, List.map_cons, List.map_nil, Region.binds, if_true, true_and, and_true, Nat.reduceAdd, List.getElem?_cons_zero, List.getElem?_cons_succ, Option.bind_some, Array.getD_eq_getD_getElem?] at hp
        clear hs
        simp only [getD_bool] at hp
        clear hf
        (try simp only [hp])
        go_simp
        try dsimp only
        refine hK.out _ _ ?_ ?_
        · ((repeat (first | (with_reducible exact Fr.refl _ _) | (with_reducible assumption) | (with_reducible refine Fr.drew ?_) | (with_reducible refine Fr.drewN ?_ _) | (with_reducible refine Fr.alloc ?_ _) | (with_reducible refine Fr.setL ?_ _ _ _ ?_) | (focus (refine Or.inl ?_; simp; done)) | (focus (refine Or.inr ?_; simp; done)) | (focus (refine Or.inr ?_; simp; omega)) | (focus (refine Or.inr ?_; omega)))); done)
        · simp only [nth]
          first | (unfold Is; rfl) | (unfold Any; exact trivial) | exact IsSl.new _ _ _ _ | assumption
      · intro ac wx hf hs hp K hK
        simp only [waits, holdsA, nth, Is, Any, List.filter_cons, List.filter_nil, List.map_cons, List.map_nil, Region.binds, if_true, true_and, and_true, Nat.reduceAdd, List.getElem?_cons_zero, List.getElem?_cons_succ, Option.bind_some, Array.getD_eq_getD_getElem?] at hp
        clear hs
        clear hf
        (try simp only [hp])
        go_simp
        try dsimp only
        refine hK.out _ _ ?_ ?_
        · ((repeat (first | (with_reducible exact Fr.refl _ _) | (with_reducible assumption) | (with_reducible refine Fr.drew ?_) | (with_reducible refine Fr.drewN ?_ _) | (with_reducible refine Fr.alloc ?_ _) | (with_reducible refine Fr.setL ?_ _ _ _ ?_) | (focus (refine Or.inl ?_; simp; done)) | (focus (refine Or.inr ?_; simp; done)) | (focus (refine Or.inr ?_; simp; omega)) | (focus (refine Or.inr ?_; omega)))); done)
        · simp only [nth]
          first | (unfold Is; rfl) | (unfold Any; exact trivial) | exact IsSl.new _ _ _ _ | assumption
      · intro ac wx hf hs hp K hK
        simp only [waits, holdsA, nth, Is, Any, List.filter_cons, List.filter_nil, List.map_cons, List.map_nil, Region.binds, if_true, true_and, and_true, Nat.reduceAdd, List.getElem?_cons_zero, List.getElem?_cons_succ, Option.bind_some, Array.getD_eq_getD_getElem?] at hp
        clear hs
        clear hf
        (try simp only [hp])
        go_simp
        try dsimp only
        refine hK.out _ _ ?_ ?_
        · ((repeat (first | (with_reducible exact Fr.refl _ _) | (with_reducible assumption) | (with_reducible refine Fr.drew ?_) | (with_reducible refine Fr.drewN ?_ _) | (with_reducible refine Fr.alloc ?_ _) | (with_reducible refine Fr.setL ?_ _ _ _ ?_) | (focus (refine Or.inl ?_; simp; done)) | (focus (refine Or.inr ?_; simp; done)) | (focus (refine Or.inr ?_; simp; omega)) | (focus (refine Or.inr ?_; omega)))); done)
        · simp only [nth]
          first | (unfold Is; rfl) | (unfold Any; exact trivial) | exact IsSl.new _ _ _ _ | assumption
      · intro ac wx hf hs hp K hK
        simp only [waits, holdsA, nth, Is, Any, List.filter_cons, List.filter_nil, List.map_cons, List.map_nil, Region.binds, if_true, true_and, and_true, Nat.reduceAdd, List.getElem?_cons_zero, List.getElem?_cons_succ, Option.bind_some, Array.getD_eq_getD_getElem?] at hp
        have hs9 := hs 9 (by kernel_rfl)
        simp only [Array.getD_eq_getD_getElem?, List.getElem?_toArray, List.getElem?_cons_succ, List.getElem?_cons_zero, Option.getD_some] at hs9
        clear hs
        simp only [getD_bool] at hp
        have m0 := kc0 wx hf
        have m1 := kc1 wx hf
        have m2 := kc2 wx hf
        have m3 := kc3 wx hf
        have m4 := kc4 wx hf
        have m5 := kc5 wx hf
        clear hf kc0 kc1 kc2 kc3 kc4 kc5 kd0 kd1 kd2 kd3 kd4 kd5
        (try simp only [hp])
        go_simp
        try dsimp only
        refine hK.out _ _ ?_ ?_
        · ((repeat (first | (with_reducible exact Fr.refl _ _) | (with_reducible assumption) | (with_reducible refine Fr.drew ?_) | (with_reducible refine Fr.drewN ?_ _) | (with_reducible refine Fr.alloc ?_ _) | (with_reducible refine Fr.setL ?_ _ _ _ ?_) | (focus (refine Or.inl ?_; simp; done)) | (focus (refine Or.inr ?_; simp; done)) | (focus (refine Or.inr ?_; simp; omega)) | (focus (refine Or.inr ?_; omega)))); done)
        · simp only [nth]
          first | (unfold Is; rfl) | (unfold Any; exact trivial) | exact IsSl.new _ _ _ _ | assumption
      · intro ac wx hf hs hp K hK
        simp only [waits, holdsA, nth, Is, Any, List.filter_cons, List.filter_nil, List.map_cons, List.map_nil, Region.binds, if_true, true_and, and_true, Nat.reduceAdd, List.getElem?_cons_zero, List.getElem?_cons_succ, Option.bind_some, Array.getD_eq_getD_getElem?] at hp
        have hs11 := hs 11 (by kernel_rfl)
        simp only [Array.getD_eq_getD_getElem?, List.getElem?_toArray, List.getElem?_cons_succ, List.getElem?_cons_zero, Option.getD_some] at hs11
        clear hs
        simp only [getD_bool] at hp
        clear hf
        (try simp only [hp])
        go_simp
        try dsimp only
        refine hK.out _ _ ?_ ?_
        · ((repeat (first | (with_reducible exact Fr.refl _ _) | (with_reducible assumption) | (with_reducible refine Fr.drew ?_) | (with_reducible refine Fr.drewN ?_ _) | (with_reducible refine Fr.alloc ?_ _) | (with_reducible refine Fr.setL ?_ _ _ _ ?_) | (focus (refine Or.inl ?_; simp; done)) | (focus (refine Or.inr ?_; simp; done)) | (focus (refine Or.inr ?_; simp; omega)) | (focus (refine Or.inr ?_; omega)))); done)
        · simp only [nth]
          first | (unfold Is; rfl) | (unfold Any; exact trivial) | exact IsSl.new _ _ _ _ | assumption
      · intro ac wx hf hs hp K hK
        simp only [waits, holdsA, nth, Is, Any, List.filter_cons, List.filter_nil, List.map_cons, List.map_nil, Region.binds, if_true, true_and, and_true, Nat.reduceAdd, List.getElem?_cons_zero, List.getElem?_cons_succ, Option.bind_some, Array.getD_eq_getD_getElem?] at hp
        clear hs
        simp only [getD_bool] at hp
        (try simp only [hp])
        go_simp
        go_at_call 15
        refine (bSends c (i % 64) _).mono ?_
        rintro e w' ⟨rfl, fz⟩
        exact hK.out _ _ fz rfl
      · intro ac wx hf hs hp K hK
        simp only [waits, holdsA, nth, Is, Any, List.filter_cons, List.filter_nil, List.map_cons, List.map_nil, Region.binds, if_true, true_and, and_true, Nat.reduceAdd, List.getElem?_cons_zero, List.getElem?_cons_succ, Option.bind_some, Array.getD_eq_getD_getElem?] at hp
        clear hs
        simp only [getD_bool] at hp
        clear hf
        (try simp only [hp])
        go_simp
        try dsimp only
        refine hK.out _ _ ?_ ?_
        · ((repeat (first | (with_reducible exact Fr.refl _ _) | (with_reducible assumption) | (with_reducible refine Fr.drew ?_) | (with_reducible refine Fr.drewN ?_ _) | (with_reducible refine Fr.alloc ?_ _) | (with_reducible refine Fr.setL ?_ _ _ _ ?_) | (focus (refine Or.inl ?_; simp; done)) | (focus (refine Or.inr ?_; simp; done)) | (focus (refine Or.inr ?_; simp; omega)) | (focus (refine Or.inr ?_; omega)))); done)
        · simp only [nth]
          first | (unfold Is; rfl) | (unfold Any; exact trivial) | exact IsSl.new _ _ _ _ | assumption
      · intro ac wx hf hs hp K hK
        simp only [waits, holdsA, nth, Is, Any, List.filter_cons, List.filter_nil, List.map_cons, List.map_nil, Region.binds, if_true, true_and, and_true, Nat.reduceAdd, List.getElem?_cons_zero, List.getElem?_cons_succ, Option.bind_some, Array.getD_eq_getD_getElem?] at hp
        clear hs
        clear hf
        (try simp only [hp])
        go_simp
        try dsimp only
        refine hK.out _ _ ?_ ?_
        · ((repeat (first | (with_reducible exact Fr.refl _ _) | (with_reducible assumption) | (with_reducible refine Fr.drew ?_) | (with_reducible refine Fr.drewN ?_ _) | (with_reducible refine Fr.alloc ?_ _) | (with_reducible refine Fr.setL ?_ _ _ _ ?_) | (focus (refine Or.inl ?_; simp; done)) | (focus (refine Or.inr ?_; simp; done)) | (focus (refine Or.inr ?_; simp; omega)) | (focus (refine Or.inr ?_; omega)))); done)
        · simp only [nth]
          first | (unfold Is; rfl) | (unfold Any; exact trivial) | exact IsSl.new _ _ _ _ | assumption
      · intro ac wx hf hs hp K hK
        simp only [waits, holdsA, nth, Is, Any, List.filter_cons, List.filter_nil, List.map_cons, List.map_nil, Region.binds, if_true, true_and, and_true, Nat.reduceAdd, List.getElem?_cons_zero, List.getElem?_cons_succ, Option.bind_some, Array.getD_eq_getD_getElem?] at hp
        clear hs
        clear hf
        (try simp only [hp])
        go_simp
        try dsimp only
        refine hK.out _ _ ?_ ?_
        · ((repeat (first | (with_reducible exact Fr.refl _ _) | (with_reducible assumption) | (with_reducible refine Fr.drew ?_) | (with_reducible refine Fr.drewN ?_ _) | (with_reducible refine Fr.alloc ?_ _) | (with_reducible refine Fr.setL ?_ _ _ _ ?_) | (focus (refine Or.inl ?_; simp; done)) | (focus (refine Or.inr ?_; simp; done)) | (focus (refine Or.inr ?_; simp; omega)) | (focus (refine Or.inr ?_; omega)))); done)
        · simp only [nth]
          first | (unfold Is; rfl) | (unfold Any; exact trivial) | exact IsSl.new _ _ _ _ | assumption
      · intro ac wx hf hs hp K hK
        simp only [waits, holdsA, nth, Is, Any, List.filter_cons, List.filter_nil, List.map_cons, List.map_nil, Region.binds, if_true, true_and, and_true, Nat.reduceAdd, List.getElem?_cons_zero, List.getElem?_cons_succ, Option.bind_some, Array.getD_eq_getD_getElem?] at hp
        have hs9 := hs 9 (by kernel_rfl)
        simp only [Array.getD_eq_getD_getElem?, List.getElem?_toArray, List.getElem?_cons_succ, List.getElem?_cons_zero, Option.getD_some] at hs9
        clear hs
        simp only [getD_bool] at hp
        have m0 := kc0 wx hf
        have m1 := kc1 wx hf
        have m2 := kc2 wx hf
        have m3 := kc3 wx hf
        have m4 := kc4 wx hf
        have m5 := kc5 wx hf
        clear hf kc0 kc1 kc2 kc3 kc4 kc5 kd0 kd1 kd2 kd3 kd4 kd5
        (try simp only [hp])
        go_simp
        try dsimp only
        refine hK.out _ _ ?_ ?_
        · ((repeat (first | (with_reducible exact Fr.refl _ _) | (with_reducible assumption) | (with_reducible refine Fr.drew ?_) | (with_reducible refine Fr.drewN ?_ _) | (with_reducible refine Fr.alloc ?_ _) | (with_reducible refine Fr.setL ?_ _ _ _ ?_) | (focus (refine Or.inl ?_; simp; done)) | (focus (refine Or.inr ?_; simp; done)) | (focus (refine Or.inr ?_; simp; omega)) | (focus (refine Or.inr ?_; omega)))); done)
        · simp only [nth]
          first | (unfold Is; rfl) | (unfold Any; exact trivial) | exact IsSl.new _ _ _ _ | assumption
      · intro ac wx hf hs hp K hK
        simp only [waits, holdsA, nth, Is, Any, List.filter_cons, List.filter_nil, List.map_cons, List.map_nil, Region.binds, if_true, true_and, and_true, Nat.reduceAdd, List.getElem?_cons_zero, List.getElem?_cons_succ, Option.bind_some, Array.getD_eq_getD_getElem?] at hp
        have hs11 := hs 11 (by kernel_rfl)
        simp only [Array.getD_eq_getD_getElem?, List.getElem?_toArray, List.getElem?_cons_succ, List.getElem?_cons_zero, Option.getD_some] at hs11
        clear hs
        simp only [getD_bool] at hp
        clear hf
        (try simp only [hp])
        go_simp
        try dsimp only
        refine hK.out _ _ ?_ ?_
        · ((repeat (first | (with_reducible exact Fr.refl _ _) | (with_reducible assumption) | (with_reducible refine Fr.drew ?_) | (with_reducible refine Fr.drewN ?_ _) | (with_reducible refine Fr.alloc ?_ _) | (with_reducible refine Fr.setL ?_ _ _ _ ?_) | (focus (refine Or.inl ?_; simp; done)) | (focus (refine Or.inr ?_; simp; done)) | (focus (refine Or.inr ?_; simp; omega)) | (focus (refine Or.inr ?_; omega)))); done)
        · simp only [nth]
          first | (unfold Is; rfl) | (unfold Any; exact trivial) | exact IsSl.new _ _ _ _ | assumption
      · intro ac wx hf hs hp K hK
        simp only [waits, holdsA, nth, Is, Any, List.filter_cons, List.filter_nil, List.map_cons, List.map_nil, Region.binds, if_true, true_and, and_true, Nat.reduceAdd, List.getElem?_cons_zero, List.getElem?_cons_succ, Option.bind_some, Array.getD_eq_getD_getElem?] at hp
        clear hs
        simp only [getD_bool] at hp
        (try simp only [hp])
        go_simp
        go_at_call 15
        refine (bSends c (i % 64) _).mono ?_
        rintro e w' ⟨rfl, fz⟩
        exact hK.out _ _ fz rfl
      · intro ac wx hf hs hp K hK
        simp only [waits, holdsA, nth, Is, Any, List.filter_cons, List.filter_nil, List.map_cons, List.map_nil, Region.binds, if_true, true_and, and_true, Nat.reduceAdd, List.getElem?_cons_zero, List.getElem?_cons_succ, Option.bind_some, Array.getD_eq_getD_getElem?] at hp
        have hs10 := hs 10 (by kernel_rfl)
        simp only [Array.getD_eq_getD_getElem?, List.getElem?_toArray, List.getElem?_cons_succ, List.getElem?_cons_zero, Option.getD_some] at hs10
        clear hs
        simp only [getD_bool] at hp
        have m0 := kd0 wx hf
        have m1 := kd1 wx hf
        have m2 := kd2 wx hf
        have m3 := kd3 wx hf
        have m4 := kd4 wx hf
        have m5 := kd5 wx hf
        clear hf kc0 kc1 kc2 kc3 kc4 kc5 kd0 kd1 kd2 kd3 kd4 kd5
        (try simp only [hp])
        go_simp
        try dsimp only
        refine hK.out _ _ ?_ ?_
        · ((repeat (first | (with_reducible exact Fr.refl _ _) | (with_reducible assumption) | (with_reducible refine Fr.drew ?_) | (with_reducible refine Fr.drewN ?_ _) | (with_reducible refine Fr.alloc ?_ _) | (with_reducible refine Fr.setL ?_ _ _ _ ?_) | (focus (refine Or.inl ?_; simp; done)) | (focus (refine Or.inr ?_; simp; done)) | (focus (refine Or.inr ?_; simp; omega)) | (focus (refine Or.inr ?_; omega)))); done)
        · simp only [nth]
          first | (unfold Is; rfl) | (unfold Any; exact trivial) | exact IsSl.new _ _ _ _ | assumption
      · intro ac wx hf hs hp K hK
        simp only [waits, holdsA, nth, Is, Any, List.filter_cons, List.filter_nil, List.map_cons, List.map_nil, Region.binds, if_true, true_and, and_true, Nat.reduceAdd, List.getElem?_cons_zero, List.getElem?_cons_succ, Option.bind_some, Array.getD_eq_getD_getElem?] at hp
        have hs11 := hs 11 (by kernel_rfl)
        simp only [Array.getD_eq_getD_getElem?, List.getElem?_toArray, List.getElem?_cons_succ, List.getElem?_cons_zero, Option.getD_some] at hs11
        clear hs
        simp only [getD_bool] at hp
        clear hf
        (try simp only [hp])
        go_simp
        try dsimp only
        refine hK.out _ _ ?_ ?_
        · ((repeat (first | (with_reducible exact Fr.refl _ _) | (with_reducible assumption) | (with_reducible refine Fr.drew ?_) | (with_reducible refine Fr.drewN ?_ _) | (with_reducible refine Fr.alloc ?_ _) | (with_reducible refine Fr.setL ?_ _ _ _ ?_) | (focus (refine Or.inl ?_; simp; done)) | (focus (refine Or.inr ?_; simp; done)) | (focus (refine Or.inr ?_; simp; omega)) | (focus (refine Or.inr ?_; omega)))); done)
        · simp only [nth]
          first | (unfold Is; rfl) | (unfold Any; exact trivial) | exact IsSl.new _ _ _ _ | assumption
      · intro ac wx hf hs hp K hK
        simp only [waits, holdsA, nth, Is, Any, List.filter_cons, List.filter_nil, List.map_cons, List.map_nil, Region.binds, if_true, true_and, and_true, Nat.reduceAdd, List.getElem?_cons_zero, List.getElem?_cons_succ, Option.bind_some, Array.getD_eq_getD_getElem?] at hp
        clear hs
        simp only [getD_bool] at hp
        (try simp only [hp])
        go_simp
        go_at_call 15
        refine (bSends d (i % 64) _).mono ?_
        rintro e w' ⟨rfl, fz⟩
        exact hK.out _ _ fz rfl
      · intro ac wx hf hs hp K hK
        simp only [waits, holdsA, nth, Is, Any, List.filter_cons, List.filter_nil, List.map_cons, List.map_nil, Region.binds, if_true, true_and, and_true, Nat.reduceAdd, List.getElem?_cons_zero, List.getElem?_cons_succ, Option.bind_some, Array.getD_eq_getD_getElem?] at hp
        clear hs
        simp only [getD_bool] at hp
        clear hf
        (try simp only [hp])
        go_simp
        try dsimp only
        refine hK.out _ _ ?_ ?_
        · ((repeat (first | (with_reducible exact Fr.refl _ _) | (with_reducible assumption) | (with_reducible refine Fr.drew ?_) | (with_reducible refine Fr.drewN ?_ _) | (with_reducible refine Fr.alloc ?_ _) | (with_reducible refine Fr.setL ?_ _ _ _ ?_) | (focus (refine Or.inl ?_; simp; done)) | (focus (refine Or.inr ?_; simp; done)) | (focus (refine Or.inr ?_; simp; omega)) | (focus (refine Or.inr ?_; omega)))); done)
        · simp only [nth]
          first | (unfold Is; rfl) | (unfold Any; exact trivial) | exact IsSl.new _ _ _ _ | assumption
      · intro ac wx hf hs hp K hK
        simp only [waits, holdsA, nth, Is, Any, List.filter_cons, List.filter_nil, List.map_cons, List.map_nil, Region.binds, if_true, true_and, and_true, Nat.reduceAdd, List.getElem?_cons_zero, List.getElem?_cons_succ, Option.bind_some, Array.getD_eq_getD_getElem?] at hp
        clear hs
        clear hf
        (try simp only [hp])
        go_simp
        try dsimp only
        refine hK.out _ _ ?_ ?_
        · ((repeat (first | (with_reducible exact Fr.refl _ _) | (with_reducible assumption) | (with_reducible refine Fr.drew ?_) | (with_reducible refine Fr.drewN ?_ _) | (with_reducible refine Fr.alloc ?_ _) | (with_reducible refine Fr.setL ?_ _ _ _ ?_) | (focus (refine Or.inl ?_; simp; done)) | (focus (refine Or.inr ?_; simp; done)) | (focus (refine Or.inr ?_; simp; omega)) | (focus (refine Or.inr ?_; omega)))); done)
        · simp only [nth]
          first | (unfold Is; rfl) | (unfold Any; exact trivial) | exact IsSl.new _ _ _ _ | assumption
      · intro ac wx hf hs hp K hK
        simp only [waits, holdsA, nth, Is, Any, List.filter_cons, List.filter_nil, List.map_cons, List.map_nil, Region.binds, if_true, true_and, and_true, Nat.reduceAdd, List.getElem?_cons_zero, List.getElem?_cons_succ, Option.bind_some, Array.getD_eq_getD_getElem?] at hp
        clear hs
        clear hf
        (try simp only [hp])
        go_simp
        try dsimp only
        refine hK.out _ _ ?_ ?_
        · ((repeat (first | (with_reducible exact Fr.refl _ _) | (with_reducible assumption) | (with_reducible refine Fr.drew ?_) | (with_reducible refine Fr.drewN ?_ _) | (with_reducible refine Fr.alloc ?_ _) | (with_reducible refine Fr.setL ?_ _ _ _ ?_) | (focus (refine Or.inl ?_; simp; done)) | (focus (refine Or.inr ?_; simp; done)) | (focus (refine Or.inr ?_; simp; omega)) | (focus (refine Or.inr ?_; omega)))); done)
        · simp only [nth]
          first | (unfold Is; rfl) | (unfold Any; exact trivial) | exact IsSl.new _ _ _ _ | assumption
      · intro ac wx hf hs hp K hK
        simp only [waits, holdsA, nth, Is, Any, List.filter_cons, List.filter_nil, List.map_cons, List.map_nil, Region.binds, if_true, true_and, and_true, Nat.reduceAdd, List.getElem?_cons_zero, List.getElem?_cons_succ, Option.bind_some, Array.getD_eq_getD_getElem?] at hp
        have hs9 := hs 9 (by kernel_rfl)
        simp only [Array.getD_eq_getD_getElem?, List.getElem?_toArray, List.getElem?_cons_succ, List.getElem?_cons_zero, Option.getD_some] at hs9
        clear hs
        simp only [getD_bool] at hp
        have m0 := kc0 wx hf
        have m1 := kc1 wx hf
        have m2 := kc2 wx hf
        have m3 := kc3 wx hf
        have m4 := kc4 wx hf
        have m5 := kc5 wx hf
        clear hf kc0 kc1 kc2 kc3 kc4 kc5 kd0 kd1 kd2 kd3 kd4 kd5
        (try simp only [hp])
        go_simp
        try dsimp only
        refine hK.out _ _ ?_ ?_
        · ((repeat (first | (with_reducible exact Fr.refl _ _) | (with_reducible assumption) | (with_reducible refine Fr.drew ?_) | (with_reducible refine Fr.drewN ?_ _) | (with_reducible refine Fr.alloc ?_ _) | (with_reducible refine Fr.setL ?_ _ _ _ ?_) | (focus (refine Or.inl ?_; simp; done)) | (focus (refine Or.inr ?_; simp; done)) | (focus (refine Or.inr ?_; simp; omega)) | (focus (refine Or.inr ?_; omega)))); done)
        · simp only [nth]
          first | (unfold Is; rfl) | (unfold Any; exact trivial) | exact IsSl.new _ _ _ _ | assumption
      · intro ac wx hf hs hp K hK
        simp only [waits, holdsA, nth, Is, Any, List.filter_cons, List.filter_nil, List.map_cons, List.map_nil, Region.binds, if_true, true_and, and_true, Nat.reduceAdd, List.getElem?_cons_zero, List.getElem?_cons_succ, Option.bind_some, Array.getD_eq_getD_getElem?] at hp
        have hs11 := hs 11 (by kernel_rfl)
        simp only [Array.getD_eq_getD_getElem?, List.getElem?_toArray, List.getElem?_cons_succ, List.getElem?_cons_zero, Option.getD_some] at hs11
        clear hs
        simp only [getD_bool] at hp
        clear hf
        (try simp only [hp])
        go_simp
        try dsimp only
        refine hK.out _ _ ?_ ?_
        · ((repeat (first | (with_reducible exact Fr.refl _ _) | (with_reducible assumption) | (with_reducible refine Fr.drew ?_) | (with_reducible refine Fr.drewN ?_ _) | (with_reducible refine Fr.alloc ?_ _) | (with_reducible refine Fr.setL ?_ _ _ _ ?_) | (focus (refine Or.inl ?_; simp; done)) | (focus (refine Or.inr ?_; simp; done)) | (focus (refine Or.inr ?_; simp; omega)) | (focus (refine Or.inr ?_; omega)))); done)
        · simp only [nth]
          first | (unfold Is; rfl) | (unfold Any; exact trivial) | exact IsSl.new _ _ _ _ | assumption
      · intro ac wx hf hs hp K hK
        simp only [waits, holdsA, nth, Is, Any, List.filter_cons, List.filter_nil, List.map_cons, List.map_nil, Region.binds, if_true, true_and, and_true, Nat.reduceAdd, List.getElem?_cons_zero, List.getElem?_cons_succ, Option.bind_some, Array.getD_eq_getD_getElem?] at hp
        clear hs
        simp only [getD_bool] at hp
        (try simp only [hp])
        go_simp
        go_at_call 15
        refine (bSends c (i % 64) _).mono ?_
        rintro e w' ⟨rfl, fz⟩
        exact hK.out _ _ fz rfl
      · intro ac wx hf hs hp K hK
        simp only [waits, holdsA, nth, Is, Any, List.filter_cons, List.filter_nil, List.map_cons, List.map_nil, Region.binds, if_true, true_and, and_true, Nat.reduceAdd, List.getElem?_cons_zero, List.getElem?_cons_succ, Option.bind_some, Array.getD_eq_getD_getElem?] at hp
        have hs9 := hs 9 (by kernel_rfl)
        simp only [Array.getD_eq_getD_getElem?, List.getElem?_toArray, List.getElem?_cons_succ, List.getElem?_cons_zero, Option.getD_some] at hs9
        clear hs
        simp only [getD_bool] at hp
        have m0 := kc0 wx hf
        have m1 := kc1 wx hf
        have m2 := kc2 wx hf
        have m3 := kc3 wx hf
        have m4 := kc4 wx hf
        have m5 := kc5 wx hf
        clear hf kc0 kc1 kc2 kc3 kc4 kc5 kd0 kd1 kd2 kd3 kd4 kd5
        (try simp only [hp])
        go_simp
        try dsimp only
        refine hK.out _ _ ?_ ?_
        · ((repeat (first | (with_reducible exact Fr.refl _ _) | (with_reducible assumption) | (with_reducible refine Fr.drew ?_) | (with_reducible refine Fr.drewN ?_ _) | (with_reducible refine Fr.alloc ?_ _) | (with_reducible refine Fr.setL ?_ _ _ _ ?_) | (focus (refine Or.inl ?_; simp; done)) | (focus (refine Or.inr ?_; simp; done)) | (focus (refine Or.inr ?_; simp; omega)) | (focus (refine Or.inr ?_; omega)))); done)
        · simp only [nth]
          first | (unfold Is; rfl) | (unfold Any; exact trivial) | exact IsSl.new _ _ _ _ | assumption
      · intro ac wx hf hs hp K hK
        simp only [waits, holdsA, nth, Is, Any, List.filter_cons, List.filter_nil, List.map_cons, List.map_nil, Region.binds, if_true, true_and, and_true, Nat.reduceAdd, List.getElem?_cons_zero, List.getElem?_cons_succ, Option.bind_some, Array.getD_eq_getD_getElem?] at hp
        have hs11 := hs 11 (by kernel_rfl)
        simp only [Array.getD_eq_getD_getElem?, List.getElem?_toArray, List.getElem?_cons_succ, List.getElem?_cons_zero, Option.getD_some] at hs11
        clear hs
        simp only [getD_bool] at hp
        clear hf
        (try simp only [hp])
        go_simp
        try dsimp only
        refine hK.out _ _ ?_ ?_
        · ((repeat (first | (with_reducible exact Fr.refl _ _) | (with_reducible assumption) | (with_reducible refine Fr.drew ?_) | (with_reducible refine Fr.drewN ?_ _) | (with_reducible refine Fr.alloc ?_ _) | (with_reducible refine Fr.setL ?_ _ _ _ ?_) | (focus (refine Or.inl ?_; simp; done)) | (focus (refine Or.inr ?_; simp; done)) | (focus (refine Or.inr ?_; simp; omega)) | (focus (refine Or.inr ?_; omega)))); done)
        · simp only [nth]
          first | (unfold Is; rfl) | (unfold Any; exact trivial) | exact IsSl.new _ _ _ _ | assumption
      · intro ac wx hf hs hp K hK
        simp only [waits, holdsA, nth, Is, Any, List.filter_cons, List.filter_nil, List.map_cons, List.map_nil, Region.binds, if_true, true_and, and_true, Nat.reduceAdd, List.getElem?_cons_zero, List.getElem?_cons_succ, Option.bind_some, Array.getD_eq_getD_getElem?] at hp
        clear hs
        simp only [getD_bool] at hp
        clear hf
        (try simp only [hp])
        go_simp
        try dsimp only
        refine hK.out _ _ ?_ ?_
        · ((repeat (first | (with_reducible exact Fr.refl _ _) | (with_reducible assumption) | (with_reducible refine Fr.drew ?_) | (with_reducible refine Fr.drewN ?_ _) | (with_reducible refine Fr.alloc ?_ _) | (with_reducible refine Fr.setL ?_ _ _ _ ?_) | (focus (refine Or.inl ?_; simp; done)) | (focus (refine Or.inr ?_; simp; done)) | (focus (refine Or.inr ?_; simp; omega)) | (focus (refine Or.inr ?_; omega)))); done)
        · simp only [nth]
          first | (unfold Is; rfl) | (unfold Any; exact trivial) | exact IsSl.new _ _ _ _ | assumption
      · intro ac wx hf hs hp K hK
        simp only [waits, holdsA, nth, Is, Any, List.filter_cons, List.filter_nil, List.map_cons, List.map_nil, Region.binds, if_true, true_and, and_true, Nat.reduceAdd, List.getElem?_cons_zero, List.getElem?_cons_succ, Option.bind_some, Array.getD_eq_getD_getElem?] at hp
        clear hs
        simp only [getD_bool] at hp
        (try simp only [hp])
        go_simp
        go_at_call 15
        refine (bSends c (i % 64 + 1) _).mono ?_
        rintro e w' ⟨rfl, fz⟩
        exact hK.out _ _ fz rfl
      · intro ac wx hf hs hp K hK
        simp only [waits, holdsA, nth, Is, Any, List.filter_cons, List.filter_nil, List.map_cons, List.map_nil, Region.binds, if_true, true_and, and_true, Nat.reduceAdd, List.getElem?_cons_zero, List.getElem?_cons_succ, Option.bind_some, Array.getD_eq_getD_getElem?] at hp
        clear hs
        simp only [getD_bool] at hp
        clear hf
        (try simp only [hp])
        go_simp
        try dsimp only
        refine hK.out _ _ ?_ ?_
        · ((repeat (first | (with_reducible exact Fr.refl _ _) | (with_reducible assumption) | (with_reducible refine Fr.drew ?_) | (with_reducible refine Fr.drewN ?_ _) | (with_reducible refine Fr.alloc ?_ _) | (with_reducible refine Fr.setL ?_ _ _ _ ?_) | (focus (refine Or.inl ?_; simp; done)) | (focus (refine Or.inr ?_; simp; done)) | (focus (refine Or.inr ?_; simp; omega)) | (focus (refine Or.inr ?_; omega)))); done)
        · simp only [nth]
          first | (unfold Is; rfl) | (unfold Any; exact trivial) | exact IsSl.new _ _ _ _ | assumption
      · intro ac wx hf hs hp K hK
        simp only [waits, holdsA, nth, Is, Any, List.filter_cons, List.filter_nil, List.map_cons, List.map_nil, Region.binds, if_true, true_and, and_true, Nat.reduceAdd, List.getElem?_cons_zero, List.getElem?_cons_succ, Option.bind_some, Array.getD_eq_getD_getElem?] at hp
        clear hs
        clear hf
        (try simp only [hp])
        go_simp
        try dsimp only
        refine hK.out _ _ ?_ ?_
        · ((repeat (first | (with_reducible exact Fr.refl _ _) | (with_reducible assumption) | (with_reducible refine Fr.drew ?_) | (with_reducible refine Fr.drewN ?_ _) | (with_reducible refine Fr.alloc ?_ _) | (with_reducible refine Fr.setL ?_ _ _ _ ?_) | (focus (refine Or.inl ?_; simp; done)) | (focus (refine Or.inr ?_; simp; done)) | (focus (refine Or.inr ?_; simp; omega)) | (focus (refine Or.inr ?_; omega)))); done)
        · simp only [nth]
          first | (unfold Is; rfl) | (unfold Any; exact trivial) | exact IsSl.new _ _ _ _ | assumption
      · intro ac wx hf hs hp K hK
        simp only [waits, holdsA, nth, Is, Any, List.filter_cons, List.filter_nil, List.map_cons, List.map_nil, Region.binds, if_true, true_and, and_true, Nat.reduceAdd, List.getElem?_cons_zero, List.getElem?_cons_succ, Option.bind_some, Array.getD_eq_getD_getElem?] at hp
        clear hs
        clear hf
        (try simp only [hp])
        go_simp
        try dsimp only
        refine hK.out _ _ ?_ ?_
        · ((repeat (first | (with_reducible exact Fr.refl _ _) | (with_reducible assumption) | (with_reducible refine Fr.drew ?_) | (with_reducible refine Fr.drewN ?_ _) | (with_reducible refine Fr.alloc ?_ _) | (with_reducible refine Fr.setL ?_ _ _ _ ?_) | (focus (refine Or.inl ?_; simp; done)) | (focus (refine Or.inr ?_; simp; done)) | (focus (refine Or.inr ?_; simp; omega)) | (focus (refine Or.inr ?_; omega)))); done)
        · simp only [nth]
          first | (unfold Is; rfl) | (unfold Any; exact trivial) | exact IsSl.new _ _ _ _ | assumption
      · intro ac wx hf hs hp K hK
        simp only [waits, holdsA, nth, Is, Any, List.filter_cons, List.filter_nil, List.map_cons, List.map_nil, Region.binds, if_true, true_and, and_true, Nat.reduceAdd, List.getElem?_cons_zero, List.getElem?_cons_succ, Option.bind_some, Array.getD_eq_getD_getElem?] at hp
        have hs9 := hs 9 (by kernel_rfl)
        simp only [Array.getD_eq_getD_getElem?, List.getElem?_toArray, List.getElem?_cons_succ, List.getElem?_cons_zero, Option.getD_some] at hs9
        clear hs
        simp only [getD_bool] at hp
        have m0 := kc0 wx hf
        have m1 := kc1 wx hf
        have m2 := kc2 wx hf
        have m3 := kc3 wx hf
        have m4 := kc4 wx hf
        have m5 := kc5 wx hf
        clear hf kc0 kc1 kc2 kc3 kc4 kc5 kd0 kd1 kd2 kd3 kd4 kd5
        (try simp only [hp])
        go_simp
        try dsimp only
        refine hK.out _ _ ?_ ?_
        · ((repeat (first | (with_reducible exact Fr.refl _ _) | (with_reducible assumption) | (with_reducible refine Fr.drew ?_) | (with_reducible refine Fr.drewN ?_ _) | (with_reducible refine Fr.alloc ?_ _) | (with_reducible refine Fr.setL ?_ _ _ _ ?_) | (focus (refine Or.inl ?_; simp; done)) | (focus (refine Or.inr ?_; simp; done)) | (focus (refine Or.inr ?_; simp; omega)) | (focus (refine Or.inr ?_; omega)))); done)
        · simp only [nth]
          first | (unfold Is; rfl) | (unfold Any; exact trivial) | exact IsSl.new _ _ _ _ | assumption
      · intro ac wx hf hs hp K hK
        simp only [waits, holdsA, nth, Is, Any, List.filter_cons, List.filter_nil, List.map_cons, List.map_nil, Region.binds, if_true, true_and, and_true, Nat.reduceAdd, List.getElem?_cons_zero, List.getElem?_cons_succ, Option.bind_some, Array.getD_eq_getD_getElem?] at hp
        clear hs
        simp only [getD_bool] at hp
        (try simp only [hp])
        go_simp
        go_at_call 15
        refine (bSends c 129 _).mono ?_
        rintro e w' ⟨rfl, fz⟩
        exact hK.out _ _ fz rfl
      · intro ac wx hf hs hp K hK
        simp only [waits, holdsA, nth, Is, Any, List.filter_cons, List.filter_nil, List.map_cons, List.map_nil, Region.binds, if_true, true_and, and_true, Nat.reduceAdd, List.getElem?_cons_zero, List.getElem?_cons_succ, Option.bind_some, Array.getD_eq_getD_getElem?] at hp
        clear hs
        simp only [getD_bool] at hp
        clear hf
        (try simp only [hp])
        go_simp
        try dsimp only
        refine hK.out _ _ ?_ ?_
        · ((repeat (first | (with_reducible exact Fr.refl _ _) | (with_reducible assumption) | (with_reducible refine Fr.drew ?_) | (with_reducible refine Fr.drewN ?_ _) | (with_reducible refine Fr.alloc ?_ _) | (with_reducible refine Fr.setL ?_ _ _ _ ?_) | (focus (refine Or.inl ?_; simp; done)) | (focus (refine Or.inr ?_; simp; done)) | (focus (refine Or.inr ?_; simp; omega)) | (focus (refine Or.inr ?_; omega)))); done)
        · simp only [nth]
          first | (unfold Is; rfl) | (unfold Any; exact trivial) | exact IsSl.new _ _ _ _ | assumption
      · intro ac wx hf hs hp K hK
        simp only [waits, holdsA, nth, Is, Any, List.filter_cons, List.filter_nil, List.map_cons, List.map_nil, Region.binds, if_true, true_and, and_true, Nat.reduceAdd, List.getElem?_cons_zero, List.getElem?_cons_succ, Option.bind_some, Array.getD_eq_getD_getElem?] at hp
        clear hs
        clear hf
        (try simp only [hp])
        go_simp
        try dsimp only
        refine hK.out _ _ ?_ ?_
        · ((repeat (first | (with_reducible exact Fr.refl _ _) | (with_reducible assumption) | (with_reducible refine Fr.drew ?_) | (with_reducible refine Fr.drewN ?_ _) | (with_reducible refine Fr.alloc ?_ _) | (with_reducible refine Fr.setL ?_ _ _ _ ?_) | (focus (refine Or.inl ?_; simp; done)) | (focus (refine Or.inr ?_; simp; done)) | (focus (refine Or.inr ?_; simp; omega)) | (focus (refine Or.inr ?_; omega)))); done)
        · simp only [nth]
          first | (unfold Is; rfl) | (unfold Any; exact trivial) | exact IsSl.new _ _ _ _ | assumption
      · intro ac wx hf hs hp K hK
        simp only [waits, holdsA, nth, Is, Any, List.filter_cons, List.filter_nil, List.map_cons, List.map_nil, Region.binds, if_true, true_and, and_true, Nat.reduceAdd, List.getElem?_cons_zero, List.getElem?_cons_succ, Option.bind_some, Array.getD_eq_getD_getElem?] at hp
        clear hs
        clear hf
        (try simp only [hp])
        go_simp
        try dsimp only
        refine hK.out _ _ ?_ ?_
        · ((repeat (first | (with_reducible exact Fr.refl _ _) | (with_reducible assumption) | (with_reducible refine Fr.drew ?_) | (with_reducible refine Fr.drewN ?_ _) | (with_reducible refine Fr.alloc ?_ _) | (with_reducible refine Fr.setL ?_ _ _ _ ?_) | (focus (refine Or.inl ?_; simp; done)) | (focus (refine Or.inr ?_; simp; done)) | (focus (refine Or.inr ?_; simp; omega)) | (focus (refine Or.inr ?_; omega)))); done)
        · simp only [nth]
          first | (unfold Is; rfl) | (unfold Any; exact trivial) | exact IsSl.new _ _ _ _ | assumption
    case hD =>
      intro x wx hf hp
      simp only [fill, List.setIfInBounds_toArray, List.set_cons_zero, List.set_cons_succ, Nat.reduceAdd, Act.put]
      simp only [List.length_cons, List.length_nil, Nat.reduceAdd, List.range_eq_range', List.range'_succ, List.range'_zero, Nat.zero_add, Nat.add_zero, holds, nth, Is, Any, true_and, and_true] at hp
      simp only [hp]
      go_wp2
      go_ret
      exact ⟨rfl, F5.tr hf⟩
theorem walk_BoundGrows (w : World) (n : Int) (hn : (Lit.int .i64 n).wf = true) (i : Int) (hi : (Lit.int .u8 i).wf = true) (m0 m1 m2 : Int) (h0 : (Lit.int .u8 m0).wf = true) (h1 : (Lit.int .u8 m1).wf = true) (h2 : (Lit.int .u8 m2).wf = true) :
    Calls Try.prog 6 #[.int .i64 n, .int .u8 i, .agg #[.int .u8 m0, .int .u8 m1, .int .u8 m2]] w fun e w' => e = .returned (.bool true) ∧ Fr [] w w' :=
  law_BoundGrows n i m0 m1 m2 w (wf_u8 hi) (wf_u8 h0) (wf_u8 h1) (wf_u8 h2)
end Go.Proofs.Ytaefahbgeokopaa
