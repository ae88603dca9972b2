/- The laws BoundKnown, BoundNumbers and BoundGrows, walked. -/
import Derived.Test.YtaefahbgeokopaaBoundG
import Derived.Laws.BitsLemmas
namespace Go.Proofs.Ytaefahbgeokopaa
open Go.RowKit Go.Shelf
set_option linter.unusedVariables false
set_option linter.unusedSimpArgs false

theorem i64_mask (k : Nat) (hk : k ≤ 62) (m M : Int) (hM : M = (2 ^ k : Nat)) (hm : (BitVec.ofInt 64 m).toNat = 2 ^ k - 1) (n : Int) : bits .and .i64 n m = n % M := by
  have h2 : (2 : Nat) ^ k * 2 ^ (64 - k) = 2 ^ 64 := by rw [← Nat.pow_add]; congr 1; omega
  have hlt : (2 : Nat) ^ k ≤ 2 ^ 62 := Nat.pow_le_pow_right (by decide) hk
  have key : (BitVec.ofInt 64 n &&& BitVec.ofInt 64 m).toNat = (n % ((2 ^ 64 : Nat) : Int)).toNat % 2 ^ k := by
    rw [BitVec.toNat_and, BitVec.toNat_ofInt, hm, Nat.and_two_pow_sub_one_eq_mod]
  show IntKind.i64.wrap ((BitVec.ofInt 64 n &&& BitVec.ofInt 64 m).toNat : Nat) = n % M
  have hpos : 0 < (2 : Nat) ^ k := Nat.pow_pos (by decide)
  have h3 : ((n % ((2 ^ 64 : Nat) : Int)).toNat % 2 ^ k : Nat) = (n % ((2 ^ k : Nat) : Int)) := by
    rw [Int.natCast_emod, Int.toNat_of_nonneg (Int.emod_nonneg _ (by decide)), ← h2, Int.natCast_mul, Int.emod_emod_of_dvd _ (Int.dvd_mul_right _ _)]
  rw [key, h3, ← hM]
  have h4 := Int.emod_nonneg n (show M ≠ 0 by omega)
  have h5 := Int.emod_lt_of_pos n (show 0 < M by omega)
  exact IntWalk.i64_in _ (by omega)
theorem i64_and3 (n : Int) : bits .and .i64 n 3 = n % 4 := i64_mask 2 (by decide) 3 4 rfl (by decide) n
theorem i64_and7 (n : Int) : bits .and .i64 n 7 = n % 8 := i64_mask 3 (by decide) 7 8 rfl (by decide) n
theorem i64_and65535 (n : Int) : bits .and .i64 n 65535 = n % 65536 := i64_mask 16 (by decide) 65535 65536 rfl (by decide) n

theorem getD_bool (o : Option Value) (b : Bool) : (o.getD undef = Value.bool b) ↔ o = some (.bool b) := by
  cases o with
  | none => simp [undef]
  | some v => simp
def madeM (n : Int) : CM := ⟨1 + n % 65536 % 8, 2 + n % 65536 / 8 % 4, 2 + n % 65536 / 32 % 4, 2 + n % 65536 / 128 % 4, 2 + n % 65536 / 512 % 4, 2 + n % 65536 / 2048 % 4⟩
theorem madeM_ok (n : Int) : (madeM n).ok := by unfold madeM CM.ok tick; dsimp only; omega
theorem law19_Made (n : Int) (w : World) : Calls Try.prog 17 #[.int .i64 n] w fun e w' => e = .returned (madeM n).val ∧ Fr [] w w' := by
  have a1 := i64_and3
  have a2 := i64_and7
  have a3 := i64_and65535
  have b1 : wrap64 (1 + n % 65536 % 8) = 1 + n % 65536 % 8 := by unfold wrap64; omega
  have b2 : wrap64 (2 + n % 65536 / 8 % 4) = 2 + n % 65536 / 8 % 4 := by unfold wrap64; omega
  have b3 : wrap64 (2 + n % 65536 / 32 % 4) = 2 + n % 65536 / 32 % 4 := by unfold wrap64; omega
  have b4 : wrap64 (2 + n % 65536 / 128 % 4) = 2 + n % 65536 / 128 % 4 := by unfold wrap64; omega
  have b5 : wrap64 (2 + n % 65536 / 512 % 4) = 2 + n % 65536 / 512 % 4 := by unfold wrap64; omega
  have b6 : wrap64 (2 + n % 65536 / 2048 % 4) = 2 + n % 65536 / 2048 % 4 := by unfold wrap64; omega
  go_enter Try.func17, Try.ntmps17
  go_wp2
  exact bodyPost_ret (v := (madeM n).val) (by simp [results, Try.results17, go_sem, madeM]) rfl ⟨rfl, (Fr.refl _ _).alloc _⟩

/-- What package bound tells, and its reference. -/
def givesV (c : CM) : Int := if c.ok then c.gives else 0
def sendsV (c : CM) (n : Int) : Int := if c.ok ∧ 0 ≤ n ∧ n ≤ 128 then c.sends n else 0
theorem bGives (c : CM) (w : World) : Calls Try.prog 14 #[c.val] w fun e w' => e = .returned (.int .i64 (givesV c)) ∧ Fr [] w w' := by
  unfold givesV
  by_cases h : c.ok
  · rw [if_pos h]; exact bound_Gives c w h
  · rw [if_neg h]; exact bound_Gives_no c w h
theorem rGives (c : CM) (w : World) : Calls Try.prog 18 #[c.val] w fun e w' => e = .returned (.int .i64 (givesV c)) ∧ Fr [] w w' := by
  unfold givesV
  by_cases h : c.ok
  · rw [if_pos h]; exact ref_Gives c w h
  · rw [if_neg h]; exact ref_Gives_no c w h
theorem bSends (c : CM) (n : Int) (w : World) : Calls Try.prog 15 #[c.val, .int .i64 n] w fun e w' => e = .returned (.int .i64 (sendsV c n)) ∧ Fr [] w w' := by
  unfold sendsV
  by_cases h : c.ok
  · by_cases hn : 0 ≤ n ∧ n ≤ 128
    · rw [if_pos ⟨h, hn⟩]; exact bound_Sends c n w h hn.1 hn.2
    · rw [if_neg (fun x => hn x.2)]; exact bound_Sends_out c n w (by omega)
  · rw [if_neg (fun x => h x.1)]; exact bound_Sends_no c n w h
theorem rSends (c : CM) (n : Int) (w : World) : Calls Try.prog 19 #[c.val, .int .i64 n] w fun e w' => e = .returned (.int .i64 (sendsV c n)) ∧ Fr [] w w' := by
  unfold sendsV
  by_cases h : c.ok
  · by_cases hn : 0 ≤ n ∧ n ≤ 128
    · rw [if_pos ⟨h, hn⟩]; exact ref_Sends c n w h hn.1 hn.2
    · rw [if_neg (fun x => hn x.2)]; exact ref_Sends_out c n w (by omega)
  · rw [if_neg (fun x => h x.1)]; exact ref_Sends_no c n w h

theorem ref20_May0 (t a q : Int) (w : World) (h0 : ¬ 1 ≤ t) : Calls Try.prog 28 #[oV t a q] w fun e w' => e = .returned (.bool false) ∧ Fr [] w w' := by
  unfold oV
  have d0 : decide (1 ≤ t) = false := by simp; omega
  go_enter Try.func28, Try.ntmps28
  go_wp2
  go_ret
  exact ⟨rfl, (Fr.refl _ _).alloc _⟩
theorem ref20_May1 (t a q : Int) (w : World) (h0 : 1 ≤ t) (h1 : ¬ t ≤ 100) : Calls Try.prog 28 #[oV t a q] w fun e w' => e = .returned (.bool false) ∧ Fr [] w w' := by
  unfold oV
  have d0 : decide (1 ≤ t) = true := by simp; omega
  have d1 : decide (t ≤ 100) = false := by simp; omega
  go_enter Try.func28, Try.ntmps28
  go_wp2
  go_ret
  exact ⟨rfl, (Fr.refl _ _).alloc _⟩
theorem ref20_May2 (t a q : Int) (w : World) (h0 : 1 ≤ t) (h1 : t ≤ 100) (h2 : ¬ 1 ≤ a) : Calls Try.prog 28 #[oV t a q] w fun e w' => e = .returned (.bool false) ∧ Fr [] w w' := by
  unfold oV
  have d0 : decide (1 ≤ t) = true := by simp; omega
  have d1 : decide (t ≤ 100) = true := by simp; omega
  have d2 : decide (1 ≤ a) = false := by simp; omega
  go_enter Try.func28, Try.ntmps28
  go_wp2
  go_ret
  exact ⟨rfl, (Fr.refl _ _).alloc _⟩
theorem ref20_May3 (t a q : Int) (w : World) (h0 : 1 ≤ t) (h1 : t ≤ 100) (h2 : 1 ≤ a) (h3 : ¬ a ≤ 10000) : Calls Try.prog 28 #[oV t a q] w fun e w' => e = .returned (.bool false) ∧ Fr [] w w' := by
  unfold oV
  have d0 : decide (1 ≤ t) = true := by simp; omega
  have d1 : decide (t ≤ 100) = true := by simp; omega
  have d2 : decide (1 ≤ a) = true := by simp; omega
  have d3 : decide (a ≤ 10000) = false := by simp; omega
  go_enter Try.func28, Try.ntmps28
  go_wp2
  go_ret
  exact ⟨rfl, (Fr.refl _ _).alloc _⟩
theorem ref20_May4 (t a q : Int) (w : World) (h0 : 1 ≤ t) (h1 : t ≤ 100) (h2 : 1 ≤ a) (h3 : a ≤ 10000) (h4 : ¬ 0 ≤ q) : Calls Try.prog 28 #[oV t a q] w fun e w' => e = .returned (.bool false) ∧ Fr [] w w' := by
  unfold oV
  have d0 : decide (1 ≤ t) = true := by simp; omega
  have d1 : decide (t ≤ 100) = true := by simp; omega
  have d2 : decide (1 ≤ a) = true := by simp; omega
  have d3 : decide (a ≤ 10000) = true := by simp; omega
  have d4 : decide (0 ≤ q) = false := by simp; omega
  go_enter Try.func28, Try.ntmps28
  go_wp2
  go_ret
  exact ⟨rfl, (Fr.refl _ _).alloc _⟩
theorem ref20_May5 (t a q : Int) (w : World) (h0 : 1 ≤ t) (h1 : t ≤ 100) (h2 : 1 ≤ a) (h3 : a ≤ 10000) (h4 : 0 ≤ q) (h5 : ¬ q ≤ 10000) : Calls Try.prog 28 #[oV t a q] w fun e w' => e = .returned (.bool false) ∧ Fr [] w w' := by
  unfold oV
  have d0 : decide (1 ≤ t) = true := by simp; omega
  have d1 : decide (t ≤ 100) = true := by simp; omega
  have d2 : decide (1 ≤ a) = true := by simp; omega
  have d3 : decide (a ≤ 10000) = true := by simp; omega
  have d4 : decide (0 ≤ q) = true := by simp; omega
  have d5 : decide (q ≤ 10000) = false := by simp; omega
  go_enter Try.func28, Try.ntmps28
  go_wp2
  go_ret
  exact ⟨rfl, (Fr.refl _ _).alloc _⟩
theorem ref20_May6 (t a q : Int) (w : World) (h0 : 1 ≤ t) (h1 : t ≤ 100) (h2 : 1 ≤ a) (h3 : a ≤ 10000) (h4 : 0 ≤ q) (h5 : q ≤ 10000) : Calls Try.prog 28 #[oV t a q] w fun e w' => e = .returned (.bool true) ∧ Fr [] w w' := by
  unfold oV
  have d0 : decide (1 ≤ t) = true := by simp; omega
  have d1 : decide (t ≤ 100) = true := by simp; omega
  have d2 : decide (1 ≤ a) = true := by simp; omega
  have d3 : decide (a ≤ 10000) = true := by simp; omega
  have d4 : decide (0 ≤ q) = true := by simp; omega
  have d5 : decide (q ≤ 10000) = true := by simp; omega
  go_enter Try.func28, Try.ntmps28
  go_wp2
  go_ret
  exact ⟨rfl, (Fr.refl _ _).alloc _⟩
instance (t a q : Int) : Decidable (okO t a q) := by unfold okO; infer_instance
def asksV (t a q : Int) : Int := if okO t a q then t * a else 0
theorem bAsks (t a q : Int) (w : World) : Calls Try.prog 10 #[oV t a q] w fun e w' => e = .returned (.int .i64 (asksV t a q)) ∧ Fr [] w w' := by
  unfold asksV
  by_cases h : okO t a q
  · rw [if_pos h]; exact bound_Asks_yes t a q w h
  · rw [if_neg h]; exact bound_Asks_no t a q w h
theorem ref20_May_no (t a q : Int) (w : World) (h : ¬ okO t a q) : Calls Try.prog 28 #[oV t a q] w fun e w' => e = .returned (.bool false) ∧ Fr [] w w' := by
  by_cases h0 : 1 ≤ t
  case neg => exact ref20_May0 t a q w h0
  by_cases h1 : t ≤ 100
  case neg => exact ref20_May1 t a q w h0 h1
  by_cases h2 : 1 ≤ a
  case neg => exact ref20_May2 t a q w h0 h1 h2
  by_cases h3 : a ≤ 10000
  case neg => exact ref20_May3 t a q w h0 h1 h2 h3
  by_cases h4 : 0 ≤ q
  case neg => exact ref20_May4 t a q w h0 h1 h2 h3 h4
  by_cases h5 : q ≤ 10000
  case neg => exact ref20_May5 t a q w h0 h1 h2 h3 h4 h5
  exact absurd ⟨h0, h1, h2, h3, h4, h5⟩ h
theorem rAsks (t a q : Int) (w : World) : Calls Try.prog 20 #[oV t a q] w fun e w' => e = .returned (.int .i64 (asksV t a q)) ∧ Fr [] w w' := by
  unfold asksV
  by_cases h : okO t a q
  · rw [if_pos h]
    obtain ⟨h1, h2, h3, h4, h5, h6⟩ := h
    have m1 : t * a ≤ 100 * 10000 := Int.mul_le_mul h2 h4 (by omega) (by omega)
    have m2 : 0 ≤ t * a := Int.mul_nonneg (by omega) (by omega)
    have hw : IntKind.i64.wrap (t * a) = t * a := IntWalk.i64_in _ (by omega)
    unfold oV
    go_enter Try.func20, Try.ntmps20
    have hb := Blk.new w #[.int .i64 t, .int .i64 a, .int .i64 q] 23
    go_wp2_with fail
    refine (ref20_May6 t a q _ h1 h2 h3 h4 h5 h6).mono ?_
    rintro e w1 ⟨rfl, f1⟩
    have hb1 := hb.fr f1 (by simp)
    have c0 : w1.cell? ⟨w.heap.size, 0, none⟩ = some (.int .i64 t) := hb1.cell 0 rfl
    have c1 : w1.cell? ⟨w.heap.size, 1, none⟩ = some (.int .i64 a) := hb1.cell 1 rfl
    go_wp2
    go_ret
    exact ⟨rfl, ((Fr.refl _ _).alloc _).tr f1⟩
  · rw [if_neg h]
    unfold oV
    go_enter Try.func20, Try.ntmps20
    go_wp2_with fail
    refine (ref20_May_no t a q _ h).mono ?_
    rintro e w1 ⟨rfl, f1⟩
    go_wp2
    go_ret
    exact ⟨rfl, ((Fr.refl _ _).alloc _).tr f1⟩

set_option maxRecDepth 100000 in
theorem law_BoundKnown (w : World) : Calls Try.prog 4 #[] w fun e w' => e = .returned (.bool true) ∧ Fr [] w w' := by
  have g0 : givesV ⟨0, 0, 0, 0, 0, 0⟩ = 0 := by decide
  have s1 : sendsV (madeM 0) (-1) = 0 := by decide
  have s2 : sendsV (madeM 0) 0 = 24 := by decide
  have G0 := Lib.hid g0
  have S1 := Lib.hid s1
  have S2 := Lib.hid s2
  clear g0 s1 s2
  go_enter Try.func4, Try.ntmps4
  go_wp2_with fail
  refine (b_awake _).mono ?_
  rintro e w1 ⟨rfl, f1⟩
  go_wp2_with fail
  refine (bGives ⟨0, 0, 0, 0, 0, 0⟩ _).mono ?_
  rintro e w2 ⟨rfl, f2⟩
  rw [G0.out]
  go_wp2_with fail
  refine (law19_Made 0 _).mono ?_
  rintro e w3 ⟨rfl, f3⟩
  go_wp2_with fail
  refine (law19_Config (madeM 0) _).mono ?_
  rintro e w4 ⟨rfl, f4⟩
  go_wp2_with fail
  refine (bSends (madeM 0) (-1) _).mono ?_
  rintro e w5 ⟨rfl, f5⟩
  rw [S1.out]
  go_wp2_with fail
  refine (law19_Made 0 _).mono ?_
  rintro e w6 ⟨rfl, f6⟩
  go_wp2_with fail
  refine (law19_Config (madeM 0) _).mono ?_
  rintro e w7 ⟨rfl, f7⟩
  go_wp2_with fail
  refine (bSends (madeM 0) 0 _).mono ?_
  rintro e w8 ⟨rfl, f8⟩
  rw [S2.out]
  go_wp2
  go_ret
  exact ⟨rfl, ((((((f1.tr f2).tr f3).tr f4).tr f5).tr f6).tr f7).tr f8⟩

set_option maxHeartbeats 2000000 in
set_option maxRecDepth 100000 in
theorem law_BoundNumbers (c : CM) (t a q n : Int) (w : World) : Calls Try.prog 5 #[c.val, oV t a q, .int .i64 n] w fun e w' => e = .returned (.bool true) ∧ Fr [] w w' := by
  unfold oV
  go_enter Try.func5, Try.ntmps5
  have hc := (Blk.new w #[.int .i64 c.wd, .int .i64 c.tr, .int .i64 c.ak, .int .i64 c.po, .int .i64 c.re, .int .i64 c.bu] 47).alloc (.cells #[.int .i64 t, .int .i64 a, .int .i64 q] 23)
  have ho := Blk.newAt (w.alloc (.cells #[.int .i64 c.wd, .int .i64 c.tr, .int .i64 c.ak, .int .i64 c.po, .int .i64 c.re, .int .i64 c.bu] 47)) (w.heap.size + 1) #[.int .i64 t, .int .i64 a, .int .i64 q] 23 (by simp)
  go_wp2_with fail
  refine (b_awake _).mono ?_
  rintro e w1 ⟨rfl, f1⟩
  have hc1 := hc.fr f1 (by simp)
  have ho1 := ho.fr f1 (by simp)
  go_wp2
  have kc0 : ∀ wx, Fr [] w1 wx → wx.cell? ⟨w.heap.size, 0, none⟩ = some (.int .i64 c.wd) := fun wx hf => hf.cell (hc1.cell 0 rfl) (by simp)
  have kc1 : ∀ wx, Fr [] w1 wx → wx.cell? ⟨w.heap.size, 1, none⟩ = some (.int .i64 c.tr) := fun wx hf => hf.cell (hc1.cell 1 rfl) (by simp)
  have kc2 : ∀ wx, Fr [] w1 wx → wx.cell? ⟨w.heap.size, 2, none⟩ = some (.int .i64 c.ak) := fun wx hf => hf.cell (hc1.cell 2 rfl) (by simp)
  have kc3 : ∀ wx, Fr [] w1 wx → wx.cell? ⟨w.heap.size, 3, none⟩ = some (.int .i64 c.po) := fun wx hf => hf.cell (hc1.cell 3 rfl) (by simp)
  have kc4 : ∀ wx, Fr [] w1 wx → wx.cell? ⟨w.heap.size, 4, none⟩ = some (.int .i64 c.re) := fun wx hf => hf.cell (hc1.cell 4 rfl) (by simp)
  have kc5 : ∀ wx, Fr [] w1 wx → wx.cell? ⟨w.heap.size, 5, none⟩ = some (.int .i64 c.bu) := fun wx hf => hf.cell (hc1.cell 5 rfl) (by simp)
  have ko0 : ∀ wx, Fr [] w1 wx → wx.cell? ⟨w.heap.size + 1, 0, none⟩ = some (.int .i64 t) := fun wx hf => hf.cell (ho1.cell 0 rfl) (by simp)
  have ko1 : ∀ wx, Fr [] w1 wx → wx.cell? ⟨w.heap.size + 1, 1, none⟩ = some (.int .i64 a) := fun wx hf => hf.cell (ho1.cell 1 rfl) (by simp)
  have ko2 : ∀ wx, Fr [] w1 wx → wx.cell? ⟨w.heap.size + 1, 2, none⟩ = some (.int .i64 q) := fun wx hf => hf.cell (ho1.cell 2 rfl) (by simp)
  refine wp_region_keeps [] [Is (c.val), Is (c.val), Is (.int .i64 (givesV c)), Is (c.val), Is (.int .i64 (givesV c)), Is (.bool true), Is (.bool true), Is (c.val), Is (c.val), Is (.int .i64 n), Is (.int .i64 (sendsV c n)), Is (c.val), Is (.int .i64 n), Is (.int .i64 (sendsV c n)), Is (.bool true), Is (.bool true), Is (.bool true), Is ((oV t a q)), Is ((oV t a q)), Is (.int .i64 (asksV t a q)), Is ((oV t a q)), Is (.int .i64 (asksV t a q)), Is (.bool true), Is (.bool true), Is (.bool true)] (by kernel_rfl) (by kernel_rfl) (by kernel_rfl) (by kernel_rfl) ?hV ?hS ?hD
  case hV =>
    repeat (first | exact trivial | exact Is.keeps _ | exact Any.keeps | exact IsSl.keeps _ _ _ | refine And.intro ?_ ?_)
  case hS =>
    clear hc ho hc1 ho1 f1
    (repeat' (first | exact trivial | refine And.intro ?_ ?_))
    · intro ac wx hf hs hp K hK
      simp only [waits, holdsA, nth, Is, Any, List.filter_cons, List.filter_nil, List.map_cons, List.map_nil, Region.binds, if_true, true_and, and_true, Nat.reduceAdd, List.getElem?_cons_zero, List.getElem?_cons_succ, Option.bind_some, Array.getD_eq_getD_getElem?] at hp
      have hs3 := hs 3 (by kernel_rfl)
      simp only [Array.getD_eq_getD_getElem?, List.getElem?_toArray, List.getElem?_cons_succ, List.getElem?_cons_zero, Option.getD_some] at hs3
      clear hs
      have m0 := kc0 wx hf
      have m1 := kc1 wx hf
      have m2 := kc2 wx hf
      have m3 := kc3 wx hf
      have m4 := kc4 wx hf
      have m5 := kc5 wx hf
      clear hf kc0 kc1 kc2 kc3 kc4 kc5 ko0 ko1 ko2
      (try simp only [hp])
      go_simp
      try dsimp only
      refine hK.out _ _ ?_ ?_
      · ((repeat (first | (with_reducible exact Fr.refl _ _) | (with_reducible assumption) | (with_reducible refine Fr.drew ?_) | (with_reducible refine Fr.drewN ?_ _) | (with_reducible refine Fr.alloc ?_ _) | (with_reducible refine Fr.setL ?_ _ _ _ ?_) | (focus (refine Or.inl ?_; simp; done)) | (focus (refine Or.inr ?_; simp; done)) | (focus (refine Or.inr ?_; simp; omega)) | (focus (refine Or.inr ?_; omega)))); done)
      · simp only [nth]
        first | (unfold Is; rfl) | (unfold Any; exact trivial) | exact IsSl.new _ _ _ _ | assumption
    · intro ac wx hf hs hp K hK
      simp only [waits, holdsA, nth, Is, Any, List.filter_cons, List.filter_nil, List.map_cons, List.map_nil, Region.binds, if_true, true_and, and_true, Nat.reduceAdd, List.getElem?_cons_zero, List.getElem?_cons_succ, Option.bind_some, Array.getD_eq_getD_getElem?] at hp
      clear hs
      (try simp only [hp])
      go_simp
      go_at_call 16
      refine (law19_Config c _).mono ?_
      rintro e w' ⟨rfl, fz⟩
      exact hK.out _ _ fz rfl
    · intro ac wx hf hs hp K hK
      simp only [waits, holdsA, nth, Is, Any, List.filter_cons, List.filter_nil, List.map_cons, List.map_nil, Region.binds, if_true, true_and, and_true, Nat.reduceAdd, List.getElem?_cons_zero, List.getElem?_cons_succ, Option.bind_some, Array.getD_eq_getD_getElem?] at hp
      clear hs
      (try simp only [hp])
      go_simp
      go_at_call 14
      refine (bGives c _).mono ?_
      rintro e w' ⟨rfl, fz⟩
      exact hK.out _ _ fz rfl
    · intro ac wx hf hs hp K hK
      simp only [waits, holdsA, nth, Is, Any, List.filter_cons, List.filter_nil, List.map_cons, List.map_nil, Region.binds, if_true, true_and, and_true, Nat.reduceAdd, List.getElem?_cons_zero, List.getElem?_cons_succ, Option.bind_some, Array.getD_eq_getD_getElem?] at hp
      have hs3 := hs 3 (by kernel_rfl)
      simp only [Array.getD_eq_getD_getElem?, List.getElem?_toArray, List.getElem?_cons_succ, List.getElem?_cons_zero, Option.getD_some] at hs3
      clear hs
      have m0 := kc0 wx hf
      have m1 := kc1 wx hf
      have m2 := kc2 wx hf
      have m3 := kc3 wx hf
      have m4 := kc4 wx hf
      have m5 := kc5 wx hf
      clear hf kc0 kc1 kc2 kc3 kc4 kc5 ko0 ko1 ko2
      (try simp only [hp])
      go_simp
      try dsimp only
      refine hK.out _ _ ?_ ?_
      · ((repeat (first | (with_reducible exact Fr.refl _ _) | (with_reducible assumption) | (with_reducible refine Fr.drew ?_) | (with_reducible refine Fr.drewN ?_ _) | (with_reducible refine Fr.alloc ?_ _) | (with_reducible refine Fr.setL ?_ _ _ _ ?_) | (focus (refine Or.inl ?_; simp; done)) | (focus (refine Or.inr ?_; simp; done)) | (focus (refine Or.inr ?_; simp; omega)) | (focus (refine Or.inr ?_; omega)))); done)
      · simp only [nth]
        first | (unfold Is; rfl) | (unfold Any; exact trivial) | exact IsSl.new _ _ _ _ | assumption
    · intro ac wx hf hs hp K hK
      simp only [waits, holdsA, nth, Is, Any, List.filter_cons, List.filter_nil, List.map_cons, List.map_nil, Region.binds, if_true, true_and, and_true, Nat.reduceAdd, List.getElem?_cons_zero, List.getElem?_cons_succ, Option.bind_some, Array.getD_eq_getD_getElem?] at hp
      clear hs
      (try simp only [hp])
      go_simp
      go_at_call 18
      refine (rGives c _).mono ?_
      rintro e w' ⟨rfl, fz⟩
      exact hK.out _ _ fz rfl
    · intro ac wx hf hs hp K hK
      simp only [waits, holdsA, nth, Is, Any, List.filter_cons, List.filter_nil, List.map_cons, List.map_nil, Region.binds, if_true, true_and, and_true, Nat.reduceAdd, List.getElem?_cons_zero, List.getElem?_cons_succ, Option.bind_some, Array.getD_eq_getD_getElem?] at hp
      clear hs
      clear hf
      (try simp only [hp])
      go_simp
      try dsimp only
      refine hK.out _ _ ?_ ?_
      · ((repeat (first | (with_reducible exact Fr.refl _ _) | (with_reducible assumption) | (with_reducible refine Fr.drew ?_) | (with_reducible refine Fr.drewN ?_ _) | (with_reducible refine Fr.alloc ?_ _) | (with_reducible refine Fr.setL ?_ _ _ _ ?_) | (focus (refine Or.inl ?_; simp; done)) | (focus (refine Or.inr ?_; simp; done)) | (focus (refine Or.inr ?_; simp; omega)) | (focus (refine Or.inr ?_; omega)))); done)
      · simp only [nth]
        first | (unfold Is; rfl) | (unfold Any; exact trivial) | exact IsSl.new _ _ _ _ | assumption
    · intro ac wx hf hs hp K hK
      simp only [waits, holdsA, nth, Is, Any, List.filter_cons, List.filter_nil, List.map_cons, List.map_nil, Region.binds, if_true, true_and, and_true, Nat.reduceAdd, List.getElem?_cons_zero, List.getElem?_cons_succ, Option.bind_some, Array.getD_eq_getD_getElem?] at hp
      clear hs
      clear hf
      (try simp only [hp])
      go_simp
      try dsimp only
      refine hK.out _ _ ?_ ?_
      · ((repeat (first | (with_reducible exact Fr.refl _ _) | (with_reducible assumption) | (with_reducible refine Fr.drew ?_) | (with_reducible refine Fr.drewN ?_ _) | (with_reducible refine Fr.alloc ?_ _) | (with_reducible refine Fr.setL ?_ _ _ _ ?_) | (focus (refine Or.inl ?_; simp; done)) | (focus (refine Or.inr ?_; simp; done)) | (focus (refine Or.inr ?_; simp; omega)) | (focus (refine Or.inr ?_; omega)))); done)
      · simp only [nth]
        first | (unfold Is; rfl) | (unfold Any; exact trivial) | exact IsSl.new _ _ _ _ | assumption
    · intro ac wx hf hs hp K hK
      simp only [waits, holdsA, nth, Is, Any, List.filter_cons, List.filter_nil, List.map_cons, List.map_nil, Region.binds, if_true, true_and, and_true, Nat.reduceAdd, List.getElem?_cons_zero, List.getElem?_cons_succ, Option.bind_some, Array.getD_eq_getD_getElem?] at hp
      have hs3 := hs 3 (by kernel_rfl)
      simp only [Array.getD_eq_getD_getElem?, List.getElem?_toArray, List.getElem?_cons_succ, List.getElem?_cons_zero, Option.getD_some] at hs3
      clear hs
      simp only [getD_bool] at hp
      have m0 := kc0 wx hf
      have m1 := kc1 wx hf
      have m2 := kc2 wx hf
      have m3 := kc3 wx hf
      have m4 := kc4 wx hf
      have m5 := kc5 wx hf
      clear hf kc0 kc1 kc2 kc3 kc4 kc5 ko0 ko1 ko2
      (try simp only [hp])
      go_simp
      try dsimp only
      refine hK.out _ _ ?_ ?_
      · ((repeat (first | (with_reducible exact Fr.refl _ _) | (with_reducible assumption) | (with_reducible refine Fr.drew ?_) | (with_reducible refine Fr.drewN ?_ _) | (with_reducible refine Fr.alloc ?_ _) | (with_reducible refine Fr.setL ?_ _ _ _ ?_) | (focus (refine Or.inl ?_; simp; done)) | (focus (refine Or.inr ?_; simp; done)) | (focus (refine Or.inr ?_; simp; omega)) | (focus (refine Or.inr ?_; omega)))); done)
      · simp only [nth]
        first | (unfold Is; rfl) | (unfold Any; exact trivial) | exact IsSl.new _ _ _ _ | assumption
    · intro ac wx hf hs hp K hK
      simp only [waits, holdsA, nth, Is, Any, List.filter_cons, List.filter_nil, List.map_cons, List.map_nil, Region.binds, if_true, true_and, and_true, Nat.reduceAdd, List.getElem?_cons_zero, List.getElem?_cons_succ, Option.bind_some, Array.getD_eq_getD_getElem?] at hp
      clear hs
      simp only [getD_bool] at hp
      (try simp only [hp])
      go_simp
      go_at_call 16
      refine (law19_Config c _).mono ?_
      rintro e w' ⟨rfl, fz⟩
      exact hK.out _ _ fz rfl
    · intro ac wx hf hs hp K hK
      simp only [waits, holdsA, nth, Is, Any, List.filter_cons, List.filter_nil, List.map_cons, List.map_nil, Region.binds, if_true, true_and, and_true, Nat.reduceAdd, List.getElem?_cons_zero, List.getElem?_cons_succ, Option.bind_some, Array.getD_eq_getD_getElem?] at hp
      have hs2 := hs 2 (by kernel_rfl)
      simp only [Array.getD_eq_getD_getElem?, List.getElem?_toArray, List.getElem?_cons_succ, List.getElem?_cons_zero, Option.getD_some] at hs2
      clear hs
      simp only [getD_bool] at hp
      clear hf
      (try simp only [hp])
      go_simp
      try dsimp only
      refine hK.out _ _ ?_ ?_
      · ((repeat (first | (with_reducible exact Fr.refl _ _) | (with_reducible assumption) | (with_reducible refine Fr.drew ?_) | (with_reducible refine Fr.drewN ?_ _) | (with_reducible refine Fr.alloc ?_ _) | (with_reducible refine Fr.setL ?_ _ _ _ ?_) | (focus (refine Or.inl ?_; simp; done)) | (focus (refine Or.inr ?_; simp; done)) | (focus (refine Or.inr ?_; simp; omega)) | (focus (refine Or.inr ?_; omega)))); done)
      · simp only [nth]
        first | (unfold Is; rfl) | (unfold Any; exact trivial) | exact IsSl.new _ _ _ _ | assumption
    · intro ac wx hf hs hp K hK
      simp only [waits, holdsA, nth, Is, Any, List.filter_cons, List.filter_nil, List.map_cons, List.map_nil, Region.binds, if_true, true_and, and_true, Nat.reduceAdd, List.getElem?_cons_zero, List.getElem?_cons_succ, Option.bind_some, Array.getD_eq_getD_getElem?] at hp
      clear hs
      simp only [getD_bool] at hp
      (try simp only [hp])
      go_simp
      go_at_call 15
      refine (bSends c n _).mono ?_
      rintro e w' ⟨rfl, fz⟩
      exact hK.out _ _ fz rfl
    · intro ac wx hf hs hp K hK
      simp only [waits, holdsA, nth, Is, Any, List.filter_cons, List.filter_nil, List.map_cons, List.map_nil, Region.binds, if_true, true_and, and_true, Nat.reduceAdd, List.getElem?_cons_zero, List.getElem?_cons_succ, Option.bind_some, Array.getD_eq_getD_getElem?] at hp
      have hs3 := hs 3 (by kernel_rfl)
      simp only [Array.getD_eq_getD_getElem?, List.getElem?_toArray, List.getElem?_cons_succ, List.getElem?_cons_zero, Option.getD_some] at hs3
      clear hs
      simp only [getD_bool] at hp
      have m0 := kc0 wx hf
      have m1 := kc1 wx hf
      have m2 := kc2 wx hf
      have m3 := kc3 wx hf
      have m4 := kc4 wx hf
      have m5 := kc5 wx hf
      clear hf kc0 kc1 kc2 kc3 kc4 kc5 ko0 ko1 ko2
      (try simp only [hp])
      go_simp
      try dsimp only
      refine hK.out _ _ ?_ ?_
      · ((repeat (first | (with_reducible exact Fr.refl _ _) | (with_reducible assumption) | (with_reducible refine Fr.drew ?_) | (with_reducible refine Fr.drewN ?_ _) | (with_reducible refine Fr.alloc ?_ _) | (with_reducible refine Fr.setL ?_ _ _ _ ?_) | (focus (refine Or.inl ?_; simp; done)) | (focus (refine Or.inr ?_; simp; done)) | (focus (refine Or.inr ?_; simp; omega)) | (focus (refine Or.inr ?_; omega)))); done)
      · simp only [nth]
        first | (unfold Is; rfl) | (unfold Any; exact trivial) | exact IsSl.new _ _ _ _ | assumption
    · intro ac wx hf hs hp K hK
      simp only [waits, holdsA, nth, Is, Any, List.filter_cons, List.filter_nil, List.map_cons, List.map_nil, Region.binds, if_true, true_and, and_true, Nat.reduceAdd, List.getElem?_cons_zero, List.getElem?_cons_succ, Option.bind_some, Array.getD_eq_getD_getElem?] at hp
      have hs2 := hs 2 (by kernel_rfl)
      simp only [Array.getD_eq_getD_getElem?, List.getElem?_toArray, List.getElem?_cons_succ, List.getElem?_cons_zero, Option.getD_some] at hs2
      clear hs
      simp only [getD_bool] at hp
      clear hf
      (try simp only [hp])
      go_simp
      try dsimp only
      refine hK.out _ _ ?_ ?_
      · ((repeat (first | (with_reducible exact Fr.refl _ _) | (with_reducible assumption) | (with_reducible refine Fr.drew ?_) | (with_reducible refine Fr.drewN ?_ _) | (with_reducible refine Fr.alloc ?_ _) | (with_reducible refine Fr.setL ?_ _ _ _ ?_) | (focus (refine Or.inl ?_; simp; done)) | (focus (refine Or.inr ?_; simp; done)) | (focus (refine Or.inr ?_; simp; omega)) | (focus (refine Or.inr ?_; omega)))); done)
      · simp only [nth]
        first | (unfold Is; rfl) | (unfold Any; exact trivial) | exact IsSl.new _ _ _ _ | assumption
    · intro ac wx hf hs hp K hK
      simp only [waits, holdsA, nth, Is, Any, List.filter_cons, List.filter_nil, List.map_cons, List.map_nil, Region.binds, if_true, true_and, and_true, Nat.reduceAdd, List.getElem?_cons_zero, List.getElem?_cons_succ, Option.bind_some, Array.getD_eq_getD_getElem?] at hp
      clear hs
      simp only [getD_bool] at hp
      (try simp only [hp])
      go_simp
      go_at_call 19
      refine (rSends c n _).mono ?_
      rintro e w' ⟨rfl, fz⟩
      exact hK.out _ _ fz rfl
    · intro ac wx hf hs hp K hK
      simp only [waits, holdsA, nth, Is, Any, List.filter_cons, List.filter_nil, List.map_cons, List.map_nil, Region.binds, if_true, true_and, and_true, Nat.reduceAdd, List.getElem?_cons_zero, List.getElem?_cons_succ, Option.bind_some, Array.getD_eq_getD_getElem?] at hp
      clear hs
      simp only [getD_bool] at hp
      clear hf
      (try simp only [hp])
      go_simp
      try dsimp only
      refine hK.out _ _ ?_ ?_
      · ((repeat (first | (with_reducible exact Fr.refl _ _) | (with_reducible assumption) | (with_reducible refine Fr.drew ?_) | (with_reducible refine Fr.drewN ?_ _) | (with_reducible refine Fr.alloc ?_ _) | (with_reducible refine Fr.setL ?_ _ _ _ ?_) | (focus (refine Or.inl ?_; simp; done)) | (focus (refine Or.inr ?_; simp; done)) | (focus (refine Or.inr ?_; simp; omega)) | (focus (refine Or.inr ?_; omega)))); done)
      · simp only [nth]
        first | (unfold Is; rfl) | (unfold Any; exact trivial) | exact IsSl.new _ _ _ _ | assumption
    · intro ac wx hf hs hp K hK
      simp only [waits, holdsA, nth, Is, Any, List.filter_cons, List.filter_nil, List.map_cons, List.map_nil, Region.binds, if_true, true_and, and_true, Nat.reduceAdd, List.getElem?_cons_zero, List.getElem?_cons_succ, Option.bind_some, Array.getD_eq_getD_getElem?] at hp
      clear hs
      clear hf
      (try simp only [hp])
      go_simp
      try dsimp only
      refine hK.out _ _ ?_ ?_
      · ((repeat (first | (with_reducible exact Fr.refl _ _) | (with_reducible assumption) | (with_reducible refine Fr.drew ?_) | (with_reducible refine Fr.drewN ?_ _) | (with_reducible refine Fr.alloc ?_ _) | (with_reducible refine Fr.setL ?_ _ _ _ ?_) | (focus (refine Or.inl ?_; simp; done)) | (focus (refine Or.inr ?_; simp; done)) | (focus (refine Or.inr ?_; simp; omega)) | (focus (refine Or.inr ?_; omega)))); done)
      · simp only [nth]
        first | (unfold Is; rfl) | (unfold Any; exact trivial) | exact IsSl.new _ _ _ _ | assumption
    · intro ac wx hf hs hp K hK
      simp only [waits, holdsA, nth, Is, Any, List.filter_cons, List.filter_nil, List.map_cons, List.map_nil, Region.binds, if_true, true_and, and_true, Nat.reduceAdd, List.getElem?_cons_zero, List.getElem?_cons_succ, Option.bind_some, Array.getD_eq_getD_getElem?] at hp
      clear hs
      clear hf
      (try simp only [hp])
      go_simp
      try dsimp only
      refine hK.out _ _ ?_ ?_
      · ((repeat (first | (with_reducible exact Fr.refl _ _) | (with_reducible assumption) | (with_reducible refine Fr.drew ?_) | (with_reducible refine Fr.drewN ?_ _) | (with_reducible refine Fr.alloc ?_ _) | (with_reducible refine Fr.setL ?_ _ _ _ ?_) | (focus (refine Or.inl ?_; simp; done)) | (focus (refine Or.inr ?_; simp; done)) | (focus (refine Or.inr ?_; simp; omega)) | (focus (refine Or.inr ?_; omega)))); done)
      · simp only [nth]
        first | (unfold Is; rfl) | (unfold Any; exact trivial) | exact IsSl.new _ _ _ _ | assumption
    · intro ac wx hf hs hp K hK
      simp only [waits, holdsA, nth, Is, Any, List.filter_cons, List.filter_nil, List.map_cons, List.map_nil, Region.binds, if_true, true_and, and_true, Nat.reduceAdd, List.getElem?_cons_zero, List.getElem?_cons_succ, Option.bind_some, Array.getD_eq_getD_getElem?] at hp
      have hs4 := hs 4 (by kernel_rfl)
      simp only [Array.getD_eq_getD_getElem?, List.getElem?_toArray, List.getElem?_cons_succ, List.getElem?_cons_zero, Option.getD_some] at hs4
      clear hs
      simp only [getD_bool] at hp
      have m0 := ko0 wx hf
      have m1 := ko1 wx hf
      have m2 := ko2 wx hf
      clear hf kc0 kc1 kc2 kc3 kc4 kc5 ko0 ko1 ko2
      (try simp only [hp])
      go_simp
      try dsimp only
      refine hK.out _ _ ?_ ?_
      · ((repeat (first | (with_reducible exact Fr.refl _ _) | (with_reducible assumption) | (with_reducible refine Fr.drew ?_) | (with_reducible refine Fr.drewN ?_ _) | (with_reducible refine Fr.alloc ?_ _) | (with_reducible refine Fr.setL ?_ _ _ _ ?_) | (focus (refine Or.inl ?_; simp; done)) | (focus (refine Or.inr ?_; simp; done)) | (focus (refine Or.inr ?_; simp; omega)) | (focus (refine Or.inr ?_; omega)))); done)
      · simp only [nth]
        first | (unfold Is; rfl) | (unfold Any; exact trivial) | exact IsSl.new _ _ _ _ | assumption
    · intro ac wx hf hs hp K hK
      simp only [waits, holdsA, nth, Is, Any, List.filter_cons, List.filter_nil, List.map_cons, List.map_nil, Region.binds, if_true, true_and, and_true, Nat.reduceAdd, List.getElem?_cons_zero, List.getElem?_cons_succ, Option.bind_some, Array.getD_eq_getD_getElem?] at hp
      clear hs
      simp only [getD_bool] at hp
      (try simp only [hp])
      go_simp
      go_at_call 9
      refine (law21_Config t a q _).mono ?_
      rintro e w' ⟨rfl, fz⟩
      exact hK.out _ _ fz rfl
    · intro ac wx hf hs hp K hK
      simp only [waits, holdsA, nth, Is, Any, List.filter_cons, List.filter_nil, List.map_cons, List.map_nil, Region.binds, if_true, true_and, and_true, Nat.reduceAdd, List.getElem?_cons_zero, List.getElem?_cons_succ, Option.bind_some, Array.getD_eq_getD_getElem?] at hp
      clear hs
      simp only [getD_bool] at hp
      (try simp only [hp])
      go_simp
      go_at_call 10
      refine (bAsks t a q _).mono ?_
      rintro e w' ⟨rfl, fz⟩
      exact hK.out _ _ fz rfl
    · intro ac wx hf hs hp K hK
      simp only [waits, holdsA, nth, Is, Any, List.filter_cons, List.filter_nil, List.map_cons, List.map_nil, Region.binds, if_true, true_and, and_true, Nat.reduceAdd, List.getElem?_cons_zero, List.getElem?_cons_succ, Option.bind_some, Array.getD_eq_getD_getElem?] at hp
      have hs4 := hs 4 (by kernel_rfl)
      simp only [Array.getD_eq_getD_getElem?, List.getElem?_toArray, List.getElem?_cons_succ, List.getElem?_cons_zero, Option.getD_some] at hs4
      clear hs
      simp only [getD_bool] at hp
      have m0 := ko0 wx hf
      have m1 := ko1 wx hf
      have m2 := ko2 wx hf
      clear hf kc0 kc1 kc2 kc3 kc4 kc5 ko0 ko1 ko2
      (try simp only [hp])
      go_simp
      try dsimp only
      refine hK.out _ _ ?_ ?_
      · ((repeat (first | (with_reducible exact Fr.refl _ _) | (with_reducible assumption) | (with_reducible refine Fr.drew ?_) | (with_reducible refine Fr.drewN ?_ _) | (with_reducible refine Fr.alloc ?_ _) | (with_reducible refine Fr.setL ?_ _ _ _ ?_) | (focus (refine Or.inl ?_; simp; done)) | (focus (refine Or.inr ?_; simp; done)) | (focus (refine Or.inr ?_; simp; omega)) | (focus (refine Or.inr ?_; omega)))); done)
      · simp only [nth]
        first | (unfold Is; rfl) | (unfold Any; exact trivial) | exact IsSl.new _ _ _ _ | assumption
    · intro ac wx hf hs hp K hK
      simp only [waits, holdsA, nth, Is, Any, List.filter_cons, List.filter_nil, List.map_cons, List.map_nil, Region.binds, if_true, true_and, and_true, Nat.reduceAdd, List.getElem?_cons_zero, List.getElem?_cons_succ, Option.bind_some, Array.getD_eq_getD_getElem?] at hp
      clear hs
      simp only [getD_bool] at hp
      (try simp only [hp])
      go_simp
      go_at_call 20
      refine (rAsks t a q _).mono ?_
      rintro e w' ⟨rfl, fz⟩
      exact hK.out _ _ fz rfl
    · intro ac wx hf hs hp K hK
      simp only [waits, holdsA, nth, Is, Any, List.filter_cons, List.filter_nil, List.map_cons, List.map_nil, Region.binds, if_true, true_and, and_true, Nat.reduceAdd, List.getElem?_cons_zero, List.getElem?_cons_succ, Option.bind_some, Array.getD_eq_getD_getElem?] at hp
      clear hs
      simp only [getD_bool] at hp
      clear hf
      (try simp only [hp])
      go_simp
      try dsimp only
      refine hK.out _ _ ?_ ?_
      · ((repeat (first | (with_reducible exact Fr.refl _ _) | (with_reducible assumption) | (with_reducible refine Fr.drew ?_) | (with_reducible refine Fr.drewN ?_ _) | (with_reducible refine Fr.alloc ?_ _) | (with_reducible refine Fr.setL ?_ _ _ _ ?_) | (focus (refine Or.inl ?_; simp; done)) | (focus (refine Or.inr ?_; simp; done)) | (focus (refine Or.inr ?_; simp; omega)) | (focus (refine Or.inr ?_; omega)))); done)
      · simp only [nth]
        first | (unfold Is; rfl) | (unfold Any; exact trivial) | exact IsSl.new _ _ _ _ | assumption
    · intro ac wx hf hs hp K hK
      simp only [waits, holdsA, nth, Is, Any, List.filter_cons, List.filter_nil, List.map_cons, List.map_nil, Region.binds, if_true, true_and, and_true, Nat.reduceAdd, List.getElem?_cons_zero, List.getElem?_cons_succ, Option.bind_some, Array.getD_eq_getD_getElem?] at hp
      clear hs
      clear hf
      (try simp only [hp])
      go_simp
      try dsimp only
      refine hK.out _ _ ?_ ?_
      · ((repeat (first | (with_reducible exact Fr.refl _ _) | (with_reducible assumption) | (with_reducible refine Fr.drew ?_) | (with_reducible refine Fr.drewN ?_ _) | (with_reducible refine Fr.alloc ?_ _) | (with_reducible refine Fr.setL ?_ _ _ _ ?_) | (focus (refine Or.inl ?_; simp; done)) | (focus (refine Or.inr ?_; simp; done)) | (focus (refine Or.inr ?_; simp; omega)) | (focus (refine Or.inr ?_; omega)))); done)
      · simp only [nth]
        first | (unfold Is; rfl) | (unfold Any; exact trivial) | exact IsSl.new _ _ _ _ | assumption
    · intro ac wx hf hs hp K hK
      simp only [waits, holdsA, nth, Is, Any, List.filter_cons, List.filter_nil, List.map_cons, List.map_nil, Region.binds, if_true, true_and, and_true, Nat.reduceAdd, List.getElem?_cons_zero, List.getElem?_cons_succ, Option.bind_some, Array.getD_eq_getD_getElem?] at hp
      clear hs
      clear hf
      (try simp only [hp])
      go_simp
      try dsimp only
      refine hK.out _ _ ?_ ?_
      · ((repeat (first | (with_reducible exact Fr.refl _ _) | (with_reducible assumption) | (with_reducible refine Fr.drew ?_) | (with_reducible refine Fr.drewN ?_ _) | (with_reducible refine Fr.alloc ?_ _) | (with_reducible refine Fr.setL ?_ _ _ _ ?_) | (focus (refine Or.inl ?_; simp; done)) | (focus (refine Or.inr ?_; simp; done)) | (focus (refine Or.inr ?_; simp; omega)) | (focus (refine Or.inr ?_; omega)))); done)
      · simp only [nth]
        first | (unfold Is; rfl) | (unfold Any; exact trivial) | exact IsSl.new _ _ _ _ | assumption
  case hD =>
    intro x wx hf hp
    simp only [fill, List.setIfInBounds_toArray, List.set_cons_zero, List.set_cons_succ, Nat.reduceAdd, Act.put]
    simp only [List.length_cons, List.length_nil, Nat.reduceAdd, List.range_eq_range', List.range'_succ, List.range'_zero, Nat.zero_add, Nat.add_zero, holds, nth, Is, Any, true_and, and_true] at hp
    simp only [hp]
    go_wp2
    go_ret
    exact ⟨rfl, ((((Fr.refl _ _).alloc _).alloc _).tr f1).tr hf⟩
theorem walk_BoundNumbers (w : World) (x0 x1 x2 x3 x4 x5 : Int) (h0 : (Lit.int .i64 x0).wf = true) (h1 : (Lit.int .i64 x1).wf = true) (h2 : (Lit.int .i64 x2).wf = true) (h3 : (Lit.int .i64 x3).wf = true) (h4 : (Lit.int .i64 x4).wf = true) (h5 : (Lit.int .i64 x5).wf = true) (t a q : Int) (ht : (Lit.int .i64 t).wf = true) (ha : (Lit.int .i64 a).wf = true) (hq : (Lit.int .i64 q).wf = true) (n : Int) (hn : (Lit.int .i64 n).wf = true) : Calls Try.prog 5 #[.agg #[.int .i64 x0, .int .i64 x1, .int .i64 x2, .int .i64 x3, .int .i64 x4, .int .i64 x5], .agg #[.int .i64 t, .int .i64 a, .int .i64 q], .int .i64 n] w fun e w' => e = .returned (.bool true) ∧ Fr [] w w' := law_BoundNumbers ⟨x0, x1, x2, x3, x4, x5⟩ t a q n w
end Go.Proofs.Ytaefahbgeokopaa
