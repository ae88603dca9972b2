
/- Who is asked what it can. -/
import Derived.Test.YtgmpikaibeenmaaPlainO
import Derived.Test.YtgmpikaibeenmaaSapsQ
namespace Go.Proofs.Ytgmpikaibeenmaa
open Go.RowKit Go.Shelf Go.ChangeMaps
set_option linter.unusedVariables false
set_option linter.unusedSimpArgs false
set_option maxRecDepth 100000

theorem band127 {z : Int} (h0 : 0 ≤ z) (h1 : z ≤ 255) : bits .and .i64 z 127 = z % 128 := by
  have h := bits_mask .i64 63 (by decide) (fun n h0 h1 => IntWalk.i64_in n (by omega)) 7 (by decide) z h0 (by omega)
  simpa using h
theorem band127u {z : Int} (h0 : 0 ≤ z) (h1 : z ≤ 255) : bits .and .u8 z 127 = z % 128 := by
  have h := bits_mask .u8 8 (by decide) (fun n h0 h1 => by simp [IntKind.wrap, IntKind.signed, IntKind.bits]; omega) 7 (by decide) z h0 (by omega)
  simpa using h
theorem may_xid (to W : Int) (h0 : 0 ≤ to) (h1 : to ≤ 255) (hW0 : 0 ≤ W) (hW : W ≤ 127) : mayB ⟨to, 2, false, 2, 1, 0, 0, true, [129, 7, 2 * W]⟩ = true := by
  simp [mayB, kindB, within, odd]
  omega

theorem hs_el {m : List AE} (h : Inv m) {to x : Int} (hx : x ∈ hsOf m to true) : (x = 0 ∧ canM (clsA m x) = 7) ∨ (x ≠ 0 ∧ 1 ≤ clsA m x ∧ clsA m x ≤ 4) := by
  unfold hsOf at hx
  rcases List.mem_append.1 hx with hx | hx
  · left
    have hx0 : x = 0 := by
      split at hx
      · simpa using hx
      · simp at hx
    refine ⟨hx0, ?_⟩
    have h0 : clsA m x = 0 := by
      unfold clsA
      cases hlk : lookA m x with
      | none => rfl
      | some y =>
        have hk : y.k = x := by simpa using List.find?_some hlk
        have hy := (h.ga y (List.mem_of_find?_eq_some hlk)).1
        rw [hk, hx0] at hy
        exact absurd hy (by decide)
    rw [h0]; decide
  · right
    have hc := hear_cls h hx
    refine ⟨fun e => ?_, hc⟩
    obtain ⟨y, hy, _, hk⟩ := mem_hear.1 hx
    have hs := (h.ga y hy).1
    rw [hk, e] at hs
    exact absurd hs (by decide)
def TupF (l : List PD) : World → Value → Prop := fun w v => ∃ st : Sl, v = .tuple #[.slice none 0 0, .slice st.A st.n st.c] ∧ PRow 0 0 st l w
theorem TupF.keeps {l : List PD} : Keeps [] (TupF l) := fun _ _ _ f ⟨s, e, h⟩ => ⟨s, e, PRow.fr f h⟩
set_option maxHeartbeats 4000000 in
theorem walk_PlainXid0 (w : World) (A : Option Addr) (n cap : Nat) (g : Nat → Nat → Int) (hm : n ≤ 9223372036854775807) (ha : ArgRec [.i64, .i64, .i64] w A n g) (to : Int) (hto : (Lit.int .u8 to).wf = true) (wi : Int) (hwi : (Lit.int .u8 wi).wf = true) (HT0 : Hid (to = 0)) :
    Calls Try.prog 7 #[.slice A n cap, .int .u8 to, .int .u8 wi] w fun e w' => e = .returned (.bool true) ∧ Fr [] w w' := by
  have ht := wf_u8 hto
  have hv := wf_u8 hwi
  clear hto hwi
  by_cases hl : 100 < n
  · have d1 : decide ((100 : Int) < (n : Int)) = true := by simp; omega
    go_enter Try.func7, Try.ntmps7
    go_wp2_with fail
    refine (plain_awake _).mono ?_
    rintro e w1 ⟨rfl, f1⟩
    go_wp2
    go_ret
    exact ⟨rfl, f1⟩
  · have d1 : decide ((100 : Int) < (n : Int)) = false := by simp; omega
    have hb1 := band127 hv.1 hv.2
    have hb2 := band127u hv.1 hv.2
    have hto' : IntKind.i64.wrap to = to := IntWalk.i64_in _ (by omega)
    have hwi' : IntKind.i64.wrap wi = wi := IntWalk.i64_in _ (by omega)
    obtain ⟨W, hW⟩ : ∃ W, wi % 128 = W := ⟨_, rfl⟩
    have hW0 : 0 ≤ W := by omega
    have hW1 : W ≤ 127 := by omega
    rw [hW] at hb1 hb2
    have hmay := may_xid to W ht.1 ht.2 hW0 hW1
    have hx := xidP_ok (fr := 2) (to := to) (n := W) (by decide) (by omega) (by omega) (by omega) (by omega)
    have hm2 : IntKind.u8.wrap (2 * W) = 2 * W := by simp [IntKind.wrap, IntKind.signed, IntKind.bits]; omega
    have HMAY := Lib.hid hmay
    have HX := Lib.hid hx
    clear hW hmay hx
    go_enter Try.func7, Try.ntmps7
    go_wp2_with fail
    refine (plain_awake _).mono ?_
    rintro e w1 ⟨rfl, f1⟩
    go_wp2_with fail
    refine (plain_deeds w1 A n cap g (by omega) (ha.fr f1)).mono ?_
    rintro e w2 ⟨p, q, m, rfl, s, R, hB⟩
    go_wp2_with fail
    refine (plain_AskXid 2 to W 0 _ (Nat.zero_le _)).mono ?_
    rw [HX.out]
    rintro e w3 ⟨sq, rfl, hQ, f3⟩
    simp only [cmdP] at hQ ⊢
    have hB3 := hB.on f3
    clear hB f3
    go_wp2
    obtain ⟨L, hL⟩ : ∃ L, ((hsOf m to true).map fun n => ansP ⟨to, 2, false, 2, 1, 0, 0, true, [129, 7, 2 * W]⟩ n (clsA m n)) = L := ⟨_, rfl⟩
    have HL := Lib.hid hL
    clear hL
    have hI := hB3.at_.inv hB3.ga
    have hml := hI.small
    have HI := Lib.hid hI
    clear hI
    have hb4 := Blk.new w3 (PD.arr ⟨to, 2, false, 2, 1, 0, 0, true, [129, 7, 2 * W]⟩ sq) 29
    have hB4 := hB3.on ((Fr.refl [] w3).alloc (.cells (PD.arr ⟨to, 2, false, 2, 1, 0, 0, true, [129, 7, 2 * W]⟩ sq) 29))
    have hQ4 := hQ.fr ((Fr.refl [] w3).alloc (.cells (PD.arr ⟨to, 2, false, 2, 1, 0, 0, true, [129, 7, 2 * W]⟩ sq) 29))
    clear hB3 hQ
    generalize w3.alloc (.cells (PD.arr ⟨to, 2, false, 2, 1, 0, 0, true, [129, 7, 2 * W]⟩ sq) 29) = w4 at *
    generalize w3.heap.size = B9 at *
    have k0 : ∀ wx, Fr [] w4 wx → wx.cell? ⟨B9, 0, none⟩ = some (.int .i64 to) := fun wx hf => hf.cell (hb4.cell 0 rfl) (by simp)
    have k1 : ∀ wx, Fr [] w4 wx → wx.cell? ⟨B9, 1, none⟩ = some (.int .i64 2) := fun wx hf => hf.cell (hb4.cell 1 rfl) (by simp)
    have k2 : ∀ wx, Fr [] w4 wx → wx.cell? ⟨B9, 2, none⟩ = some (.bool false) := fun wx hf => hf.cell (hb4.cell 2 rfl) (by simp)
    have k3 : ∀ wx, Fr [] w4 wx → wx.cell? ⟨B9, 3, none⟩ = some (.int .i64 2) := fun wx hf => hf.cell (hb4.cell 3 rfl) (by simp)
    have k4 : ∀ wx, Fr [] w4 wx → wx.cell? ⟨B9, 4, none⟩ = some (.int .i64 1) := fun wx hf => hf.cell (hb4.cell 4 rfl) (by simp)
    have k5 : ∀ wx, Fr [] w4 wx → wx.cell? ⟨B9, 5, none⟩ = some (.int .i64 0) := fun wx hf => hf.cell (hb4.cell 5 rfl) (by simp)
    have k6 : ∀ wx, Fr [] w4 wx → wx.cell? ⟨B9, 6, none⟩ = some (.int .i64 0) := fun wx hf => hf.cell (hb4.cell 6 rfl) (by simp)
    have k7 : ∀ wx, Fr [] w4 wx → wx.cell? ⟨B9, 7, none⟩ = some (.bool true) := fun wx hf => hf.cell (hb4.cell 7 rfl) (by simp)
    have k8 : ∀ wx, Fr [] w4 wx → wx.cell? ⟨B9, 8, none⟩ = some (.slice sq.A sq.n sq.c) := fun wx hf => hf.cell (hb4.cell 8 rfl) (by simp)
    refine wp_region_keepsC [] [false, false, false, false, false, false, false, false, false] [none, none, none, some 9, some 9, none, some 9, none, some 9] (fun _ => True) [Is (.pointer (some ⟨p, 0, none⟩)), Is (.agg #[.int .u8 2, .int .u8 0, .int .u8 0, .int .u8 0, .int .u8 0, .int .u8 1]), Is (.agg #[.int .i64 to, .int .i64 2, .bool false, .int .i64 2, .int .i64 1, .int .i64 0, .int .i64 0, .bool true, .slice sq.A sq.n sq.c]), (TupF L), (TupF L), Is (.slice none 0 0), (RowF (fun s l w => PRow 0 0 s l w) L), Is (.slice none 0 0), (RowF (fun s l w => PRow 0 0 s l w) L)] 9 (by kernel_rfl) (by kernel_rfl) (by kernel_rfl) (by kernel_rfl) (by kernel_rfl) (by kernel_rfl) (by kernel_rfl) (by kernel_rfl) ?hV (fun _ _ _ h => h) trivial ?hS ?hD
    case hV =>
      repeat (first | exact trivial | exact Is.keepsN _ | exact Any.keepsN | exact TupF.keeps | exact RowF.keeps (fun _ _ _ f h => PRow.fr f h) | refine And.intro ?_ ?_)
    case hS =>
      (repeat' (first | exact trivial | refine And.intro ?_ ?_))
      · intro ac wx hf hbs hs hp K hK
        simp only [waits, holdsA, nth, Is, Any, List.filter_cons, List.filter_nil, List.map_cons, List.map_nil, Region.binds, if_true, true_and, and_true, Nat.reduceAdd, List.getElem?_cons_zero, List.getElem?_cons_succ, Option.bind_some, Array.getD_eq_getD_getElem?] at hp
        have hs7 := hs 7 (by kernel_rfl)
        simp only [Array.getD_eq_getD_getElem?, List.getElem?_toArray, List.getElem?_cons_succ, List.getElem?_cons_zero, Option.getD_some] at hs7
        clear hs
        clear hbs
        clear hp
        clear hf
        go_simp
        try dsimp only
        refine hK.out _ _ ?_ ?_
        · change Fr [] _ _
          ((repeat (first | (with_reducible exact Fr.refl _ _) | (with_reducible assumption) | (with_reducible refine Fr.drew ?_) | (with_reducible refine Fr.drewN ?_ _) | (with_reducible refine Fr.alloc ?_ _) | (with_reducible refine Fr.setL ?_ _ _ _ ?_) | (focus (refine Or.inl ?_; simp; done)) | (focus (refine Or.inr ?_; simp; done)) | (focus (refine Or.inr ?_; simp; omega)) | (focus (refine Or.inr ?_; omega)))); done)
        · simp only [nth]
          first | (unfold Is; rfl) | (unfold Any; exact trivial) | exact IsSl.new _ _ _ _ | assumption
      · intro ac wx hf hbs hs hp K hK
        simp only [waits, holdsA, nth, Is, Any, List.filter_cons, List.filter_nil, List.map_cons, List.map_nil, Region.binds, if_true, true_and, and_true, Nat.reduceAdd, List.getElem?_cons_zero, List.getElem?_cons_succ, Option.bind_some, Array.getD_eq_getD_getElem?] at hp
        clear hs
        clear hbs
        clear hp
        go_simp
        go_at_call 22
        refine (r_Station 1 (by decide) (by decide) _).mono ?_
        rintro e w' ⟨rfl, fz⟩
        exact hK.out _ _ fz rfl
      · intro ac wx hf hbs hs hp K hK
        simp only [waits, holdsA, nth, Is, Any, List.filter_cons, List.filter_nil, List.map_cons, List.map_nil, Region.binds, if_true, true_and, and_true, Nat.reduceAdd, List.getElem?_cons_zero, List.getElem?_cons_succ, Option.bind_some, Array.getD_eq_getD_getElem?] at hp
        have hs9 := hs 9 (by kernel_rfl)
        simp only [Array.getD_eq_getD_getElem?, List.getElem?_toArray, List.getElem?_cons_succ, List.getElem?_cons_zero, Option.getD_some] at hs9
        clear hs
        clear hbs
        clear hp
        have cx0 := k0 wx hf
        have cx1 := k1 wx hf
        have cx2 := k2 wx hf
        have cx3 := k3 wx hf
        have cx4 := k4 wx hf
        have cx5 := k5 wx hf
        have cx6 := k6 wx hf
        have cx7 := k7 wx hf
        have cx8 := k8 wx hf
        clear hf
        go_simp
        try dsimp only
        refine hK.out _ _ ?_ ?_
        · change Fr [] _ _
          ((repeat (first | (with_reducible exact Fr.refl _ _) | (with_reducible assumption) | (with_reducible refine Fr.drew ?_) | (with_reducible refine Fr.drewN ?_ _) | (with_reducible refine Fr.alloc ?_ _) | (with_reducible refine Fr.setL ?_ _ _ _ ?_) | (focus (refine Or.inl ?_; simp; done)) | (focus (refine Or.inr ?_; simp; done)) | (focus (refine Or.inr ?_; simp; omega)) | (focus (refine Or.inr ?_; omega)))); done)
        · simp only [nth]
          first | (unfold Is; rfl) | (unfold Any; exact trivial) | exact IsSl.new _ _ _ _ | assumption
      · intro ac wx hf hbs hs hp K hK
        simp only [waits, holdsA, nth, Is, Any, List.filter_cons, List.filter_nil, List.map_cons, List.map_nil, Region.binds, if_true, true_and, and_true, Nat.reduceAdd, List.getElem?_cons_zero, List.getElem?_cons_succ, Option.bind_some, Array.getD_eq_getD_getElem?] at hp
        clear hs
        clear hbs
        obtain ⟨h0, h1, h2, h1_2⟩ := hp
        have hax := hB4.at_.on hf
        have hqx := hQ4.fr hf
        clear hf
        (try simp only [h0, h1, h2])
        go_simp
        go_at_call 12
        refine (hear_x w1 _ p m ⟨to, 2, false, 2, 1, 0, 0, true, [129, 7, 2 * W]⟩ sq ⟨2, 0, 0, 0, 0, 1⟩ 0 hax hqx (Nat.zero_le _) HMAY.out rfl (.inl rfl) rfl (by simp) hml (by simp)).mono ?_
        rintro e w' ⟨st, rfl, hR, hA, fz⟩
        refine hK.out _ _ fz ?_
        simp only [nth]
        obtain ⟨xs, ho, hr2⟩ := hR
        exact ⟨st, rfl, by rw [HL.out] at ho hr2; exact ⟨xs, own_low ho (Nat.zero_le _), hr2⟩⟩
      · intro ac wx hf hbs hs hp K hK
        simp only [waits, holdsA, nth, Is, Any, List.filter_cons, List.filter_nil, List.map_cons, List.map_nil, Region.binds, if_true, true_and, and_true, Nat.reduceAdd, List.getElem?_cons_zero, List.getElem?_cons_succ, Option.bind_some, Array.getD_eq_getD_getElem?] at hp
        clear hs
        clear hbs
        have h3 := hp
        clear hp
        obtain ⟨st, e3, hr⟩ := h3
        clear hf
        (try simp only [e3])
        go_simp
        refine hK.out _ _ ?_ ?_
        · change Fr [] _ _
          exact Fr.refl _ _
        · simp only [nth]
          exact ⟨st, rfl, hr⟩
      · intro ac wx hf hbs hs hp K hK
        simp only [waits, holdsA, nth, Is, Any, List.filter_cons, List.filter_nil, List.map_cons, List.map_nil, Region.binds, if_true, true_and, and_true, Nat.reduceAdd, List.getElem?_cons_zero, List.getElem?_cons_succ, Option.bind_some, Array.getD_eq_getD_getElem?] at hp
        clear hs
        clear hbs
        have h4 := hp
        clear hp
        obtain ⟨st, e4, hr⟩ := h4
        clear hf
        (try simp only [e4])
        go_simp
        try dsimp only
        refine hK.out _ _ ?_ ?_
        · change Fr [] _ _
          ((repeat (first | (with_reducible exact Fr.refl _ _) | (with_reducible assumption) | (with_reducible refine Fr.drew ?_) | (with_reducible refine Fr.drewN ?_ _) | (with_reducible refine Fr.alloc ?_ _) | (with_reducible refine Fr.setL ?_ _ _ _ ?_) | (focus (refine Or.inl ?_; simp; done)) | (focus (refine Or.inr ?_; simp; done)) | (focus (refine Or.inr ?_; simp; omega)) | (focus (refine Or.inr ?_; omega)))); done)
        · simp only [nth]
          first | (unfold Is; rfl) | (unfold Any; exact trivial) | exact IsSl.new _ _ _ _ | assumption
      · intro ac wx hf hbs hs hp K hK
        simp only [waits, holdsA, nth, Is, Any, List.filter_cons, List.filter_nil, List.map_cons, List.map_nil, Region.binds, if_true, true_and, and_true, Nat.reduceAdd, List.getElem?_cons_zero, List.getElem?_cons_succ, Option.bind_some, Array.getD_eq_getD_getElem?] at hp
        clear hs
        clear hbs
        obtain ⟨h4, h7⟩ := hp
        obtain ⟨st, e4, hr⟩ := h4
        clear hf
        (try simp only [e4])
        go_simp
        refine hK.out _ _ ?_ ?_
        · change Fr [] _ _
          exact Fr.refl _ _
        · simp only [nth]
          exact ⟨st, rfl, hr⟩
      · intro ac wx hf hbs hs hp K hK
        simp only [waits, holdsA, nth, Is, Any, List.filter_cons, List.filter_nil, List.map_cons, List.map_nil, Region.binds, if_true, true_and, and_true, Nat.reduceAdd, List.getElem?_cons_zero, List.getElem?_cons_succ, Option.bind_some, Array.getD_eq_getD_getElem?] at hp
        clear hs
        clear hbs
        obtain ⟨h5, h3, h0, h1, h2, h3_2, h4, h5_2, h6⟩ := hp
        clear hf
        (try simp only [h5, h0, h1, h2])
        go_simp
        try dsimp only
        refine hK.out _ _ ?_ ?_
        · change Fr [] _ _
          ((repeat (first | (with_reducible exact Fr.refl _ _) | (with_reducible assumption) | (with_reducible refine Fr.drew ?_) | (with_reducible refine Fr.drewN ?_ _) | (with_reducible refine Fr.alloc ?_ _) | (with_reducible refine Fr.setL ?_ _ _ _ ?_) | (focus (refine Or.inl ?_; simp; done)) | (focus (refine Or.inr ?_; simp; done)) | (focus (refine Or.inr ?_; simp; omega)) | (focus (refine Or.inr ?_; omega)))); done)
        · simp only [nth]
          first | (unfold Is; rfl) | (unfold Any; exact trivial) | exact IsSl.new _ _ _ _ | assumption
      · intro ac wx hf hbs hs hp K hK
        simp only [waits, holdsA, nth, Is, Any, List.filter_cons, List.filter_nil, List.map_cons, List.map_nil, Region.binds, if_true, true_and, and_true, Nat.reduceAdd, List.getElem?_cons_zero, List.getElem?_cons_succ, Option.bind_some, Array.getD_eq_getD_getElem?] at hp
        clear hs
        clear hbs
        obtain ⟨h6, h7, h0, h1, h2, h3, h4, h5, h6_2, h7_2⟩ := hp
        obtain ⟨st, e6, hr⟩ := h6
        clear hf
        (try simp only [e6])
        go_simp
        refine hK.out _ _ ?_ ?_
        · change Fr [] _ _
          exact Fr.refl _ _
        · simp only [nth]
          exact ⟨st, rfl, hr⟩
    case hD =>
      intro xv wx hf hp
      simp only [List.take_succ_cons, List.take_zero, List.drop_succ_cons, List.drop_zero, fill, List.setIfInBounds_toArray, List.set_cons_zero, List.set_cons_succ, Nat.reduceAdd, Act.put]
      rw [show live 9 (deadC [none, none, none, some 9, some 9, none, some 9, none, some 9]) = [0, 1, 2, 3, 4, 5, 6, 7, 8] from by decide] at hp
      simp only [holds, nth, Is, Any, true_and, and_true] at hp
      obtain ⟨p0, p1, p2, p3, p4, p5, p6, p7, p8⟩ := hp
      obtain ⟨st, e8, hr8⟩ := p8
      have hB5 := hB4.on hf
      have hb5 := hb4.fr hf (by simp)
      have hQ5 := hQ4.fr hf
      simp only [p7, e8]
      clear p0 p1 p2 p3 p4 p5 p6 p7 e8 hB4 hb4 hQ4 k0 k1 k2 k3 k4 k5 k6 k7 k8 hf
      go_wp2_with fail
      refine (r_Hears wx q s R to hB5.isR (by have := hB5.lenR; omega) (fun x hx => by have := hB5.lenG x hx; omega)).mono ?_
      rintro e w6 ⟨sh, rfl, hown, f6⟩
      rw [hB5.rel.hear to] at hown
      have hB6 := hB5.on f6
      have hr6 := PRow.fr f6 hr8
      have hb6 := hb5.fr f6 (by simp)
      have hQ6 := hQ5.fr f6
      have hgw := hear_wf hB6.ga to
      have hsrc := Ints.ofOwn hown hgw
      have hown0 := World.ownsRow_lit (base := w6.heap.size) (e := 3) (size := 1) w6 #[.int .i64 0] 1 (Nat.le_refl _) (by decide) rfl
      clear hB5 hb5 hQ5 f6 hr8
      have hle := hear_le (m := m) to
      obtain ⟨ji, j0, j1, j2, j3⟩ := info_parts (show (Try.prog.info? 3).map (fun i => (i.zero, i.size, i.bytes)) = some (some (.int .i64 0), 1, 8) by kernel_rfl)
      have ju : Try.prog.underlying 53 = some (.slice 3) := Try.underlying53
      obtain ⟨H, hH⟩ : ∃ H, hsOf m to true = H := ⟨_, rfl⟩
      have hel : ∀ x ∈ H, (x = 0 ∧ canM (clsA m x) = 7) ∨ (x ≠ 0 ∧ 1 ≤ clsA m x ∧ clsA m x ≤ 4) := by
        intro x hx
        rw [← hH] at hx
        exact hs_el HI.out hx
      have HH := Lib.hid hH
      have HEL := Lib.hid hel
      clear hH hel
      · have ht0 := HT0.out
        have e1 : (to == 0) = true := by simp [ht0]
        have HHE : hsOf m to true = 0 :: hearA m to := by unfold hsOf; rw [if_pos ⟨rfl, .inl ht0⟩]; rfl
        clear ht0
        go_wp2_with (at_builtin; refine wpList_append_src rfl _ _ 53 rfl (w6.heap.size) 3 ji (.int .i64 0) 1 8 ju j0 j1 j2 j3 rfl (by decide) _ 1 _ rfl (hown0) _ (hearA m to).length ((hearA m to).map (Value.int .i64)) rfl (Src.ints (hsrc.fr ((Fr.refl [] w6).alloc _))) (by simp) (ints_one) (by unfold maxLen; omega) (by omega) (by simp) ?_)
        intro v' w7 hown7 hgrow7
        have f7 : Fr [] w6 w7 := ((Fr.refl [] w6).alloc (.cells #[.int .i64 0] 3)).grown hgrow7 (fun k hk => .inr (World.ownsRow.lt hown0 k hk).1)
        obtain ⟨s13, rfl⟩ := own_sl' hown7
        have hI13 : Ints .i64 w7 s13.v H := by rw [← HH.out, HHE]; exact Ints.ofOwn (by rw [show (0 :: hearA m to).length = 1 + (hearA m to).length by simp; omega]; exact hown7) (by intro y hy; rcases List.mem_cons.1 hy with rfl | hy; decide; exact hgw y hy)
        have hB7 := hB6.on f7
        have hr7 := PRow.fr f7 hr6
        have hb7 := hb6.fr f7 (by simp)
        have hQ7 := hQ6.fr f7
        clear hown7 hgrow7 hown0 hsrc hgw hB6 hr6 hb6 hQ6 f7 hown
        have hLn : st.n = H.length := by have := RowG.n hr7; rw [← HL.out] at this; rw [this, List.length_map, HH.out]
        have hIn : s13.n = H.length := hI13.n_
        obtain ⟨A12, n12, c12⟩ := st
        obtain ⟨A13, n13, c13⟩ := s13
        simp only at hLn hIn
        subst hLn
        subst hIn
        have hHl : H.length ≤ 17 := by have := hsOf_len (m := m) to true; rw [HH.out] at this; omega
        have HR := Lib.hid hr7
        have HB7 := Lib.hid hB7
        have HI13 := Lib.hid hI13
        have Hb7 := Lib.hid hb7
        have HQ7 := Lib.hid hQ7
        clear hr7 hB7 hI13 hb7 hQ7
        go_wp2
        go_loopw [14] (fun i wr => ∃ k : Nat, i = .int .i64 k ∧ k ≤ H.length ∧ Fr [] w7 wr) (fun i _ => H.length - (intOf i).toNat)
        case atStart => exact ⟨0, rfl, by omega, Fr.refl _ _⟩
        case round =>
          obtain ⟨k, rfl, hk, f8⟩ := hrel
          by_cases hkl : k < H.length
          · have dk : decide ((k : Int) < (H.length : Int)) = true := by simp; omega
            have dkn : decide (k < H.length) = true := by simp; omega
            obtain ⟨ba, oa, rfl, cx⟩ := (HI13.out.fr f8).at_ k hkl
            obtain ⟨x, hx⟩ : ∃ x, H[k] = x := ⟨_, rfl⟩
            rw [hx] at cx
            have hLk : L[k]? = some (ansP ⟨to, 2, false, 2, 1, 0, 0, true, [129, 7, 2 * W]⟩ x (clsA m x)) := by rw [← HL.out, List.getElem?_map, HH.out, List.getElem?_eq_getElem hkl, hx]; rfl
            obtain ⟨bb, sd, e2, hbd, c0, c1, c2, c3, c4, c5, c6, c7, c8⟩ := PRow.get (PRow.fr f8 HR.out) hLk
            simp only at e2
            subst e2
            have hxm := HEL.out x (by rw [← hx]; exact List.getElem_mem hkl)
            simp only [ansP, infoA] at c0 c1 c2 c3 c4 c5 c6 c7 c8 hbd
            have HBD := Lib.hid hbd
            have HLK := Lib.hid hLk
            clear hbd hLk hx
            rcases hxm with ⟨hx0, hc7⟩ | ⟨hxn, hc1, hc4⟩
            · have e3 : (x != 0) = false := by simp [hx0]
              have HC7 := Lib.hid hc7
              clear hx0 hc7
              have hbd9 := HBD.out
              simp only [if_true] at hbd9
              rw [HC7.out] at hbd9
              have HBD9 := Lib.hid hbd9
              have F13 := Lib.hid f8
              clear hbd9 f8
              have kcx : ∀ wx, Fr [] wr wx → wx.cell? ⟨ba, oa + k, none⟩ = some (.int .i64 x) := fun wx hf => hf.cell cx (by simp)
              have kc0 : ∀ wx, Fr [] wr wx → wx.cell? ⟨bb, k * 9, none⟩ = some (.int .i64 2) := fun wx hf => hf.cell c0 (by simp)
              have kc1 : ∀ wx, Fr [] wr wx → wx.cell? ⟨bb, k * 9 + 1, none⟩ = some (.int .i64 x) := fun wx hf => hf.cell c1 (by simp)
              have kc2 : ∀ wx, Fr [] wr wx → wx.cell? ⟨bb, k * 9 + 2, none⟩ = some (.bool true) := fun wx hf => hf.cell c2 (by simp)
              have kc4 : ∀ wx, Fr [] wr wx → wx.cell? ⟨bb, k * 9 + 4, none⟩ = some (.int .i64 1) := fun wx hf => hf.cell c4 (by simp)
              have kc7 : ∀ wx, Fr [] wr wx → wx.cell? ⟨bb, k * 9 + 7, none⟩ = some (.bool true) := fun wx hf => hf.cell c7 (by simp)
              have kc8 : ∀ wx, Fr [] wr wx → wx.cell? ⟨bb, k * 9 + 8, none⟩ = some (.slice sd.A sd.n sd.c) := fun wx hf => hf.cell c8 (by simp)
              go_wp2
              clear cx c0 c1 c2 c3 c4 c5 c6 c7 c8
              refine wp_region_keepsC [] [false, false, false, false, false, false, false, false, false, false, false, false, false, false, false, false, false, false, false, false, false, false, false, false, false, false, false, false, false, false, false, false, false, false, false, false, false, false, false, false, false, false, false, false, false, false, false, false, false, false, false, false, false, false] [none, none, none, none, none, none, none, none, none, none, none, none, none, none, none, none, none, none, none, none, none, none, none, none, none, none, none, none, none, none, none, none, none, none, none, none, none, none, none, none, none, none, none, none, none, none, none, none, none, none, some 54, none, none, none] (fun _ => True) [Is (.slice (some ⟨bb, 0, none⟩) H.length c12), Is (.int .i64 k), Is (.pointer (some ⟨bb, k * 9, none⟩)), Is (.pointer (some ⟨bb, k * 9 + 1, none⟩)), Is (.int .i64 x), Is (.slice (some ⟨ba, oa, none⟩) H.length c13), Is (.int .i64 k), Is (.pointer (some ⟨ba, oa + k, none⟩)), Is (.int .i64 x), Is (.bool false), Is (.bool false), Is (.slice (some ⟨bb, 0, none⟩) H.length c12), Is (.int .i64 k), Is (.pointer (some ⟨bb, k * 9, none⟩)), Is (.pointer (some ⟨bb, k * 9, none⟩)), Is (.int .i64 2), Is (.bool false), Is (.bool false), Is (.bool false), Is (.slice (some ⟨bb, 0, none⟩) H.length c12), Is (.int .i64 k), Is (.pointer (some ⟨bb, k * 9, none⟩)), Is (.pointer (some ⟨bb, k * 9 + 4, none⟩)), Is (.int .i64 1), Is (.bool false), Is (.bool false), Is (.bool false), Is (.slice (some ⟨bb, 0, none⟩) H.length c12), Is (.int .i64 k), Is (.pointer (some ⟨bb, k * 9, none⟩)), Is (.pointer (some ⟨bb, k * 9 + 2, none⟩)), Is (.bool true), Is (.bool false), Is (.bool false), Is (.bool false), Is (.slice (some ⟨bb, 0, none⟩) H.length c12), Is (.int .i64 k), Is (.pointer (some ⟨bb, k * 9, none⟩)), Is (.pointer (some ⟨bb, k * 9 + 7, none⟩)), Is (.bool true), Is (.bool false), Is (.bool false), Is (.bool false), Is (.slice (some ⟨bb, 0, none⟩) H.length c12), Is (.int .i64 k), Is (.pointer (some ⟨bb, k * 9, none⟩)), Is (.pointer (some ⟨bb, k * 9 + 8, none⟩)), Is (.slice sd.A sd.n sd.c), Is (.int .i64 7), Is (.int .u8 7), (CloneF 0 [129, 7, 128]), Is (.bool true), Is (.bool false), Is (.bool false)] 54 (by kernel_rfl) (by kernel_rfl) (by kernel_rfl) (by kernel_rfl) (by kernel_rfl) (by kernel_rfl) (by kernel_rfl) (by kernel_rfl) ?hV (fun _ _ _ h => h) trivial ?hS ?hD
              case hV =>
                repeat (first | exact trivial | exact Is.keepsN _ | exact Any.keepsN | exact CloneF.keeps | refine And.intro ?_ ?_)
              case hS =>
                (repeat' (first | exact trivial | refine And.intro ?_ ?_))
                · intro ac wx hf hbs hs hp K hK
                  simp only [waits, holdsA, nth, Is, Any, List.filter_cons, List.filter_nil, List.map_cons, List.map_nil, Region.binds, if_true, true_and, and_true, Nat.reduceAdd, List.getElem?_cons_zero, List.getElem?_cons_succ, Option.bind_some, Array.getD_eq_getD_getElem?] at hp
                  have hs12 := hs 12 (by kernel_rfl)
                  simp only [Array.getD_eq_getD_getElem?, List.getElem?_toArray, List.getElem?_cons_succ, List.getElem?_cons_zero, Option.getD_some] at hs12
                  clear hs
                  clear hbs
                  clear hp
                  clear hf
                  go_simp
                  try dsimp only
                  refine hK.out _ _ ?_ ?_
                  · change Fr [] _ _
                    ((repeat (first | (with_reducible exact Fr.refl _ _) | (with_reducible assumption) | (with_reducible refine Fr.drew ?_) | (with_reducible refine Fr.drewN ?_ _) | (with_reducible refine Fr.alloc ?_ _) | (with_reducible refine Fr.setL ?_ _ _ _ ?_) | (focus (refine Or.inl ?_; simp; done)) | (focus (refine Or.inr ?_; simp; done)) | (focus (refine Or.inr ?_; simp; omega)) | (focus (refine Or.inr ?_; omega)))); done)
                  · simp only [nth]
                    first | (unfold Is; rfl) | (unfold Any; exact trivial) | exact IsSl.new _ _ _ _ | assumption
                · intro ac wx hf hbs hs hp K hK
                  simp only [waits, holdsA, nth, Is, Any, List.filter_cons, List.filter_nil, List.map_cons, List.map_nil, Region.binds, if_true, true_and, and_true, Nat.reduceAdd, List.getElem?_cons_zero, List.getElem?_cons_succ, Option.bind_some, Array.getD_eq_getD_getElem?] at hp
                  have hs14 := hs 14 (by kernel_rfl)
                  simp only [Array.getD_eq_getD_getElem?, List.getElem?_toArray, List.getElem?_cons_succ, List.getElem?_cons_zero, Option.getD_some] at hs14
                  clear hs
                  clear hbs
                  clear hp
                  clear hf
                  go_simp
                  try dsimp only
                  refine hK.out _ _ ?_ ?_
                  · change Fr [] _ _
                    ((repeat (first | (with_reducible exact Fr.refl _ _) | (with_reducible assumption) | (with_reducible refine Fr.drew ?_) | (with_reducible refine Fr.drewN ?_ _) | (with_reducible refine Fr.alloc ?_ _) | (with_reducible refine Fr.setL ?_ _ _ _ ?_) | (focus (refine Or.inl ?_; simp; done)) | (focus (refine Or.inr ?_; simp; done)) | (focus (refine Or.inr ?_; simp; omega)) | (focus (refine Or.inr ?_; omega)))); done)
                  · simp only [nth]
                    first | (unfold Is; rfl) | (unfold Any; exact trivial) | exact IsSl.new _ _ _ _ | assumption
                · intro ac wx hf hbs hs hp K hK
                  simp only [waits, holdsA, nth, Is, Any, List.filter_cons, List.filter_nil, List.map_cons, List.map_nil, Region.binds, if_true, true_and, and_true, Nat.reduceAdd, List.getElem?_cons_zero, List.getElem?_cons_succ, Option.bind_some, Array.getD_eq_getD_getElem?] at hp
                  clear hs
                  clear hbs
                  obtain ⟨h0, h1⟩ := hp
                  clear hf
                  (try simp only [h0, h1])
                  go_simp
                  try dsimp only
                  refine hK.out _ _ ?_ ?_
                  · change Fr [] _ _
                    ((repeat (first | (with_reducible exact Fr.refl _ _) | (with_reducible assumption) | (with_reducible refine Fr.drew ?_) | (with_reducible refine Fr.drewN ?_ _) | (with_reducible refine Fr.alloc ?_ _) | (with_reducible refine Fr.setL ?_ _ _ _ ?_) | (focus (refine Or.inl ?_; simp; done)) | (focus (refine Or.inr ?_; simp; done)) | (focus (refine Or.inr ?_; simp; omega)) | (focus (refine Or.inr ?_; omega)))); done)
                  · simp only [nth]
                    first | (unfold Is; rfl) | (unfold Any; exact trivial) | exact IsSl.new _ _ _ _ | assumption
                · intro ac wx hf hbs hs hp K hK
                  simp only [waits, holdsA, nth, Is, Any, List.filter_cons, List.filter_nil, List.map_cons, List.map_nil, Region.binds, if_true, true_and, and_true, Nat.reduceAdd, List.getElem?_cons_zero, List.getElem?_cons_succ, Option.bind_some, Array.getD_eq_getD_getElem?] at hp
                  clear hs
                  clear hbs
                  have h2 := hp
                  clear hp
                  clear hf
                  (try simp only [h2])
                  go_simp
                  try dsimp only
                  refine hK.out _ _ ?_ ?_
                  · change Fr [] _ _
                    ((repeat (first | (with_reducible exact Fr.refl _ _) | (with_reducible assumption) | (with_reducible refine Fr.drew ?_) | (with_reducible refine Fr.drewN ?_ _) | (with_reducible refine Fr.alloc ?_ _) | (with_reducible refine Fr.setL ?_ _ _ _ ?_) | (focus (refine Or.inl ?_; simp; done)) | (focus (refine Or.inr ?_; simp; done)) | (focus (refine Or.inr ?_; simp; omega)) | (focus (refine Or.inr ?_; omega)))); done)
                  · simp only [nth]
                    first | (unfold Is; rfl) | (unfold Any; exact trivial) | exact IsSl.new _ _ _ _ | assumption
                · intro ac wx hf hbs hs hp K hK
                  simp only [waits, holdsA, nth, Is, Any, List.filter_cons, List.filter_nil, List.map_cons, List.map_nil, Region.binds, if_true, true_and, and_true, Nat.reduceAdd, List.getElem?_cons_zero, List.getElem?_cons_succ, Option.bind_some, Array.getD_eq_getD_getElem?] at hp
                  clear hs
                  clear hbs
                  have h3 := hp
                  clear hp
                  have cx := kc1 wx hf
                  clear hf
                  (try simp only [h3])
                  go_simp
                  try dsimp only
                  refine hK.out _ _ ?_ ?_
                  · change Fr [] _ _
                    ((repeat (first | (with_reducible exact Fr.refl _ _) | (with_reducible assumption) | (with_reducible refine Fr.drew ?_) | (with_reducible refine Fr.drewN ?_ _) | (with_reducible refine Fr.alloc ?_ _) | (with_reducible refine Fr.setL ?_ _ _ _ ?_) | (focus (refine Or.inl ?_; simp; done)) | (focus (refine Or.inr ?_; simp; done)) | (focus (refine Or.inr ?_; simp; omega)) | (focus (refine Or.inr ?_; omega)))); done)
                  · simp only [nth]
                    first | (unfold Is; rfl) | (unfold Any; exact trivial) | exact IsSl.new _ _ _ _ | assumption
                · intro ac wx hf hbs hs hp K hK
                  simp only [waits, holdsA, nth, Is, Any, List.filter_cons, List.filter_nil, List.map_cons, List.map_nil, Region.binds, if_true, true_and, and_true, Nat.reduceAdd, List.getElem?_cons_zero, List.getElem?_cons_succ, Option.bind_some, Array.getD_eq_getD_getElem?] at hp
                  have hs13 := hs 13 (by kernel_rfl)
                  simp only [Array.getD_eq_getD_getElem?, List.getElem?_toArray, List.getElem?_cons_succ, List.getElem?_cons_zero, Option.getD_some] at hs13
                  clear hs
                  clear hbs
                  clear hp
                  clear hf
                  go_simp
                  try dsimp only
                  refine hK.out _ _ ?_ ?_
                  · change Fr [] _ _
                    ((repeat (first | (with_reducible exact Fr.refl _ _) | (with_reducible assumption) | (with_reducible refine Fr.drew ?_) | (with_reducible refine Fr.drewN ?_ _) | (with_reducible refine Fr.alloc ?_ _) | (with_reducible refine Fr.setL ?_ _ _ _ ?_) | (focus (refine Or.inl ?_; simp; done)) | (focus (refine Or.inr ?_; simp; done)) | (focus (refine Or.inr ?_; simp; omega)) | (focus (refine Or.inr ?_; omega)))); done)
                  · simp only [nth]
                    first | (unfold Is; rfl) | (unfold Any; exact trivial) | exact IsSl.new _ _ _ _ | assumption
                · intro ac wx hf hbs hs hp K hK
                  simp only [waits, holdsA, nth, Is, Any, List.filter_cons, List.filter_nil, List.map_cons, List.map_nil, Region.binds, if_true, true_and, and_true, Nat.reduceAdd, List.getElem?_cons_zero, List.getElem?_cons_succ, Option.bind_some, Array.getD_eq_getD_getElem?] at hp
                  have hs14 := hs 14 (by kernel_rfl)
                  simp only [Array.getD_eq_getD_getElem?, List.getElem?_toArray, List.getElem?_cons_succ, List.getElem?_cons_zero, Option.getD_some] at hs14
                  clear hs
                  clear hbs
                  clear hp
                  clear hf
                  go_simp
                  try dsimp only
                  refine hK.out _ _ ?_ ?_
                  · change Fr [] _ _
                    ((repeat (first | (with_reducible exact Fr.refl _ _) | (with_reducible assumption) | (with_reducible refine Fr.drew ?_) | (with_reducible refine Fr.drewN ?_ _) | (with_reducible refine Fr.alloc ?_ _) | (with_reducible refine Fr.setL ?_ _ _ _ ?_) | (focus (refine Or.inl ?_; simp; done)) | (focus (refine Or.inr ?_; simp; done)) | (focus (refine Or.inr ?_; simp; omega)) | (focus (refine Or.inr ?_; omega)))); done)
                  · simp only [nth]
                    first | (unfold Is; rfl) | (unfold Any; exact trivial) | exact IsSl.new _ _ _ _ | assumption
                · intro ac wx hf hbs hs hp K hK
                  simp only [waits, holdsA, nth, Is, Any, List.filter_cons, List.filter_nil, List.map_cons, List.map_nil, Region.binds, if_true, true_and, and_true, Nat.reduceAdd, List.getElem?_cons_zero, List.getElem?_cons_succ, Option.bind_some, Array.getD_eq_getD_getElem?] at hp
                  clear hs
                  clear hbs
                  obtain ⟨h5, h6⟩ := hp
                  clear hf
                  (try simp only [h5, h6])
                  go_simp
                  try dsimp only
                  refine hK.out _ _ ?_ ?_
                  · change Fr [] _ _
                    ((repeat (first | (with_reducible exact Fr.refl _ _) | (with_reducible assumption) | (with_reducible refine Fr.drew ?_) | (with_reducible refine Fr.drewN ?_ _) | (with_reducible refine Fr.alloc ?_ _) | (with_reducible refine Fr.setL ?_ _ _ _ ?_) | (focus (refine Or.inl ?_; simp; done)) | (focus (refine Or.inr ?_; simp; done)) | (focus (refine Or.inr ?_; simp; omega)) | (focus (refine Or.inr ?_; omega)))); done)
                  · simp only [nth]
                    first | (unfold Is; rfl) | (unfold Any; exact trivial) | exact IsSl.new _ _ _ _ | assumption
                · intro ac wx hf hbs hs hp K hK
                  simp only [waits, holdsA, nth, Is, Any, List.filter_cons, List.filter_nil, List.map_cons, List.map_nil, Region.binds, if_true, true_and, and_true, Nat.reduceAdd, List.getElem?_cons_zero, List.getElem?_cons_succ, Option.bind_some, Array.getD_eq_getD_getElem?] at hp
                  clear hs
                  clear hbs
                  have h7 := hp
                  clear hp
                  have cx := kcx wx hf
                  clear hf
                  (try simp only [h7])
                  go_simp
                  try dsimp only
                  refine hK.out _ _ ?_ ?_
                  · change Fr [] _ _
                    ((repeat (first | (with_reducible exact Fr.refl _ _) | (with_reducible assumption) | (with_reducible refine Fr.drew ?_) | (with_reducible refine Fr.drewN ?_ _) | (with_reducible refine Fr.alloc ?_ _) | (with_reducible refine Fr.setL ?_ _ _ _ ?_) | (focus (refine Or.inl ?_; simp; done)) | (focus (refine Or.inr ?_; simp; done)) | (focus (refine Or.inr ?_; simp; omega)) | (focus (refine Or.inr ?_; omega)))); done)
                  · simp only [nth]
                    first | (unfold Is; rfl) | (unfold Any; exact trivial) | exact IsSl.new _ _ _ _ | assumption
                · intro ac wx hf hbs hs hp K hK
                  simp only [waits, holdsA, nth, Is, Any, List.filter_cons, List.filter_nil, List.map_cons, List.map_nil, Region.binds, if_true, true_and, and_true, Nat.reduceAdd, List.getElem?_cons_zero, List.getElem?_cons_succ, Option.bind_some, Array.getD_eq_getD_getElem?] at hp
                  clear hs
                  clear hbs
                  obtain ⟨h4, h8⟩ := hp
                  clear hf
                  (try simp only [h4, h8])
                  go_simp
                  try dsimp only
                  refine hK.out _ _ ?_ ?_
                  · change Fr [] _ _
                    ((repeat (first | (with_reducible exact Fr.refl _ _) | (with_reducible assumption) | (with_reducible refine Fr.drew ?_) | (with_reducible refine Fr.drewN ?_ _) | (with_reducible refine Fr.alloc ?_ _) | (with_reducible refine Fr.setL ?_ _ _ _ ?_) | (focus (refine Or.inl ?_; simp; done)) | (focus (refine Or.inr ?_; simp; done)) | (focus (refine Or.inr ?_; simp; omega)) | (focus (refine Or.inr ?_; omega)))); done)
                  · simp only [nth]
                    first | (unfold Is; rfl) | (unfold Any; exact trivial) | exact IsSl.new _ _ _ _ | assumption
                · intro ac wx hf hbs hs hp K hK
                  simp only [waits, holdsA, nth, Is, Any, List.filter_cons, List.filter_nil, List.map_cons, List.map_nil, Region.binds, if_true, true_and, and_true, Nat.reduceAdd, List.getElem?_cons_zero, List.getElem?_cons_succ, Option.bind_some, Array.getD_eq_getD_getElem?] at hp
                  clear hs
                  clear hbs
                  have h9 := hp
                  clear hp
                  clear hf
                  (try simp only [h9])
                  go_simp
                  try dsimp only
                  refine hK.out _ _ ?_ ?_
                  · change Fr [] _ _
                    ((repeat (first | (with_reducible exact Fr.refl _ _) | (with_reducible assumption) | (with_reducible refine Fr.drew ?_) | (with_reducible refine Fr.drewN ?_ _) | (with_reducible refine Fr.alloc ?_ _) | (with_reducible refine Fr.setL ?_ _ _ _ ?_) | (focus (refine Or.inl ?_; simp; done)) | (focus (refine Or.inr ?_; simp; done)) | (focus (refine Or.inr ?_; simp; omega)) | (focus (refine Or.inr ?_; omega)))); done)
                  · simp only [nth]
                    first | (unfold Is; rfl) | (unfold Any; exact trivial) | exact IsSl.new _ _ _ _ | assumption
                · intro ac wx hf hbs hs hp K hK
                  simp only [waits, holdsA, nth, Is, Any, List.filter_cons, List.filter_nil, List.map_cons, List.map_nil, Region.binds, if_true, true_and, and_true, Nat.reduceAdd, List.getElem?_cons_zero, List.getElem?_cons_succ, Option.bind_some, Array.getD_eq_getD_getElem?] at hp
                  have hs12 := hs 12 (by kernel_rfl)
                  simp only [Array.getD_eq_getD_getElem?, List.getElem?_toArray, List.getElem?_cons_succ, List.getElem?_cons_zero, Option.getD_some] at hs12
                  clear hs
                  clear hbs
                  have h10 := hp
                  clear hp
                  have hg10 := (getD_bool _ _).1 h10
                  clear hf
                  (try simp only [h10, hg10])
                  go_simp
                  try dsimp only
                  refine hK.out _ _ ?_ ?_
                  · change Fr [] _ _
                    ((repeat (first | (with_reducible exact Fr.refl _ _) | (with_reducible assumption) | (with_reducible refine Fr.drew ?_) | (with_reducible refine Fr.drewN ?_ _) | (with_reducible refine Fr.alloc ?_ _) | (with_reducible refine Fr.setL ?_ _ _ _ ?_) | (focus (refine Or.inl ?_; simp; done)) | (focus (refine Or.inr ?_; simp; done)) | (focus (refine Or.inr ?_; simp; omega)) | (focus (refine Or.inr ?_; omega)))); done)
                  · simp only [nth]
                    first | (unfold Is; rfl) | (unfold Any; exact trivial) | exact IsSl.new _ _ _ _ | assumption
                · intro ac wx hf hbs hs hp K hK
                  simp only [waits, holdsA, nth, Is, Any, List.filter_cons, List.filter_nil, List.map_cons, List.map_nil, Region.binds, if_true, true_and, and_true, Nat.reduceAdd, List.getElem?_cons_zero, List.getElem?_cons_succ, Option.bind_some, Array.getD_eq_getD_getElem?] at hp
                  have hs14 := hs 14 (by kernel_rfl)
                  simp only [Array.getD_eq_getD_getElem?, List.getElem?_toArray, List.getElem?_cons_succ, List.getElem?_cons_zero, Option.getD_some] at hs14
                  clear hs
                  clear hbs
                  have h10 := hp
                  clear hp
                  have hg10 := (getD_bool _ _).1 h10
                  clear hf
                  (try simp only [h10, hg10])
                  go_simp
                  try dsimp only
                  refine hK.out _ _ ?_ ?_
                  · change Fr [] _ _
                    ((repeat (first | (with_reducible exact Fr.refl _ _) | (with_reducible assumption) | (with_reducible refine Fr.drew ?_) | (with_reducible refine Fr.drewN ?_ _) | (with_reducible refine Fr.alloc ?_ _) | (with_reducible refine Fr.setL ?_ _ _ _ ?_) | (focus (refine Or.inl ?_; simp; done)) | (focus (refine Or.inr ?_; simp; done)) | (focus (refine Or.inr ?_; simp; omega)) | (focus (refine Or.inr ?_; omega)))); done)
                  · simp only [nth]
                    first | (unfold Is; rfl) | (unfold Any; exact trivial) | exact IsSl.new _ _ _ _ | assumption
                · intro ac wx hf hbs hs hp K hK
                  simp only [waits, holdsA, nth, Is, Any, List.filter_cons, List.filter_nil, List.map_cons, List.map_nil, Region.binds, if_true, true_and, and_true, Nat.reduceAdd, List.getElem?_cons_zero, List.getElem?_cons_succ, Option.bind_some, Array.getD_eq_getD_getElem?] at hp
                  clear hs
                  clear hbs
                  obtain ⟨h11, h12, h10⟩ := hp
                  have hg10 := (getD_bool _ _).1 h10
                  clear hf
                  (try simp only [h11, h12, h10, hg10])
                  go_simp
                  try dsimp only
                  refine hK.out _ _ ?_ ?_
                  · change Fr [] _ _
                    ((repeat (first | (with_reducible exact Fr.refl _ _) | (with_reducible assumption) | (with_reducible refine Fr.drew ?_) | (with_reducible refine Fr.drewN ?_ _) | (with_reducible refine Fr.alloc ?_ _) | (with_reducible refine Fr.setL ?_ _ _ _ ?_) | (focus (refine Or.inl ?_; simp; done)) | (focus (refine Or.inr ?_; simp; done)) | (focus (refine Or.inr ?_; simp; omega)) | (focus (refine Or.inr ?_; omega)))); done)
                  · simp only [nth]
                    first | (unfold Is; rfl) | (unfold Any; exact trivial) | exact IsSl.new _ _ _ _ | assumption
                · intro ac wx hf hbs hs hp K hK
                  simp only [waits, holdsA, nth, Is, Any, List.filter_cons, List.filter_nil, List.map_cons, List.map_nil, Region.binds, if_true, true_and, and_true, Nat.reduceAdd, List.getElem?_cons_zero, List.getElem?_cons_succ, Option.bind_some, Array.getD_eq_getD_getElem?] at hp
                  clear hs
                  clear hbs
                  obtain ⟨h13, h10⟩ := hp
                  have hg10 := (getD_bool _ _).1 h10
                  clear hf
                  (try simp only [h13, h10, hg10])
                  go_simp
                  try dsimp only
                  refine hK.out _ _ ?_ ?_
                  · change Fr [] _ _
                    ((repeat (first | (with_reducible exact Fr.refl _ _) | (with_reducible assumption) | (with_reducible refine Fr.drew ?_) | (with_reducible refine Fr.drewN ?_ _) | (with_reducible refine Fr.alloc ?_ _) | (with_reducible refine Fr.setL ?_ _ _ _ ?_) | (focus (refine Or.inl ?_; simp; done)) | (focus (refine Or.inr ?_; simp; done)) | (focus (refine Or.inr ?_; simp; omega)) | (focus (refine Or.inr ?_; omega)))); done)
                  · simp only [nth]
                    first | (unfold Is; rfl) | (unfold Any; exact trivial) | exact IsSl.new _ _ _ _ | assumption
                · intro ac wx hf hbs hs hp K hK
                  simp only [waits, holdsA, nth, Is, Any, List.filter_cons, List.filter_nil, List.map_cons, List.map_nil, Region.binds, if_true, true_and, and_true, Nat.reduceAdd, List.getElem?_cons_zero, List.getElem?_cons_succ, Option.bind_some, Array.getD_eq_getD_getElem?] at hp
                  clear hs
                  clear hbs
                  obtain ⟨h14, h10⟩ := hp
                  have hg10 := (getD_bool _ _).1 h10
                  have cx := kc0 wx hf
                  clear hf
                  (try simp only [h14, h10, hg10])
                  go_simp
                  try dsimp only
                  refine hK.out _ _ ?_ ?_
                  · change Fr [] _ _
                    ((repeat (first | (with_reducible exact Fr.refl _ _) | (with_reducible assumption) | (with_reducible refine Fr.drew ?_) | (with_reducible refine Fr.drewN ?_ _) | (with_reducible refine Fr.alloc ?_ _) | (with_reducible refine Fr.setL ?_ _ _ _ ?_) | (focus (refine Or.inl ?_; simp; done)) | (focus (refine Or.inr ?_; simp; done)) | (focus (refine Or.inr ?_; simp; omega)) | (focus (refine Or.inr ?_; omega)))); done)
                  · simp only [nth]
                    first | (unfold Is; rfl) | (unfold Any; exact trivial) | exact IsSl.new _ _ _ _ | assumption
                · intro ac wx hf hbs hs hp K hK
                  simp only [waits, holdsA, nth, Is, Any, List.filter_cons, List.filter_nil, List.map_cons, List.map_nil, Region.binds, if_true, true_and, and_true, Nat.reduceAdd, List.getElem?_cons_zero, List.getElem?_cons_succ, Option.bind_some, Array.getD_eq_getD_getElem?] at hp
                  clear hs
                  clear hbs
                  obtain ⟨h15, h10⟩ := hp
                  have hg10 := (getD_bool _ _).1 h10
                  clear hf
                  (try simp only [h15, h10, hg10])
                  go_simp
                  try dsimp only
                  refine hK.out _ _ ?_ ?_
                  · change Fr [] _ _
                    ((repeat (first | (with_reducible exact Fr.refl _ _) | (with_reducible assumption) | (with_reducible refine Fr.drew ?_) | (with_reducible refine Fr.drewN ?_ _) | (with_reducible refine Fr.alloc ?_ _) | (with_reducible refine Fr.setL ?_ _ _ _ ?_) | (focus (refine Or.inl ?_; simp; done)) | (focus (refine Or.inr ?_; simp; done)) | (focus (refine Or.inr ?_; simp; omega)) | (focus (refine Or.inr ?_; omega)))); done)
                  · simp only [nth]
                    first | (unfold Is; rfl) | (unfold Any; exact trivial) | exact IsSl.new _ _ _ _ | assumption
                · intro ac wx hf hbs hs hp K hK
                  simp only [waits, holdsA, nth, Is, Any, List.filter_cons, List.filter_nil, List.map_cons, List.map_nil, Region.binds, if_true, true_and, and_true, Nat.reduceAdd, List.getElem?_cons_zero, List.getElem?_cons_succ, Option.bind_some, Array.getD_eq_getD_getElem?] at hp
                  clear hs
                  clear hbs
                  obtain ⟨h10, h16⟩ := hp
                  clear hf
                  (try simp only [h10, h16])
                  go_simp
                  try dsimp only
                  refine hK.out _ _ ?_ ?_
                  · change Fr [] _ _
                    ((repeat (first | (with_reducible exact Fr.refl _ _) | (with_reducible assumption) | (with_reducible refine Fr.drew ?_) | (with_reducible refine Fr.drewN ?_ _) | (with_reducible refine Fr.alloc ?_ _) | (with_reducible refine Fr.setL ?_ _ _ _ ?_) | (focus (refine Or.inl ?_; simp; done)) | (focus (refine Or.inr ?_; simp; done)) | (focus (refine Or.inr ?_; simp; omega)) | (focus (refine Or.inr ?_; omega)))); done)
                  · simp only [nth]
                    first | (unfold Is; rfl) | (unfold Any; exact trivial) | exact IsSl.new _ _ _ _ | assumption
                · intro ac wx hf hbs hs hp K hK
                  simp only [waits, holdsA, nth, Is, Any, List.filter_cons, List.filter_nil, List.map_cons, List.map_nil, Region.binds, if_true, true_and, and_true, Nat.reduceAdd, List.getElem?_cons_zero, List.getElem?_cons_succ, Option.bind_some, Array.getD_eq_getD_getElem?] at hp
                  clear hs
                  clear hbs
                  obtain ⟨h17, h10⟩ := hp
                  clear hf
                  (try simp only [h17, h10])
                  go_simp
                  try dsimp only
                  refine hK.out _ _ ?_ ?_
                  · change Fr [] _ _
                    ((repeat (first | (with_reducible exact Fr.refl _ _) | (with_reducible assumption) | (with_reducible refine Fr.drew ?_) | (with_reducible refine Fr.drewN ?_ _) | (with_reducible refine Fr.alloc ?_ _) | (with_reducible refine Fr.setL ?_ _ _ _ ?_) | (focus (refine Or.inl ?_; simp; done)) | (focus (refine Or.inr ?_; simp; done)) | (focus (refine Or.inr ?_; simp; omega)) | (focus (refine Or.inr ?_; omega)))); done)
                  · simp only [nth]
                    first | (unfold Is; rfl) | (unfold Any; exact trivial) | exact IsSl.new _ _ _ _ | assumption
                · intro ac wx hf hbs hs hp K hK
                  simp only [waits, holdsA, nth, Is, Any, List.filter_cons, List.filter_nil, List.map_cons, List.map_nil, Region.binds, if_true, true_and, and_true, Nat.reduceAdd, List.getElem?_cons_zero, List.getElem?_cons_succ, Option.bind_some, Array.getD_eq_getD_getElem?] at hp
                  have hs12 := hs 12 (by kernel_rfl)
                  simp only [Array.getD_eq_getD_getElem?, List.getElem?_toArray, List.getElem?_cons_succ, List.getElem?_cons_zero, Option.getD_some] at hs12
                  clear hs
                  clear hbs
                  have h18 := hp
                  clear hp
                  have hg18 := (getD_bool _ _).1 h18
                  clear hf
                  (try simp only [h18, hg18])
                  go_simp
                  try dsimp only
                  refine hK.out _ _ ?_ ?_
                  · change Fr [] _ _
                    ((repeat (first | (with_reducible exact Fr.refl _ _) | (with_reducible assumption) | (with_reducible refine Fr.drew ?_) | (with_reducible refine Fr.drewN ?_ _) | (with_reducible refine Fr.alloc ?_ _) | (with_reducible refine Fr.setL ?_ _ _ _ ?_) | (focus (refine Or.inl ?_; simp; done)) | (focus (refine Or.inr ?_; simp; done)) | (focus (refine Or.inr ?_; simp; omega)) | (focus (refine Or.inr ?_; omega)))); done)
                  · simp only [nth]
                    first | (unfold Is; rfl) | (unfold Any; exact trivial) | exact IsSl.new _ _ _ _ | assumption
                · intro ac wx hf hbs hs hp K hK
                  simp only [waits, holdsA, nth, Is, Any, List.filter_cons, List.filter_nil, List.map_cons, List.map_nil, Region.binds, if_true, true_and, and_true, Nat.reduceAdd, List.getElem?_cons_zero, List.getElem?_cons_succ, Option.bind_some, Array.getD_eq_getD_getElem?] at hp
                  have hs14 := hs 14 (by kernel_rfl)
                  simp only [Array.getD_eq_getD_getElem?, List.getElem?_toArray, List.getElem?_cons_succ, List.getElem?_cons_zero, Option.getD_some] at hs14
                  clear hs
                  clear hbs
                  have h18 := hp
                  clear hp
                  have hg18 := (getD_bool _ _).1 h18
                  clear hf
                  (try simp only [h18, hg18])
                  go_simp
                  try dsimp only
                  refine hK.out _ _ ?_ ?_
                  · change Fr [] _ _
                    ((repeat (first | (with_reducible exact Fr.refl _ _) | (with_reducible assumption) | (with_reducible refine Fr.drew ?_) | (with_reducible refine Fr.drewN ?_ _) | (with_reducible refine Fr.alloc ?_ _) | (with_reducible refine Fr.setL ?_ _ _ _ ?_) | (focus (refine Or.inl ?_; simp; done)) | (focus (refine Or.inr ?_; simp; done)) | (focus (refine Or.inr ?_; simp; omega)) | (focus (refine Or.inr ?_; omega)))); done)
                  · simp only [nth]
                    first | (unfold Is; rfl) | (unfold Any; exact trivial) | exact IsSl.new _ _ _ _ | assumption
                · intro ac wx hf hbs hs hp K hK
                  simp only [waits, holdsA, nth, Is, Any, List.filter_cons, List.filter_nil, List.map_cons, List.map_nil, Region.binds, if_true, true_and, and_true, Nat.reduceAdd, List.getElem?_cons_zero, List.getElem?_cons_succ, Option.bind_some, Array.getD_eq_getD_getElem?] at hp
                  clear hs
                  clear hbs
                  obtain ⟨h19, h20, h18⟩ := hp
                  have hg18 := (getD_bool _ _).1 h18
                  clear hf
                  (try simp only [h19, h20, h18, hg18])
                  go_simp
                  try dsimp only
                  refine hK.out _ _ ?_ ?_
                  · change Fr [] _ _
                    ((repeat (first | (with_reducible exact Fr.refl _ _) | (with_reducible assumption) | (with_reducible refine Fr.drew ?_) | (with_reducible refine Fr.drewN ?_ _) | (with_reducible refine Fr.alloc ?_ _) | (with_reducible refine Fr.setL ?_ _ _ _ ?_) | (focus (refine Or.inl ?_; simp; done)) | (focus (refine Or.inr ?_; simp; done)) | (focus (refine Or.inr ?_; simp; omega)) | (focus (refine Or.inr ?_; omega)))); done)
                  · simp only [nth]
                    first | (unfold Is; rfl) | (unfold Any; exact trivial) | exact IsSl.new _ _ _ _ | assumption
                · intro ac wx hf hbs hs hp K hK
                  simp only [waits, holdsA, nth, Is, Any, List.filter_cons, List.filter_nil, List.map_cons, List.map_nil, Region.binds, if_true, true_and, and_true, Nat.reduceAdd, List.getElem?_cons_zero, List.getElem?_cons_succ, Option.bind_some, Array.getD_eq_getD_getElem?] at hp
                  clear hs
                  clear hbs
                  obtain ⟨h21, h18⟩ := hp
                  have hg18 := (getD_bool _ _).1 h18
                  clear hf
                  (try simp only [h21, h18, hg18])
                  go_simp
                  try dsimp only
                  refine hK.out _ _ ?_ ?_
                  · change Fr [] _ _
                    ((repeat (first | (with_reducible exact Fr.refl _ _) | (with_reducible assumption) | (with_reducible refine Fr.drew ?_) | (with_reducible refine Fr.drewN ?_ _) | (with_reducible refine Fr.alloc ?_ _) | (with_reducible refine Fr.setL ?_ _ _ _ ?_) | (focus (refine Or.inl ?_; simp; done)) | (focus (refine Or.inr ?_; simp; done)) | (focus (refine Or.inr ?_; simp; omega)) | (focus (refine Or.inr ?_; omega)))); done)
                  · simp only [nth]
                    first | (unfold Is; rfl) | (unfold Any; exact trivial) | exact IsSl.new _ _ _ _ | assumption
                · intro ac wx hf hbs hs hp K hK
                  simp only [waits, holdsA, nth, Is, Any, List.filter_cons, List.filter_nil, List.map_cons, List.map_nil, Region.binds, if_true, true_and, and_true, Nat.reduceAdd, List.getElem?_cons_zero, List.getElem?_cons_succ, Option.bind_some, Array.getD_eq_getD_getElem?] at hp
                  clear hs
                  clear hbs
                  obtain ⟨h22, h18⟩ := hp
                  have hg18 := (getD_bool _ _).1 h18
                  have cx := kc4 wx hf
                  clear hf
                  (try simp only [h22, h18, hg18])
                  go_simp
                  try dsimp only
                  refine hK.out _ _ ?_ ?_
                  · change Fr [] _ _
                    ((repeat (first | (with_reducible exact Fr.refl _ _) | (with_reducible assumption) | (with_reducible refine Fr.drew ?_) | (with_reducible refine Fr.drewN ?_ _) | (with_reducible refine Fr.alloc ?_ _) | (with_reducible refine Fr.setL ?_ _ _ _ ?_) | (focus (refine Or.inl ?_; simp; done)) | (focus (refine Or.inr ?_; simp; done)) | (focus (refine Or.inr ?_; simp; omega)) | (focus (refine Or.inr ?_; omega)))); done)
                  · simp only [nth]
                    first | (unfold Is; rfl) | (unfold Any; exact trivial) | exact IsSl.new _ _ _ _ | assumption
                · intro ac wx hf hbs hs hp K hK
                  simp only [waits, holdsA, nth, Is, Any, List.filter_cons, List.filter_nil, List.map_cons, List.map_nil, Region.binds, if_true, true_and, and_true, Nat.reduceAdd, List.getElem?_cons_zero, List.getElem?_cons_succ, Option.bind_some, Array.getD_eq_getD_getElem?] at hp
                  clear hs
                  clear hbs
                  obtain ⟨h23, h18⟩ := hp
                  have hg18 := (getD_bool _ _).1 h18
                  clear hf
                  (try simp only [h23, h18, hg18])
                  go_simp
                  try dsimp only
                  refine hK.out _ _ ?_ ?_
                  · change Fr [] _ _
                    ((repeat (first | (with_reducible exact Fr.refl _ _) | (with_reducible assumption) | (with_reducible refine Fr.drew ?_) | (with_reducible refine Fr.drewN ?_ _) | (with_reducible refine Fr.alloc ?_ _) | (with_reducible refine Fr.setL ?_ _ _ _ ?_) | (focus (refine Or.inl ?_; simp; done)) | (focus (refine Or.inr ?_; simp; done)) | (focus (refine Or.inr ?_; simp; omega)) | (focus (refine Or.inr ?_; omega)))); done)
                  · simp only [nth]
                    first | (unfold Is; rfl) | (unfold Any; exact trivial) | exact IsSl.new _ _ _ _ | assumption
                · intro ac wx hf hbs hs hp K hK
                  simp only [waits, holdsA, nth, Is, Any, List.filter_cons, List.filter_nil, List.map_cons, List.map_nil, Region.binds, if_true, true_and, and_true, Nat.reduceAdd, List.getElem?_cons_zero, List.getElem?_cons_succ, Option.bind_some, Array.getD_eq_getD_getElem?] at hp
                  clear hs
                  clear hbs
                  obtain ⟨h18, h24⟩ := hp
                  clear hf
                  (try simp only [h18, h24])
                  go_simp
                  try dsimp only
                  refine hK.out _ _ ?_ ?_
                  · change Fr [] _ _
                    ((repeat (first | (with_reducible exact Fr.refl _ _) | (with_reducible assumption) | (with_reducible refine Fr.drew ?_) | (with_reducible refine Fr.drewN ?_ _) | (with_reducible refine Fr.alloc ?_ _) | (with_reducible refine Fr.setL ?_ _ _ _ ?_) | (focus (refine Or.inl ?_; simp; done)) | (focus (refine Or.inr ?_; simp; done)) | (focus (refine Or.inr ?_; simp; omega)) | (focus (refine Or.inr ?_; omega)))); done)
                  · simp only [nth]
                    first | (unfold Is; rfl) | (unfold Any; exact trivial) | exact IsSl.new _ _ _ _ | assumption
                · intro ac wx hf hbs hs hp K hK
                  simp only [waits, holdsA, nth, Is, Any, List.filter_cons, List.filter_nil, List.map_cons, List.map_nil, Region.binds, if_true, true_and, and_true, Nat.reduceAdd, List.getElem?_cons_zero, List.getElem?_cons_succ, Option.bind_some, Array.getD_eq_getD_getElem?] at hp
                  clear hs
                  clear hbs
                  obtain ⟨h25, h18⟩ := hp
                  clear hf
                  (try simp only [h25, h18])
                  go_simp
                  try dsimp only
                  refine hK.out _ _ ?_ ?_
                  · change Fr [] _ _
                    ((repeat (first | (with_reducible exact Fr.refl _ _) | (with_reducible assumption) | (with_reducible refine Fr.drew ?_) | (with_reducible refine Fr.drewN ?_ _) | (with_reducible refine Fr.alloc ?_ _) | (with_reducible refine Fr.setL ?_ _ _ _ ?_) | (focus (refine Or.inl ?_; simp; done)) | (focus (refine Or.inr ?_; simp; done)) | (focus (refine Or.inr ?_; simp; omega)) | (focus (refine Or.inr ?_; omega)))); done)
                  · simp only [nth]
                    first | (unfold Is; rfl) | (unfold Any; exact trivial) | exact IsSl.new _ _ _ _ | assumption
                · intro ac wx hf hbs hs hp K hK
                  simp only [waits, holdsA, nth, Is, Any, List.filter_cons, List.filter_nil, List.map_cons, List.map_nil, Region.binds, if_true, true_and, and_true, Nat.reduceAdd, List.getElem?_cons_zero, List.getElem?_cons_succ, Option.bind_some, Array.getD_eq_getD_getElem?] at hp
                  have hs12 := hs 12 (by kernel_rfl)
                  simp only [Array.getD_eq_getD_getElem?, List.getElem?_toArray, List.getElem?_cons_succ, List.getElem?_cons_zero, Option.getD_some] at hs12
                  clear hs
                  clear hbs
                  have h26 := hp
                  clear hp
                  have hg26 := (getD_bool _ _).1 h26
                  clear hf
                  (try simp only [h26, hg26])
                  go_simp
                  try dsimp only
                  refine hK.out _ _ ?_ ?_
                  · change Fr [] _ _
                    ((repeat (first | (with_reducible exact Fr.refl _ _) | (with_reducible assumption) | (with_reducible refine Fr.drew ?_) | (with_reducible refine Fr.drewN ?_ _) | (with_reducible refine Fr.alloc ?_ _) | (with_reducible refine Fr.setL ?_ _ _ _ ?_) | (focus (refine Or.inl ?_; simp; done)) | (focus (refine Or.inr ?_; simp; done)) | (focus (refine Or.inr ?_; simp; omega)) | (focus (refine Or.inr ?_; omega)))); done)
                  · simp only [nth]
                    first | (unfold Is; rfl) | (unfold Any; exact trivial) | exact IsSl.new _ _ _ _ | assumption
                · intro ac wx hf hbs hs hp K hK
                  simp only [waits, holdsA, nth, Is, Any, List.filter_cons, List.filter_nil, List.map_cons, List.map_nil, Region.binds, if_true, true_and, and_true, Nat.reduceAdd, List.getElem?_cons_zero, List.getElem?_cons_succ, Option.bind_some, Array.getD_eq_getD_getElem?] at hp
                  have hs14 := hs 14 (by kernel_rfl)
                  simp only [Array.getD_eq_getD_getElem?, List.getElem?_toArray, List.getElem?_cons_succ, List.getElem?_cons_zero, Option.getD_some] at hs14
                  clear hs
                  clear hbs
                  have h26 := hp
                  clear hp
                  have hg26 := (getD_bool _ _).1 h26
                  clear hf
                  (try simp only [h26, hg26])
                  go_simp
                  try dsimp only
                  refine hK.out _ _ ?_ ?_
                  · change Fr [] _ _
                    ((repeat (first | (with_reducible exact Fr.refl _ _) | (with_reducible assumption) | (with_reducible refine Fr.drew ?_) | (with_reducible refine Fr.drewN ?_ _) | (with_reducible refine Fr.alloc ?_ _) | (with_reducible refine Fr.setL ?_ _ _ _ ?_) | (focus (refine Or.inl ?_; simp; done)) | (focus (refine Or.inr ?_; simp; done)) | (focus (refine Or.inr ?_; simp; omega)) | (focus (refine Or.inr ?_; omega)))); done)
                  · simp only [nth]
                    first | (unfold Is; rfl) | (unfold Any; exact trivial) | exact IsSl.new _ _ _ _ | assumption
                · intro ac wx hf hbs hs hp K hK
                  simp only [waits, holdsA, nth, Is, Any, List.filter_cons, List.filter_nil, List.map_cons, List.map_nil, Region.binds, if_true, true_and, and_true, Nat.reduceAdd, List.getElem?_cons_zero, List.getElem?_cons_succ, Option.bind_some, Array.getD_eq_getD_getElem?] at hp
                  clear hs
                  clear hbs
                  obtain ⟨h27, h28, h26⟩ := hp
                  have hg26 := (getD_bool _ _).1 h26
                  clear hf
                  (try simp only [h27, h28, h26, hg26])
                  go_simp
                  try dsimp only
                  refine hK.out _ _ ?_ ?_
                  · change Fr [] _ _
                    ((repeat (first | (with_reducible exact Fr.refl _ _) | (with_reducible assumption) | (with_reducible refine Fr.drew ?_) | (with_reducible refine Fr.drewN ?_ _) | (with_reducible refine Fr.alloc ?_ _) | (with_reducible refine Fr.setL ?_ _ _ _ ?_) | (focus (refine Or.inl ?_; simp; done)) | (focus (refine Or.inr ?_; simp; done)) | (focus (refine Or.inr ?_; simp; omega)) | (focus (refine Or.inr ?_; omega)))); done)
                  · simp only [nth]
                    first | (unfold Is; rfl) | (unfold Any; exact trivial) | exact IsSl.new _ _ _ _ | assumption
                · intro ac wx hf hbs hs hp K hK
                  simp only [waits, holdsA, nth, Is, Any, List.filter_cons, List.filter_nil, List.map_cons, List.map_nil, Region.binds, if_true, true_and, and_true, Nat.reduceAdd, List.getElem?_cons_zero, List.getElem?_cons_succ, Option.bind_some, Array.getD_eq_getD_getElem?] at hp
                  clear hs
                  clear hbs
                  obtain ⟨h29, h26⟩ := hp
                  have hg26 := (getD_bool _ _).1 h26
                  clear hf
                  (try simp only [h29, h26, hg26])
                  go_simp
                  try dsimp only
                  refine hK.out _ _ ?_ ?_
                  · change Fr [] _ _
                    ((repeat (first | (with_reducible exact Fr.refl _ _) | (with_reducible assumption) | (with_reducible refine Fr.drew ?_) | (with_reducible refine Fr.drewN ?_ _) | (with_reducible refine Fr.alloc ?_ _) | (with_reducible refine Fr.setL ?_ _ _ _ ?_) | (focus (refine Or.inl ?_; simp; done)) | (focus (refine Or.inr ?_; simp; done)) | (focus (refine Or.inr ?_; simp; omega)) | (focus (refine Or.inr ?_; omega)))); done)
                  · simp only [nth]
                    first | (unfold Is; rfl) | (unfold Any; exact trivial) | exact IsSl.new _ _ _ _ | assumption
                · intro ac wx hf hbs hs hp K hK
                  simp only [waits, holdsA, nth, Is, Any, List.filter_cons, List.filter_nil, List.map_cons, List.map_nil, Region.binds, if_true, true_and, and_true, Nat.reduceAdd, List.getElem?_cons_zero, List.getElem?_cons_succ, Option.bind_some, Array.getD_eq_getD_getElem?] at hp
                  clear hs
                  clear hbs
                  obtain ⟨h30, h26⟩ := hp
                  have hg26 := (getD_bool _ _).1 h26
                  have cx := kc2 wx hf
                  clear hf
                  (try simp only [h30, h26, hg26])
                  go_simp
                  try dsimp only
                  refine hK.out _ _ ?_ ?_
                  · change Fr [] _ _
                    ((repeat (first | (with_reducible exact Fr.refl _ _) | (with_reducible assumption) | (with_reducible refine Fr.drew ?_) | (with_reducible refine Fr.drewN ?_ _) | (with_reducible refine Fr.alloc ?_ _) | (with_reducible refine Fr.setL ?_ _ _ _ ?_) | (focus (refine Or.inl ?_; simp; done)) | (focus (refine Or.inr ?_; simp; done)) | (focus (refine Or.inr ?_; simp; omega)) | (focus (refine Or.inr ?_; omega)))); done)
                  · simp only [nth]
                    first | (unfold Is; rfl) | (unfold Any; exact trivial) | exact IsSl.new _ _ _ _ | assumption
                · intro ac wx hf hbs hs hp K hK
                  simp only [waits, holdsA, nth, Is, Any, List.filter_cons, List.filter_nil, List.map_cons, List.map_nil, Region.binds, if_true, true_and, and_true, Nat.reduceAdd, List.getElem?_cons_zero, List.getElem?_cons_succ, Option.bind_some, Array.getD_eq_getD_getElem?] at hp
                  clear hs
                  clear hbs
                  obtain ⟨h31, h26⟩ := hp
                  have hg26 := (getD_bool _ _).1 h26
                  clear hf
                  (try simp only [h31, h26, hg26])
                  go_simp
                  try dsimp only
                  refine hK.out _ _ ?_ ?_
                  · change Fr [] _ _
                    ((repeat (first | (with_reducible exact Fr.refl _ _) | (with_reducible assumption) | (with_reducible refine Fr.drew ?_) | (with_reducible refine Fr.drewN ?_ _) | (with_reducible refine Fr.alloc ?_ _) | (with_reducible refine Fr.setL ?_ _ _ _ ?_) | (focus (refine Or.inl ?_; simp; done)) | (focus (refine Or.inr ?_; simp; done)) | (focus (refine Or.inr ?_; simp; omega)) | (focus (refine Or.inr ?_; omega)))); done)
                  · simp only [nth]
                    first | (unfold Is; rfl) | (unfold Any; exact trivial) | exact IsSl.new _ _ _ _ | assumption
                · intro ac wx hf hbs hs hp K hK
                  simp only [waits, holdsA, nth, Is, Any, List.filter_cons, List.filter_nil, List.map_cons, List.map_nil, Region.binds, if_true, true_and, and_true, Nat.reduceAdd, List.getElem?_cons_zero, List.getElem?_cons_succ, Option.bind_some, Array.getD_eq_getD_getElem?] at hp
                  clear hs
                  clear hbs
                  obtain ⟨h26, h32⟩ := hp
                  clear hf
                  (try simp only [h26, h32])
                  go_simp
                  try dsimp only
                  refine hK.out _ _ ?_ ?_
                  · change Fr [] _ _
                    ((repeat (first | (with_reducible exact Fr.refl _ _) | (with_reducible assumption) | (with_reducible refine Fr.drew ?_) | (with_reducible refine Fr.drewN ?_ _) | (with_reducible refine Fr.alloc ?_ _) | (with_reducible refine Fr.setL ?_ _ _ _ ?_) | (focus (refine Or.inl ?_; simp; done)) | (focus (refine Or.inr ?_; simp; done)) | (focus (refine Or.inr ?_; simp; omega)) | (focus (refine Or.inr ?_; omega)))); done)
                  · simp only [nth]
                    first | (unfold Is; rfl) | (unfold Any; exact trivial) | exact IsSl.new _ _ _ _ | assumption
                · intro ac wx hf hbs hs hp K hK
                  simp only [waits, holdsA, nth, Is, Any, List.filter_cons, List.filter_nil, List.map_cons, List.map_nil, Region.binds, if_true, true_and, and_true, Nat.reduceAdd, List.getElem?_cons_zero, List.getElem?_cons_succ, Option.bind_some, Array.getD_eq_getD_getElem?] at hp
                  clear hs
                  clear hbs
                  obtain ⟨h33, h26⟩ := hp
                  clear hf
                  (try simp only [h33, h26])
                  go_simp
                  try dsimp only
                  refine hK.out _ _ ?_ ?_
                  · change Fr [] _ _
                    ((repeat (first | (with_reducible exact Fr.refl _ _) | (with_reducible assumption) | (with_reducible refine Fr.drew ?_) | (with_reducible refine Fr.drewN ?_ _) | (with_reducible refine Fr.alloc ?_ _) | (with_reducible refine Fr.setL ?_ _ _ _ ?_) | (focus (refine Or.inl ?_; simp; done)) | (focus (refine Or.inr ?_; simp; done)) | (focus (refine Or.inr ?_; simp; omega)) | (focus (refine Or.inr ?_; omega)))); done)
                  · simp only [nth]
                    first | (unfold Is; rfl) | (unfold Any; exact trivial) | exact IsSl.new _ _ _ _ | assumption
                · intro ac wx hf hbs hs hp K hK
                  simp only [waits, holdsA, nth, Is, Any, List.filter_cons, List.filter_nil, List.map_cons, List.map_nil, Region.binds, if_true, true_and, and_true, Nat.reduceAdd, List.getElem?_cons_zero, List.getElem?_cons_succ, Option.bind_some, Array.getD_eq_getD_getElem?] at hp
                  have hs12 := hs 12 (by kernel_rfl)
                  simp only [Array.getD_eq_getD_getElem?, List.getElem?_toArray, List.getElem?_cons_succ, List.getElem?_cons_zero, Option.getD_some] at hs12
                  clear hs
                  clear hbs
                  have h34 := hp
                  clear hp
                  have hg34 := (getD_bool _ _).1 h34
                  clear hf
                  (try simp only [h34, hg34])
                  go_simp
                  try dsimp only
                  refine hK.out _ _ ?_ ?_
                  · change Fr [] _ _
                    ((repeat (first | (with_reducible exact Fr.refl _ _) | (with_reducible assumption) | (with_reducible refine Fr.drew ?_) | (with_reducible refine Fr.drewN ?_ _) | (with_reducible refine Fr.alloc ?_ _) | (with_reducible refine Fr.setL ?_ _ _ _ ?_) | (focus (refine Or.inl ?_; simp; done)) | (focus (refine Or.inr ?_; simp; done)) | (focus (refine Or.inr ?_; simp; omega)) | (focus (refine Or.inr ?_; omega)))); done)
                  · simp only [nth]
                    first | (unfold Is; rfl) | (unfold Any; exact trivial) | exact IsSl.new _ _ _ _ | assumption
                · intro ac wx hf hbs hs hp K hK
                  simp only [waits, holdsA, nth, Is, Any, List.filter_cons, List.filter_nil, List.map_cons, List.map_nil, Region.binds, if_true, true_and, and_true, Nat.reduceAdd, List.getElem?_cons_zero, List.getElem?_cons_succ, Option.bind_some, Array.getD_eq_getD_getElem?] at hp
                  have hs14 := hs 14 (by kernel_rfl)
                  simp only [Array.getD_eq_getD_getElem?, List.getElem?_toArray, List.getElem?_cons_succ, List.getElem?_cons_zero, Option.getD_some] at hs14
                  clear hs
                  clear hbs
                  have h34 := hp
                  clear hp
                  have hg34 := (getD_bool _ _).1 h34
                  clear hf
                  (try simp only [h34, hg34])
                  go_simp
                  try dsimp only
                  refine hK.out _ _ ?_ ?_
                  · change Fr [] _ _
                    ((repeat (first | (with_reducible exact Fr.refl _ _) | (with_reducible assumption) | (with_reducible refine Fr.drew ?_) | (with_reducible refine Fr.drewN ?_ _) | (with_reducible refine Fr.alloc ?_ _) | (with_reducible refine Fr.setL ?_ _ _ _ ?_) | (focus (refine Or.inl ?_; simp; done)) | (focus (refine Or.inr ?_; simp; done)) | (focus (refine Or.inr ?_; simp; omega)) | (focus (refine Or.inr ?_; omega)))); done)
                  · simp only [nth]
                    first | (unfold Is; rfl) | (unfold Any; exact trivial) | exact IsSl.new _ _ _ _ | assumption
                · intro ac wx hf hbs hs hp K hK
                  simp only [waits, holdsA, nth, Is, Any, List.filter_cons, List.filter_nil, List.map_cons, List.map_nil, Region.binds, if_true, true_and, and_true, Nat.reduceAdd, List.getElem?_cons_zero, List.getElem?_cons_succ, Option.bind_some, Array.getD_eq_getD_getElem?] at hp
                  clear hs
                  clear hbs
                  obtain ⟨h35, h36, h34⟩ := hp
                  have hg34 := (getD_bool _ _).1 h34
                  clear hf
                  (try simp only [h35, h36, h34, hg34])
                  go_simp
                  try dsimp only
                  refine hK.out _ _ ?_ ?_
                  · change Fr [] _ _
                    ((repeat (first | (with_reducible exact Fr.refl _ _) | (with_reducible assumption) | (with_reducible refine Fr.drew ?_) | (with_reducible refine Fr.drewN ?_ _) | (with_reducible refine Fr.alloc ?_ _) | (with_reducible refine Fr.setL ?_ _ _ _ ?_) | (focus (refine Or.inl ?_; simp; done)) | (focus (refine Or.inr ?_; simp; done)) | (focus (refine Or.inr ?_; simp; omega)) | (focus (refine Or.inr ?_; omega)))); done)
                  · simp only [nth]
                    first | (unfold Is; rfl) | (unfold Any; exact trivial) | exact IsSl.new _ _ _ _ | assumption
                · intro ac wx hf hbs hs hp K hK
                  simp only [waits, holdsA, nth, Is, Any, List.filter_cons, List.filter_nil, List.map_cons, List.map_nil, Region.binds, if_true, true_and, and_true, Nat.reduceAdd, List.getElem?_cons_zero, List.getElem?_cons_succ, Option.bind_some, Array.getD_eq_getD_getElem?] at hp
                  clear hs
                  clear hbs
                  obtain ⟨h37, h34⟩ := hp
                  have hg34 := (getD_bool _ _).1 h34
                  clear hf
                  (try simp only [h37, h34, hg34])
                  go_simp
                  try dsimp only
                  refine hK.out _ _ ?_ ?_
                  · change Fr [] _ _
                    ((repeat (first | (with_reducible exact Fr.refl _ _) | (with_reducible assumption) | (with_reducible refine Fr.drew ?_) | (with_reducible refine Fr.drewN ?_ _) | (with_reducible refine Fr.alloc ?_ _) | (with_reducible refine Fr.setL ?_ _ _ _ ?_) | (focus (refine Or.inl ?_; simp; done)) | (focus (refine Or.inr ?_; simp; done)) | (focus (refine Or.inr ?_; simp; omega)) | (focus (refine Or.inr ?_; omega)))); done)
                  · simp only [nth]
                    first | (unfold Is; rfl) | (unfold Any; exact trivial) | exact IsSl.new _ _ _ _ | assumption
                · intro ac wx hf hbs hs hp K hK
                  simp only [waits, holdsA, nth, Is, Any, List.filter_cons, List.filter_nil, List.map_cons, List.map_nil, Region.binds, if_true, true_and, and_true, Nat.reduceAdd, List.getElem?_cons_zero, List.getElem?_cons_succ, Option.bind_some, Array.getD_eq_getD_getElem?] at hp
                  clear hs
                  clear hbs
                  obtain ⟨h38, h34⟩ := hp
                  have hg34 := (getD_bool _ _).1 h34
                  have cx := kc7 wx hf
                  clear hf
                  (try simp only [h38, h34, hg34])
                  go_simp
                  try dsimp only
                  refine hK.out _ _ ?_ ?_
                  · change Fr [] _ _
                    ((repeat (first | (with_reducible exact Fr.refl _ _) | (with_reducible assumption) | (with_reducible refine Fr.drew ?_) | (with_reducible refine Fr.drewN ?_ _) | (with_reducible refine Fr.alloc ?_ _) | (with_reducible refine Fr.setL ?_ _ _ _ ?_) | (focus (refine Or.inl ?_; simp; done)) | (focus (refine Or.inr ?_; simp; done)) | (focus (refine Or.inr ?_; simp; omega)) | (focus (refine Or.inr ?_; omega)))); done)
                  · simp only [nth]
                    first | (unfold Is; rfl) | (unfold Any; exact trivial) | exact IsSl.new _ _ _ _ | assumption
                · intro ac wx hf hbs hs hp K hK
                  simp only [waits, holdsA, nth, Is, Any, List.filter_cons, List.filter_nil, List.map_cons, List.map_nil, Region.binds, if_true, true_and, and_true, Nat.reduceAdd, List.getElem?_cons_zero, List.getElem?_cons_succ, Option.bind_some, Array.getD_eq_getD_getElem?] at hp
                  clear hs
                  clear hbs
                  obtain ⟨h39, h34⟩ := hp
                  have hg34 := (getD_bool _ _).1 h34
                  clear hf
                  (try simp only [h39, h34, hg34])
                  go_simp
                  try dsimp only
                  refine hK.out _ _ ?_ ?_
                  · change Fr [] _ _
                    ((repeat (first | (with_reducible exact Fr.refl _ _) | (with_reducible assumption) | (with_reducible refine Fr.drew ?_) | (with_reducible refine Fr.drewN ?_ _) | (with_reducible refine Fr.alloc ?_ _) | (with_reducible refine Fr.setL ?_ _ _ _ ?_) | (focus (refine Or.inl ?_; simp; done)) | (focus (refine Or.inr ?_; simp; done)) | (focus (refine Or.inr ?_; simp; omega)) | (focus (refine Or.inr ?_; omega)))); done)
                  · simp only [nth]
                    first | (unfold Is; rfl) | (unfold Any; exact trivial) | exact IsSl.new _ _ _ _ | assumption
                · intro ac wx hf hbs hs hp K hK
                  simp only [waits, holdsA, nth, Is, Any, List.filter_cons, List.filter_nil, List.map_cons, List.map_nil, Region.binds, if_true, true_and, and_true, Nat.reduceAdd, List.getElem?_cons_zero, List.getElem?_cons_succ, Option.bind_some, Array.getD_eq_getD_getElem?] at hp
                  clear hs
                  clear hbs
                  obtain ⟨h34, h40⟩ := hp
                  clear hf
                  (try simp only [h34, h40])
                  go_simp
                  try dsimp only
                  refine hK.out _ _ ?_ ?_
                  · change Fr [] _ _
                    ((repeat (first | (with_reducible exact Fr.refl _ _) | (with_reducible assumption) | (with_reducible refine Fr.drew ?_) | (with_reducible refine Fr.drewN ?_ _) | (with_reducible refine Fr.alloc ?_ _) | (with_reducible refine Fr.setL ?_ _ _ _ ?_) | (focus (refine Or.inl ?_; simp; done)) | (focus (refine Or.inr ?_; simp; done)) | (focus (refine Or.inr ?_; simp; omega)) | (focus (refine Or.inr ?_; omega)))); done)
                  · simp only [nth]
                    first | (unfold Is; rfl) | (unfold Any; exact trivial) | exact IsSl.new _ _ _ _ | assumption
                · intro ac wx hf hbs hs hp K hK
                  simp only [waits, holdsA, nth, Is, Any, List.filter_cons, List.filter_nil, List.map_cons, List.map_nil, Region.binds, if_true, true_and, and_true, Nat.reduceAdd, List.getElem?_cons_zero, List.getElem?_cons_succ, Option.bind_some, Array.getD_eq_getD_getElem?] at hp
                  clear hs
                  clear hbs
                  obtain ⟨h41, h34⟩ := hp
                  clear hf
                  (try simp only [h41, h34])
                  go_simp
                  try dsimp only
                  refine hK.out _ _ ?_ ?_
                  · change Fr [] _ _
                    ((repeat (first | (with_reducible exact Fr.refl _ _) | (with_reducible assumption) | (with_reducible refine Fr.drew ?_) | (with_reducible refine Fr.drewN ?_ _) | (with_reducible refine Fr.alloc ?_ _) | (with_reducible refine Fr.setL ?_ _ _ _ ?_) | (focus (refine Or.inl ?_; simp; done)) | (focus (refine Or.inr ?_; simp; done)) | (focus (refine Or.inr ?_; simp; omega)) | (focus (refine Or.inr ?_; omega)))); done)
                  · simp only [nth]
                    first | (unfold Is; rfl) | (unfold Any; exact trivial) | exact IsSl.new _ _ _ _ | assumption
                · intro ac wx hf hbs hs hp K hK
                  simp only [waits, holdsA, nth, Is, Any, List.filter_cons, List.filter_nil, List.map_cons, List.map_nil, Region.binds, if_true, true_and, and_true, Nat.reduceAdd, List.getElem?_cons_zero, List.getElem?_cons_succ, Option.bind_some, Array.getD_eq_getD_getElem?] at hp
                  have hs12 := hs 12 (by kernel_rfl)
                  simp only [Array.getD_eq_getD_getElem?, List.getElem?_toArray, List.getElem?_cons_succ, List.getElem?_cons_zero, Option.getD_some] at hs12
                  clear hs
                  clear hbs
                  have h42 := hp
                  clear hp
                  have hg42 := (getD_bool _ _).1 h42
                  clear hf
                  (try simp only [h42, hg42])
                  go_simp
                  try dsimp only
                  refine hK.out _ _ ?_ ?_
                  · change Fr [] _ _
                    ((repeat (first | (with_reducible exact Fr.refl _ _) | (with_reducible assumption) | (with_reducible refine Fr.drew ?_) | (with_reducible refine Fr.drewN ?_ _) | (with_reducible refine Fr.alloc ?_ _) | (with_reducible refine Fr.setL ?_ _ _ _ ?_) | (focus (refine Or.inl ?_; simp; done)) | (focus (refine Or.inr ?_; simp; done)) | (focus (refine Or.inr ?_; simp; omega)) | (focus (refine Or.inr ?_; omega)))); done)
                  · simp only [nth]
                    first | (unfold Is; rfl) | (unfold Any; exact trivial) | exact IsSl.new _ _ _ _ | assumption
                · intro ac wx hf hbs hs hp K hK
                  simp only [waits, holdsA, nth, Is, Any, List.filter_cons, List.filter_nil, List.map_cons, List.map_nil, Region.binds, if_true, true_and, and_true, Nat.reduceAdd, List.getElem?_cons_zero, List.getElem?_cons_succ, Option.bind_some, Array.getD_eq_getD_getElem?] at hp
                  have hs14 := hs 14 (by kernel_rfl)
                  simp only [Array.getD_eq_getD_getElem?, List.getElem?_toArray, List.getElem?_cons_succ, List.getElem?_cons_zero, Option.getD_some] at hs14
                  clear hs
                  clear hbs
                  have h42 := hp
                  clear hp
                  have hg42 := (getD_bool _ _).1 h42
                  clear hf
                  (try simp only [h42, hg42])
                  go_simp
                  try dsimp only
                  refine hK.out _ _ ?_ ?_
                  · change Fr [] _ _
                    ((repeat (first | (with_reducible exact Fr.refl _ _) | (with_reducible assumption) | (with_reducible refine Fr.drew ?_) | (with_reducible refine Fr.drewN ?_ _) | (with_reducible refine Fr.alloc ?_ _) | (with_reducible refine Fr.setL ?_ _ _ _ ?_) | (focus (refine Or.inl ?_; simp; done)) | (focus (refine Or.inr ?_; simp; done)) | (focus (refine Or.inr ?_; simp; omega)) | (focus (refine Or.inr ?_; omega)))); done)
                  · simp only [nth]
                    first | (unfold Is; rfl) | (unfold Any; exact trivial) | exact IsSl.new _ _ _ _ | assumption
                · intro ac wx hf hbs hs hp K hK
                  simp only [waits, holdsA, nth, Is, Any, List.filter_cons, List.filter_nil, List.map_cons, List.map_nil, Region.binds, if_true, true_and, and_true, Nat.reduceAdd, List.getElem?_cons_zero, List.getElem?_cons_succ, Option.bind_some, Array.getD_eq_getD_getElem?] at hp
                  clear hs
                  clear hbs
                  obtain ⟨h43, h44, h42⟩ := hp
                  have hg42 := (getD_bool _ _).1 h42
                  clear hf
                  (try simp only [h43, h44, h42, hg42])
                  go_simp
                  try dsimp only
                  refine hK.out _ _ ?_ ?_
                  · change Fr [] _ _
                    ((repeat (first | (with_reducible exact Fr.refl _ _) | (with_reducible assumption) | (with_reducible refine Fr.drew ?_) | (with_reducible refine Fr.drewN ?_ _) | (with_reducible refine Fr.alloc ?_ _) | (with_reducible refine Fr.setL ?_ _ _ _ ?_) | (focus (refine Or.inl ?_; simp; done)) | (focus (refine Or.inr ?_; simp; done)) | (focus (refine Or.inr ?_; simp; omega)) | (focus (refine Or.inr ?_; omega)))); done)
                  · simp only [nth]
                    first | (unfold Is; rfl) | (unfold Any; exact trivial) | exact IsSl.new _ _ _ _ | assumption
                · intro ac wx hf hbs hs hp K hK
                  simp only [waits, holdsA, nth, Is, Any, List.filter_cons, List.filter_nil, List.map_cons, List.map_nil, Region.binds, if_true, true_and, and_true, Nat.reduceAdd, List.getElem?_cons_zero, List.getElem?_cons_succ, Option.bind_some, Array.getD_eq_getD_getElem?] at hp
                  clear hs
                  clear hbs
                  obtain ⟨h45, h42⟩ := hp
                  have hg42 := (getD_bool _ _).1 h42
                  clear hf
                  (try simp only [h45, h42, hg42])
                  go_simp
                  try dsimp only
                  refine hK.out _ _ ?_ ?_
                  · change Fr [] _ _
                    ((repeat (first | (with_reducible exact Fr.refl _ _) | (with_reducible assumption) | (with_reducible refine Fr.drew ?_) | (with_reducible refine Fr.drewN ?_ _) | (with_reducible refine Fr.alloc ?_ _) | (with_reducible refine Fr.setL ?_ _ _ _ ?_) | (focus (refine Or.inl ?_; simp; done)) | (focus (refine Or.inr ?_; simp; done)) | (focus (refine Or.inr ?_; simp; omega)) | (focus (refine Or.inr ?_; omega)))); done)
                  · simp only [nth]
                    first | (unfold Is; rfl) | (unfold Any; exact trivial) | exact IsSl.new _ _ _ _ | assumption
                · intro ac wx hf hbs hs hp K hK
                  simp only [waits, holdsA, nth, Is, Any, List.filter_cons, List.filter_nil, List.map_cons, List.map_nil, Region.binds, if_true, true_and, and_true, Nat.reduceAdd, List.getElem?_cons_zero, List.getElem?_cons_succ, Option.bind_some, Array.getD_eq_getD_getElem?] at hp
                  clear hs
                  clear hbs
                  obtain ⟨h46, h42⟩ := hp
                  have hg42 := (getD_bool _ _).1 h42
                  have cx := kc8 wx hf
                  clear hf
                  (try simp only [h46, h42, hg42])
                  go_simp
                  try dsimp only
                  refine hK.out _ _ ?_ ?_
                  · change Fr [] _ _
                    ((repeat (first | (with_reducible exact Fr.refl _ _) | (with_reducible assumption) | (with_reducible refine Fr.drew ?_) | (with_reducible refine Fr.drewN ?_ _) | (with_reducible refine Fr.alloc ?_ _) | (with_reducible refine Fr.setL ?_ _ _ _ ?_) | (focus (refine Or.inl ?_; simp; done)) | (focus (refine Or.inr ?_; simp; done)) | (focus (refine Or.inr ?_; simp; omega)) | (focus (refine Or.inr ?_; omega)))); done)
                  · simp only [nth]
                    first | (unfold Is; rfl) | (unfold Any; exact trivial) | exact IsSl.new _ _ _ _ | assumption
                · intro ac wx hf hbs hs hp K hK
                  simp only [waits, holdsA, nth, Is, Any, List.filter_cons, List.filter_nil, List.map_cons, List.map_nil, Region.binds, if_true, true_and, and_true, Nat.reduceAdd, List.getElem?_cons_zero, List.getElem?_cons_succ, Option.bind_some, Array.getD_eq_getD_getElem?] at hp
                  have hs15 := hs 15 (by kernel_rfl)
                  simp only [Array.getD_eq_getD_getElem?, List.getElem?_toArray, List.getElem?_cons_succ, List.getElem?_cons_zero, Option.getD_some] at hs15
                  clear hs
                  clear hbs
                  have h42 := hp
                  clear hp
                  have hg42 := (getD_bool _ _).1 h42
                  clear hf
                  (try simp only [h42, hg42])
                  go_simp
                  try dsimp only
                  refine hK.out _ _ ?_ ?_
                  · change Fr [] _ _
                    ((repeat (first | (with_reducible exact Fr.refl _ _) | (with_reducible assumption) | (with_reducible refine Fr.drew ?_) | (with_reducible refine Fr.drewN ?_ _) | (with_reducible refine Fr.alloc ?_ _) | (with_reducible refine Fr.setL ?_ _ _ _ ?_) | (focus (refine Or.inl ?_; simp; done)) | (focus (refine Or.inr ?_; simp; done)) | (focus (refine Or.inr ?_; simp; omega)) | (focus (refine Or.inr ?_; omega)))); done)
                  · simp only [nth]
                    first | (unfold Is; rfl) | (unfold Any; exact trivial) | exact IsSl.new _ _ _ _ | assumption
                · intro ac wx hf hbs hs hp K hK
                  simp only [waits, holdsA, nth, Is, Any, List.filter_cons, List.filter_nil, List.map_cons, List.map_nil, Region.binds, if_true, true_and, and_true, Nat.reduceAdd, List.getElem?_cons_zero, List.getElem?_cons_succ, Option.bind_some, Array.getD_eq_getD_getElem?] at hp
                  clear hs
                  clear hbs
                  obtain ⟨h48, h42⟩ := hp
                  have hg42 := (getD_bool _ _).1 h42
                  clear hf
                  (try simp only [h48, h42, hg42])
                  go_simp
                  try dsimp only
                  refine hK.out _ _ ?_ ?_
                  · change Fr [] _ _
                    ((repeat (first | (with_reducible exact Fr.refl _ _) | (with_reducible assumption) | (with_reducible refine Fr.drew ?_) | (with_reducible refine Fr.drewN ?_ _) | (with_reducible refine Fr.alloc ?_ _) | (with_reducible refine Fr.setL ?_ _ _ _ ?_) | (focus (refine Or.inl ?_; simp; done)) | (focus (refine Or.inr ?_; simp; done)) | (focus (refine Or.inr ?_; simp; omega)) | (focus (refine Or.inr ?_; omega)))); done)
                  · simp only [nth]
                    first | (unfold Is; rfl) | (unfold Any; exact trivial) | exact IsSl.new _ _ _ _ | assumption
                · intro ac wx hf hbs hs hp K hK
                  simp only [waits, holdsA, nth, Is, Any, List.filter_cons, List.filter_nil, List.map_cons, List.map_nil, Region.binds, if_true, true_and, and_true, Nat.reduceAdd, List.getElem?_cons_zero, List.getElem?_cons_succ, Option.bind_some, Array.getD_eq_getD_getElem?] at hp
                  clear hs
                  clear hbs
                  obtain ⟨h49, h42⟩ := hp
                  have hg42 := (getD_bool _ _).1 h42
                  clear hf
                  (try simp only [h49, h42, hg42])
                  go_simp
                  refine hK.out _ _ ?_ ?_
                  · change Fr [] _ _
                    exact (Fr.refl _ _).alloc _
                  · simp only [nth]
                    exact ⟨⟨some ⟨_, 0, none⟩, 3, 3⟩, rfl, Bts.new (l := [129, 7, 128]) (Blk.new _ _ _) (by decide) 0⟩
                · intro ac wx hf hbs hs hp K hK
                  simp only [waits, holdsA, nth, Is, Any, List.filter_cons, List.filter_nil, List.map_cons, List.map_nil, Region.binds, if_true, true_and, and_true, Nat.reduceAdd, List.getElem?_cons_zero, List.getElem?_cons_succ, Option.bind_some, Array.getD_eq_getD_getElem?] at hp
                  clear hs
                  clear hbs
                  obtain ⟨h47, h50, h42, h42_2⟩ := hp
                  have hg42 := (getD_bool _ _).1 h42
                  obtain ⟨sb, e50, hb50⟩ := h50
                  have hbx := HBD9.out.fr hf
                  clear hf
                  (try simp only [e50])
                  (try simp only [h47, h42, hg42])
                  go_simp
                  go_at_call 15
                  refine (r_Same _ sd sb [129, 7, 128] [129, 7, 128] hbx.1 hb50.1 (by simp)).mono ?_
                  rintro e w' ⟨rfl, fz⟩
                  rw [show (([129, 7, 128] : List Int) == [129, 7, 128]) = true by simp]
                  exact hK.out _ _ fz rfl
                · intro ac wx hf hbs hs hp K hK
                  simp only [waits, holdsA, nth, Is, Any, List.filter_cons, List.filter_nil, List.map_cons, List.map_nil, Region.binds, if_true, true_and, and_true, Nat.reduceAdd, List.getElem?_cons_zero, List.getElem?_cons_succ, Option.bind_some, Array.getD_eq_getD_getElem?] at hp
                  clear hs
                  clear hbs
                  obtain ⟨h51, h42⟩ := hp
                  have hg42 := (getD_bool _ _).1 h42
                  clear hf
                  (try simp only [h51, h42, hg42])
                  go_simp
                  try dsimp only
                  refine hK.out _ _ ?_ ?_
                  · change Fr [] _ _
                    ((repeat (first | (with_reducible exact Fr.refl _ _) | (with_reducible assumption) | (with_reducible refine Fr.drew ?_) | (with_reducible refine Fr.drewN ?_ _) | (with_reducible refine Fr.alloc ?_ _) | (with_reducible refine Fr.setL ?_ _ _ _ ?_) | (focus (refine Or.inl ?_; simp; done)) | (focus (refine Or.inr ?_; simp; done)) | (focus (refine Or.inr ?_; simp; omega)) | (focus (refine Or.inr ?_; omega)))); done)
                  · simp only [nth]
                    first | (unfold Is; rfl) | (unfold Any; exact trivial) | exact IsSl.new _ _ _ _ | assumption
                · intro ac wx hf hbs hs hp K hK
                  simp only [waits, holdsA, nth, Is, Any, List.filter_cons, List.filter_nil, List.map_cons, List.map_nil, Region.binds, if_true, true_and, and_true, Nat.reduceAdd, List.getElem?_cons_zero, List.getElem?_cons_succ, Option.bind_some, Array.getD_eq_getD_getElem?] at hp
                  clear hs
                  clear hbs
                  obtain ⟨h42, h52⟩ := hp
                  clear hf
                  (try simp only [h42, h52])
                  go_simp
                  try dsimp only
                  refine hK.out _ _ ?_ ?_
                  · change Fr [] _ _
                    ((repeat (first | (with_reducible exact Fr.refl _ _) | (with_reducible assumption) | (with_reducible refine Fr.drew ?_) | (with_reducible refine Fr.drewN ?_ _) | (with_reducible refine Fr.alloc ?_ _) | (with_reducible refine Fr.setL ?_ _ _ _ ?_) | (focus (refine Or.inl ?_; simp; done)) | (focus (refine Or.inr ?_; simp; done)) | (focus (refine Or.inr ?_; simp; omega)) | (focus (refine Or.inr ?_; omega)))); done)
                  · simp only [nth]
                    first | (unfold Is; rfl) | (unfold Any; exact trivial) | exact IsSl.new _ _ _ _ | assumption
              case hD =>
                intro xv wx hf hp
                simp only [List.take_succ_cons, List.take_zero, List.drop_succ_cons, List.drop_zero, fill, List.setIfInBounds_toArray, List.set_cons_zero, List.set_cons_succ, Nat.reduceAdd, Act.put]
                rw [show live 54 (deadC [none, none, none, none, none, none, none, none, none, none, none, none, none, none, none, none, none, none, none, none, none, none, none, none, none, none, none, none, none, none, none, none, none, none, none, none, none, none, none, none, none, none, none, none, none, none, none, none, none, none, some 54, none, none, none]) = [0, 1, 2, 3, 4, 5, 6, 7, 8, 9, 10, 11, 12, 13, 14, 15, 16, 17, 18, 19, 20, 21, 22, 23, 24, 25, 26, 27, 28, 29, 30, 31, 32, 33, 34, 35, 36, 37, 38, 39, 40, 41, 42, 43, 44, 45, 46, 47, 48, 49, 50, 51, 52, 53] from by decide] at hp
                simp only [holds, nth, Is, Any, true_and, and_true] at hp
                obtain ⟨p0, p1, p2, p3, p4, p5, p6, p7, p8, p9, p10, p11, p12, p13, p14, p15, p16, p17, p18, p19, p20, p21, p22, p23, p24, p25, p26, p27, p28, p29, p30, p31, p32, p33, p34, p35, p36, p37, p38, p39, p40, p41, p42, p43, p44, p45, p46, p47, p48, p49, p50, p51, p52, p53⟩ := hp
                have f13 := F13.out.tr hf
                simp only [p53]
                clear p0 p1 p2 p3 p4 p5 p6 p7 p8 p9 p10 p11 p12 p13 p14 p15 p16 p17 p18 p19 p20 p21 p22 p23 p24 p25 p26 p27 p28 p29 p30 p31 p32 p33 p34 p35 p36 p37 p38 p39 p40 p41 p42 p43 p44 p45 p46 p47 p48 p49 p51 p52 p53 kcx kc0 kc1 kc2 kc4 kc7 kc8 hf
                go_wp2
                go_roundw
                case rel => exact ⟨k + 1, by go_num, by omega, f13⟩
                case measure => simp [intOf]; omega

            · have e3 : (x != 0) = true := by simp [hxn]
              have hB8 := HB7.out.on f8
              have hcl := r_Class wr q s R x hB8.isR (by have := hB8.lenR; omega)
              rw [hB8.rel.cls x] at hcl
              have hty := fun w2 => r_Types (clsA m x) hc1 hc4 w2
              have hwc : IntKind.u8.wrap (canM (clsA m x)) = canM (clsA m x) ∧ (Lit.int .u8 (canM (clsA m x))).wf = true := by
                obtain e | e | e | e : clsA m x = 1 ∨ clsA m x = 2 ∨ clsA m x = 3 ∨ clsA m x = 4 := by omega
                all_goals rw [e]; decide
              generalize canM (clsA m x) = CM at *
              have hwc1 := hwc.1
              have HWC := Lib.hid hwc.2
              clear hxn hc1 hc4 hB8 hwc
              go_wp2_with fail
              refine hcl.mono ?_
              rintro e w' ⟨rfl, rfl⟩
              go_wp2_with fail
              refine (hty _).mono ?_
              rintro e w9 ⟨rfl, f9⟩
              have c0 := f9.cell c0 (by simp)
              have c1 := f9.cell c1 (by simp)
              have c2 := f9.cell c2 (by simp)
              have c4 := f9.cell c4 (by simp)
              have c7 := f9.cell c7 (by simp)
              have c8 := f9.cell c8 (by simp)
              have cx := f9.cell cx (by simp)
              have f10 := f8.tr f9
              have hbd9 := HBD.out.fr f9
              simp only [if_true] at hbd9
              have HBD9 := Lib.hid hbd9
              have F13 := Lib.hid f10
              clear hbd9 f8 f9 f10 hcl hty
              have kcx : ∀ wx, Fr [] w9 wx → wx.cell? ⟨ba, oa + k, none⟩ = some (.int .i64 x) := fun wx hf => hf.cell cx (by simp)
              have kc0 : ∀ wx, Fr [] w9 wx → wx.cell? ⟨bb, k * 9, none⟩ = some (.int .i64 2) := fun wx hf => hf.cell c0 (by simp)
              have kc1 : ∀ wx, Fr [] w9 wx → wx.cell? ⟨bb, k * 9 + 1, none⟩ = some (.int .i64 x) := fun wx hf => hf.cell c1 (by simp)
              have kc2 : ∀ wx, Fr [] w9 wx → wx.cell? ⟨bb, k * 9 + 2, none⟩ = some (.bool true) := fun wx hf => hf.cell c2 (by simp)
              have kc4 : ∀ wx, Fr [] w9 wx → wx.cell? ⟨bb, k * 9 + 4, none⟩ = some (.int .i64 1) := fun wx hf => hf.cell c4 (by simp)
              have kc7 : ∀ wx, Fr [] w9 wx → wx.cell? ⟨bb, k * 9 + 7, none⟩ = some (.bool true) := fun wx hf => hf.cell c7 (by simp)
              have kc8 : ∀ wx, Fr [] w9 wx → wx.cell? ⟨bb, k * 9 + 8, none⟩ = some (.slice sd.A sd.n sd.c) := fun wx hf => hf.cell c8 (by simp)
              go_wp2
              clear cx c0 c1 c2 c3 c4 c5 c6 c7 c8
              refine wp_region_keepsC [] [false, false, false, false, false, false, false, false, false, false, false, false, false, false, false, false, false, false, false, false, false, false, false, false, false, false, false, false, false, false, false, false, false, false, false, false, false, false, false, false, false, false, false, false, false, false, false, false, false, false, false, false, false, false] [none, none, none, none, none, none, none, none, none, none, none, none, none, none, none, none, none, none, none, none, none, none, none, none, none, none, none, none, none, none, none, none, none, none, none, none, none, none, none, none, none, none, none, none, none, none, none, none, none, none, some 54, none, none, none] (fun _ => True) [Is (.slice (some ⟨bb, 0, none⟩) H.length c12), Is (.int .i64 k), Is (.pointer (some ⟨bb, k * 9, none⟩)), Is (.pointer (some ⟨bb, k * 9 + 1, none⟩)), Is (.int .i64 x), Is (.slice (some ⟨ba, oa, none⟩) H.length c13), Is (.int .i64 k), Is (.pointer (some ⟨ba, oa + k, none⟩)), Is (.int .i64 x), Is (.bool false), Is (.bool false), Is (.slice (some ⟨bb, 0, none⟩) H.length c12), Is (.int .i64 k), Is (.pointer (some ⟨bb, k * 9, none⟩)), Is (.pointer (some ⟨bb, k * 9, none⟩)), Is (.int .i64 2), Is (.bool false), Is (.bool false), Is (.bool false), Is (.slice (some ⟨bb, 0, none⟩) H.length c12), Is (.int .i64 k), Is (.pointer (some ⟨bb, k * 9, none⟩)), Is (.pointer (some ⟨bb, k * 9 + 4, none⟩)), Is (.int .i64 1), Is (.bool false), Is (.bool false), Is (.bool false), Is (.slice (some ⟨bb, 0, none⟩) H.length c12), Is (.int .i64 k), Is (.pointer (some ⟨bb, k * 9, none⟩)), Is (.pointer (some ⟨bb, k * 9 + 2, none⟩)), Is (.bool true), Is (.bool false), Is (.bool false), Is (.bool false), Is (.slice (some ⟨bb, 0, none⟩) H.length c12), Is (.int .i64 k), Is (.pointer (some ⟨bb, k * 9, none⟩)), Is (.pointer (some ⟨bb, k * 9 + 7, none⟩)), Is (.bool true), Is (.bool false), Is (.bool false), Is (.bool false), Is (.slice (some ⟨bb, 0, none⟩) H.length c12), Is (.int .i64 k), Is (.pointer (some ⟨bb, k * 9, none⟩)), Is (.pointer (some ⟨bb, k * 9 + 8, none⟩)), Is (.slice sd.A sd.n sd.c), Is (.int .i64 CM), Is (.int .u8 CM), (CloneF 0 [129, CM, 128]), Is (.bool true), Is (.bool false), Is (.bool false)] 54 (by kernel_rfl) (by kernel_rfl) (by kernel_rfl) (by kernel_rfl) (by kernel_rfl) (by kernel_rfl) (by kernel_rfl) (by kernel_rfl) ?hV (fun _ _ _ h => h) trivial ?hS ?hD
              case hV =>
                repeat (first | exact trivial | exact Is.keepsN _ | exact Any.keepsN | exact CloneF.keeps | refine And.intro ?_ ?_)
              case hS =>
                (repeat' (first | exact trivial | refine And.intro ?_ ?_))
                · intro ac wx hf hbs hs hp K hK
                  simp only [waits, holdsA, nth, Is, Any, List.filter_cons, List.filter_nil, List.map_cons, List.map_nil, Region.binds, if_true, true_and, and_true, Nat.reduceAdd, List.getElem?_cons_zero, List.getElem?_cons_succ, Option.bind_some, Array.getD_eq_getD_getElem?] at hp
                  have hs12 := hs 12 (by kernel_rfl)
                  simp only [Array.getD_eq_getD_getElem?, List.getElem?_toArray, List.getElem?_cons_succ, List.getElem?_cons_zero, Option.getD_some] at hs12
                  clear hs
                  clear hbs
                  clear hp
                  clear hf
                  go_simp
                  try dsimp only
                  refine hK.out _ _ ?_ ?_
                  · change Fr [] _ _
                    ((repeat (first | (with_reducible exact Fr.refl _ _) | (with_reducible assumption) | (with_reducible refine Fr.drew ?_) | (with_reducible refine Fr.drewN ?_ _) | (with_reducible refine Fr.alloc ?_ _) | (with_reducible refine Fr.setL ?_ _ _ _ ?_) | (focus (refine Or.inl ?_; simp; done)) | (focus (refine Or.inr ?_; simp; done)) | (focus (refine Or.inr ?_; simp; omega)) | (focus (refine Or.inr ?_; omega)))); done)
                  · simp only [nth]
                    first | (unfold Is; rfl) | (unfold Any; exact trivial) | exact IsSl.new _ _ _ _ | assumption
                · intro ac wx hf hbs hs hp K hK
                  simp only [waits, holdsA, nth, Is, Any, List.filter_cons, List.filter_nil, List.map_cons, List.map_nil, Region.binds, if_true, true_and, and_true, Nat.reduceAdd, List.getElem?_cons_zero, List.getElem?_cons_succ, Option.bind_some, Array.getD_eq_getD_getElem?] at hp
                  have hs14 := hs 14 (by kernel_rfl)
                  simp only [Array.getD_eq_getD_getElem?, List.getElem?_toArray, List.getElem?_cons_succ, List.getElem?_cons_zero, Option.getD_some] at hs14
                  clear hs
                  clear hbs
                  clear hp
                  clear hf
                  go_simp
                  try dsimp only
                  refine hK.out _ _ ?_ ?_
                  · change Fr [] _ _
                    ((repeat (first | (with_reducible exact Fr.refl _ _) | (with_reducible assumption) | (with_reducible refine Fr.drew ?_) | (with_reducible refine Fr.drewN ?_ _) | (with_reducible refine Fr.alloc ?_ _) | (with_reducible refine Fr.setL ?_ _ _ _ ?_) | (focus (refine Or.inl ?_; simp; done)) | (focus (refine Or.inr ?_; simp; done)) | (focus (refine Or.inr ?_; simp; omega)) | (focus (refine Or.inr ?_; omega)))); done)
                  · simp only [nth]
                    first | (unfold Is; rfl) | (unfold Any; exact trivial) | exact IsSl.new _ _ _ _ | assumption
                · intro ac wx hf hbs hs hp K hK
                  simp only [waits, holdsA, nth, Is, Any, List.filter_cons, List.filter_nil, List.map_cons, List.map_nil, Region.binds, if_true, true_and, and_true, Nat.reduceAdd, List.getElem?_cons_zero, List.getElem?_cons_succ, Option.bind_some, Array.getD_eq_getD_getElem?] at hp
                  clear hs
                  clear hbs
                  obtain ⟨h0, h1⟩ := hp
                  clear hf
                  (try simp only [h0, h1])
                  go_simp
                  try dsimp only
                  refine hK.out _ _ ?_ ?_
                  · change Fr [] _ _
                    ((repeat (first | (with_reducible exact Fr.refl _ _) | (with_reducible assumption) | (with_reducible refine Fr.drew ?_) | (with_reducible refine Fr.drewN ?_ _) | (with_reducible refine Fr.alloc ?_ _) | (with_reducible refine Fr.setL ?_ _ _ _ ?_) | (focus (refine Or.inl ?_; simp; done)) | (focus (refine Or.inr ?_; simp; done)) | (focus (refine Or.inr ?_; simp; omega)) | (focus (refine Or.inr ?_; omega)))); done)
                  · simp only [nth]
                    first | (unfold Is; rfl) | (unfold Any; exact trivial) | exact IsSl.new _ _ _ _ | assumption
                · intro ac wx hf hbs hs hp K hK
                  simp only [waits, holdsA, nth, Is, Any, List.filter_cons, List.filter_nil, List.map_cons, List.map_nil, Region.binds, if_true, true_and, and_true, Nat.reduceAdd, List.getElem?_cons_zero, List.getElem?_cons_succ, Option.bind_some, Array.getD_eq_getD_getElem?] at hp
                  clear hs
                  clear hbs
                  have h2 := hp
                  clear hp
                  clear hf
                  (try simp only [h2])
                  go_simp
                  try dsimp only
                  refine hK.out _ _ ?_ ?_
                  · change Fr [] _ _
                    ((repeat (first | (with_reducible exact Fr.refl _ _) | (with_reducible assumption) | (with_reducible refine Fr.drew ?_) | (with_reducible refine Fr.drewN ?_ _) | (with_reducible refine Fr.alloc ?_ _) | (with_reducible refine Fr.setL ?_ _ _ _ ?_) | (focus (refine Or.inl ?_; simp; done)) | (focus (refine Or.inr ?_; simp; done)) | (focus (refine Or.inr ?_; simp; omega)) | (focus (refine Or.inr ?_; omega)))); done)
                  · simp only [nth]
                    first | (unfold Is; rfl) | (unfold Any; exact trivial) | exact IsSl.new _ _ _ _ | assumption
                · intro ac wx hf hbs hs hp K hK
                  simp only [waits, holdsA, nth, Is, Any, List.filter_cons, List.filter_nil, List.map_cons, List.map_nil, Region.binds, if_true, true_and, and_true, Nat.reduceAdd, List.getElem?_cons_zero, List.getElem?_cons_succ, Option.bind_some, Array.getD_eq_getD_getElem?] at hp
                  clear hs
                  clear hbs
                  have h3 := hp
                  clear hp
                  have cx := kc1 wx hf
                  clear hf
                  (try simp only [h3])
                  go_simp
                  try dsimp only
                  refine hK.out _ _ ?_ ?_
                  · change Fr [] _ _
                    ((repeat (first | (with_reducible exact Fr.refl _ _) | (with_reducible assumption) | (with_reducible refine Fr.drew ?_) | (with_reducible refine Fr.drewN ?_ _) | (with_reducible refine Fr.alloc ?_ _) | (with_reducible refine Fr.setL ?_ _ _ _ ?_) | (focus (refine Or.inl ?_; simp; done)) | (focus (refine Or.inr ?_; simp; done)) | (focus (refine Or.inr ?_; simp; omega)) | (focus (refine Or.inr ?_; omega)))); done)
                  · simp only [nth]
                    first | (unfold Is; rfl) | (unfold Any; exact trivial) | exact IsSl.new _ _ _ _ | assumption
                · intro ac wx hf hbs hs hp K hK
                  simp only [waits, holdsA, nth, Is, Any, List.filter_cons, List.filter_nil, List.map_cons, List.map_nil, Region.binds, if_true, true_and, and_true, Nat.reduceAdd, List.getElem?_cons_zero, List.getElem?_cons_succ, Option.bind_some, Array.getD_eq_getD_getElem?] at hp
                  have hs13 := hs 13 (by kernel_rfl)
                  simp only [Array.getD_eq_getD_getElem?, List.getElem?_toArray, List.getElem?_cons_succ, List.getElem?_cons_zero, Option.getD_some] at hs13
                  clear hs
                  clear hbs
                  clear hp
                  clear hf
                  go_simp
                  try dsimp only
                  refine hK.out _ _ ?_ ?_
                  · change Fr [] _ _
                    ((repeat (first | (with_reducible exact Fr.refl _ _) | (with_reducible assumption) | (with_reducible refine Fr.drew ?_) | (with_reducible refine Fr.drewN ?_ _) | (with_reducible refine Fr.alloc ?_ _) | (with_reducible refine Fr.setL ?_ _ _ _ ?_) | (focus (refine Or.inl ?_; simp; done)) | (focus (refine Or.inr ?_; simp; done)) | (focus (refine Or.inr ?_; simp; omega)) | (focus (refine Or.inr ?_; omega)))); done)
                  · simp only [nth]
                    first | (unfold Is; rfl) | (unfold Any; exact trivial) | exact IsSl.new _ _ _ _ | assumption
                · intro ac wx hf hbs hs hp K hK
                  simp only [waits, holdsA, nth, Is, Any, List.filter_cons, List.filter_nil, List.map_cons, List.map_nil, Region.binds, if_true, true_and, and_true, Nat.reduceAdd, List.getElem?_cons_zero, List.getElem?_cons_succ, Option.bind_some, Array.getD_eq_getD_getElem?] at hp
                  have hs14 := hs 14 (by kernel_rfl)
                  simp only [Array.getD_eq_getD_getElem?, List.getElem?_toArray, List.getElem?_cons_succ, List.getElem?_cons_zero, Option.getD_some] at hs14
                  clear hs
                  clear hbs
                  clear hp
                  clear hf
                  go_simp
                  try dsimp only
                  refine hK.out _ _ ?_ ?_
                  · change Fr [] _ _
                    ((repeat (first | (with_reducible exact Fr.refl _ _) | (with_reducible assumption) | (with_reducible refine Fr.drew ?_) | (with_reducible refine Fr.drewN ?_ _) | (with_reducible refine Fr.alloc ?_ _) | (with_reducible refine Fr.setL ?_ _ _ _ ?_) | (focus (refine Or.inl ?_; simp; done)) | (focus (refine Or.inr ?_; simp; done)) | (focus (refine Or.inr ?_; simp; omega)) | (focus (refine Or.inr ?_; omega)))); done)
                  · simp only [nth]
                    first | (unfold Is; rfl) | (unfold Any; exact trivial) | exact IsSl.new _ _ _ _ | assumption
                · intro ac wx hf hbs hs hp K hK
                  simp only [waits, holdsA, nth, Is, Any, List.filter_cons, List.filter_nil, List.map_cons, List.map_nil, Region.binds, if_true, true_and, and_true, Nat.reduceAdd, List.getElem?_cons_zero, List.getElem?_cons_succ, Option.bind_some, Array.getD_eq_getD_getElem?] at hp
                  clear hs
                  clear hbs
                  obtain ⟨h5, h6⟩ := hp
                  clear hf
                  (try simp only [h5, h6])
                  go_simp
                  try dsimp only
                  refine hK.out _ _ ?_ ?_
                  · change Fr [] _ _
                    ((repeat (first | (with_reducible exact Fr.refl _ _) | (with_reducible assumption) | (with_reducible refine Fr.drew ?_) | (with_reducible refine Fr.drewN ?_ _) | (with_reducible refine Fr.alloc ?_ _) | (with_reducible refine Fr.setL ?_ _ _ _ ?_) | (focus (refine Or.inl ?_; simp; done)) | (focus (refine Or.inr ?_; simp; done)) | (focus (refine Or.inr ?_; simp; omega)) | (focus (refine Or.inr ?_; omega)))); done)
                  · simp only [nth]
                    first | (unfold Is; rfl) | (unfold Any; exact trivial) | exact IsSl.new _ _ _ _ | assumption
                · intro ac wx hf hbs hs hp K hK
                  simp only [waits, holdsA, nth, Is, Any, List.filter_cons, List.filter_nil, List.map_cons, List.map_nil, Region.binds, if_true, true_and, and_true, Nat.reduceAdd, List.getElem?_cons_zero, List.getElem?_cons_succ, Option.bind_some, Array.getD_eq_getD_getElem?] at hp
                  clear hs
                  clear hbs
                  have h7 := hp
                  clear hp
                  have cx := kcx wx hf
                  clear hf
                  (try simp only [h7])
                  go_simp
                  try dsimp only
                  refine hK.out _ _ ?_ ?_
                  · change Fr [] _ _
                    ((repeat (first | (with_reducible exact Fr.refl _ _) | (with_reducible assumption) | (with_reducible refine Fr.drew ?_) | (with_reducible refine Fr.drewN ?_ _) | (with_reducible refine Fr.alloc ?_ _) | (with_reducible refine Fr.setL ?_ _ _ _ ?_) | (focus (refine Or.inl ?_; simp; done)) | (focus (refine Or.inr ?_; simp; done)) | (focus (refine Or.inr ?_; simp; omega)) | (focus (refine Or.inr ?_; omega)))); done)
                  · simp only [nth]
                    first | (unfold Is; rfl) | (unfold Any; exact trivial) | exact IsSl.new _ _ _ _ | assumption
                · intro ac wx hf hbs hs hp K hK
                  simp only [waits, holdsA, nth, Is, Any, List.filter_cons, List.filter_nil, List.map_cons, List.map_nil, Region.binds, if_true, true_and, and_true, Nat.reduceAdd, List.getElem?_cons_zero, List.getElem?_cons_succ, Option.bind_some, Array.getD_eq_getD_getElem?] at hp
                  clear hs
                  clear hbs
                  obtain ⟨h4, h8⟩ := hp
                  clear hf
                  (try simp only [h4, h8])
                  go_simp
                  try dsimp only
                  refine hK.out _ _ ?_ ?_
                  · change Fr [] _ _
                    ((repeat (first | (with_reducible exact Fr.refl _ _) | (with_reducible assumption) | (with_reducible refine Fr.drew ?_) | (with_reducible refine Fr.drewN ?_ _) | (with_reducible refine Fr.alloc ?_ _) | (with_reducible refine Fr.setL ?_ _ _ _ ?_) | (focus (refine Or.inl ?_; simp; done)) | (focus (refine Or.inr ?_; simp; done)) | (focus (refine Or.inr ?_; simp; omega)) | (focus (refine Or.inr ?_; omega)))); done)
                  · simp only [nth]
                    first | (unfold Is; rfl) | (unfold Any; exact trivial) | exact IsSl.new _ _ _ _ | assumption
                · intro ac wx hf hbs hs hp K hK
                  simp only [waits, holdsA, nth, Is, Any, List.filter_cons, List.filter_nil, List.map_cons, List.map_nil, Region.binds, if_true, true_and, and_true, Nat.reduceAdd, List.getElem?_cons_zero, List.getElem?_cons_succ, Option.bind_some, Array.getD_eq_getD_getElem?] at hp
                  clear hs
                  clear hbs
                  have h9 := hp
                  clear hp
                  clear hf
                  (try simp only [h9])
                  go_simp
                  try dsimp only
                  refine hK.out _ _ ?_ ?_
                  · change Fr [] _ _
                    ((repeat (first | (with_reducible exact Fr.refl _ _) | (with_reducible assumption) | (with_reducible refine Fr.drew ?_) | (with_reducible refine Fr.drewN ?_ _) | (with_reducible refine Fr.alloc ?_ _) | (with_reducible refine Fr.setL ?_ _ _ _ ?_) | (focus (refine Or.inl ?_; simp; done)) | (focus (refine Or.inr ?_; simp; done)) | (focus (refine Or.inr ?_; simp; omega)) | (focus (refine Or.inr ?_; omega)))); done)
                  · simp only [nth]
                    first | (unfold Is; rfl) | (unfold Any; exact trivial) | exact IsSl.new _ _ _ _ | assumption
                · intro ac wx hf hbs hs hp K hK
                  simp only [waits, holdsA, nth, Is, Any, List.filter_cons, List.filter_nil, List.map_cons, List.map_nil, Region.binds, if_true, true_and, and_true, Nat.reduceAdd, List.getElem?_cons_zero, List.getElem?_cons_succ, Option.bind_some, Array.getD_eq_getD_getElem?] at hp
                  have hs12 := hs 12 (by kernel_rfl)
                  simp only [Array.getD_eq_getD_getElem?, List.getElem?_toArray, List.getElem?_cons_succ, List.getElem?_cons_zero, Option.getD_some] at hs12
                  clear hs
                  clear hbs
                  have h10 := hp
                  clear hp
                  have hg10 := (getD_bool _ _).1 h10
                  clear hf
                  (try simp only [h10, hg10])
                  go_simp
                  try dsimp only
                  refine hK.out _ _ ?_ ?_
                  · change Fr [] _ _
                    ((repeat (first | (with_reducible exact Fr.refl _ _) | (with_reducible assumption) | (with_reducible refine Fr.drew ?_) | (with_reducible refine Fr.drewN ?_ _) | (with_reducible refine Fr.alloc ?_ _) | (with_reducible refine Fr.setL ?_ _ _ _ ?_) | (focus (refine Or.inl ?_; simp; done)) | (focus (refine Or.inr ?_; simp; done)) | (focus (refine Or.inr ?_; simp; omega)) | (focus (refine Or.inr ?_; omega)))); done)
                  · simp only [nth]
                    first | (unfold Is; rfl) | (unfold Any; exact trivial) | exact IsSl.new _ _ _ _ | assumption
                · intro ac wx hf hbs hs hp K hK
                  simp only [waits, holdsA, nth, Is, Any, List.filter_cons, List.filter_nil, List.map_cons, List.map_nil, Region.binds, if_true, true_and, and_true, Nat.reduceAdd, List.getElem?_cons_zero, List.getElem?_cons_succ, Option.bind_some, Array.getD_eq_getD_getElem?] at hp
                  have hs14 := hs 14 (by kernel_rfl)
                  simp only [Array.getD_eq_getD_getElem?, List.getElem?_toArray, List.getElem?_cons_succ, List.getElem?_cons_zero, Option.getD_some] at hs14
                  clear hs
                  clear hbs
                  have h10 := hp
                  clear hp
                  have hg10 := (getD_bool _ _).1 h10
                  clear hf
                  (try simp only [h10, hg10])
                  go_simp
                  try dsimp only
                  refine hK.out _ _ ?_ ?_
                  · change Fr [] _ _
                    ((repeat (first | (with_reducible exact Fr.refl _ _) | (with_reducible assumption) | (with_reducible refine Fr.drew ?_) | (with_reducible refine Fr.drewN ?_ _) | (with_reducible refine Fr.alloc ?_ _) | (with_reducible refine Fr.setL ?_ _ _ _ ?_) | (focus (refine Or.inl ?_; simp; done)) | (focus (refine Or.inr ?_; simp; done)) | (focus (refine Or.inr ?_; simp; omega)) | (focus (refine Or.inr ?_; omega)))); done)
                  · simp only [nth]
                    first | (unfold Is; rfl) | (unfold Any; exact trivial) | exact IsSl.new _ _ _ _ | assumption
                · intro ac wx hf hbs hs hp K hK
                  simp only [waits, holdsA, nth, Is, Any, List.filter_cons, List.filter_nil, List.map_cons, List.map_nil, Region.binds, if_true, true_and, and_true, Nat.reduceAdd, List.getElem?_cons_zero, List.getElem?_cons_succ, Option.bind_some, Array.getD_eq_getD_getElem?] at hp
                  clear hs
                  clear hbs
                  obtain ⟨h11, h12, h10⟩ := hp
                  have hg10 := (getD_bool _ _).1 h10
                  clear hf
                  (try simp only [h11, h12, h10, hg10])
                  go_simp
                  try dsimp only
                  refine hK.out _ _ ?_ ?_
                  · change Fr [] _ _
                    ((repeat (first | (with_reducible exact Fr.refl _ _) | (with_reducible assumption) | (with_reducible refine Fr.drew ?_) | (with_reducible refine Fr.drewN ?_ _) | (with_reducible refine Fr.alloc ?_ _) | (with_reducible refine Fr.setL ?_ _ _ _ ?_) | (focus (refine Or.inl ?_; simp; done)) | (focus (refine Or.inr ?_; simp; done)) | (focus (refine Or.inr ?_; simp; omega)) | (focus (refine Or.inr ?_; omega)))); done)
                  · simp only [nth]
                    first | (unfold Is; rfl) | (unfold Any; exact trivial) | exact IsSl.new _ _ _ _ | assumption
                · intro ac wx hf hbs hs hp K hK
                  simp only [waits, holdsA, nth, Is, Any, List.filter_cons, List.filter_nil, List.map_cons, List.map_nil, Region.binds, if_true, true_and, and_true, Nat.reduceAdd, List.getElem?_cons_zero, List.getElem?_cons_succ, Option.bind_some, Array.getD_eq_getD_getElem?] at hp
                  clear hs
                  clear hbs
                  obtain ⟨h13, h10⟩ := hp
                  have hg10 := (getD_bool _ _).1 h10
                  clear hf
                  (try simp only [h13, h10, hg10])
                  go_simp
                  try dsimp only
                  refine hK.out _ _ ?_ ?_
                  · change Fr [] _ _
                    ((repeat (first | (with_reducible exact Fr.refl _ _) | (with_reducible assumption) | (with_reducible refine Fr.drew ?_) | (with_reducible refine Fr.drewN ?_ _) | (with_reducible refine Fr.alloc ?_ _) | (with_reducible refine Fr.setL ?_ _ _ _ ?_) | (focus (refine Or.inl ?_; simp; done)) | (focus (refine Or.inr ?_; simp; done)) | (focus (refine Or.inr ?_; simp; omega)) | (focus (refine Or.inr ?_; omega)))); done)
                  · simp only [nth]
                    first | (unfold Is; rfl) | (unfold Any; exact trivial) | exact IsSl.new _ _ _ _ | assumption
                · intro ac wx hf hbs hs hp K hK
                  simp only [waits, holdsA, nth, Is, Any, List.filter_cons, List.filter_nil, List.map_cons, List.map_nil, Region.binds, if_true, true_and, and_true, Nat.reduceAdd, List.getElem?_cons_zero, List.getElem?_cons_succ, Option.bind_some, Array.getD_eq_getD_getElem?] at hp
                  clear hs
                  clear hbs
                  obtain ⟨h14, h10⟩ := hp
                  have hg10 := (getD_bool _ _).1 h10
                  have cx := kc0 wx hf
                  clear hf
                  (try simp only [h14, h10, hg10])
                  go_simp
                  try dsimp only
                  refine hK.out _ _ ?_ ?_
                  · change Fr [] _ _
                    ((repeat (first | (with_reducible exact Fr.refl _ _) | (with_reducible assumption) | (with_reducible refine Fr.drew ?_) | (with_reducible refine Fr.drewN ?_ _) | (with_reducible refine Fr.alloc ?_ _) | (with_reducible refine Fr.setL ?_ _ _ _ ?_) | (focus (refine Or.inl ?_; simp; done)) | (focus (refine Or.inr ?_; simp; done)) | (focus (refine Or.inr ?_; simp; omega)) | (focus (refine Or.inr ?_; omega)))); done)
                  · simp only [nth]
                    first | (unfold Is; rfl) | (unfold Any; exact trivial) | exact IsSl.new _ _ _ _ | assumption
                · intro ac wx hf hbs hs hp K hK
                  simp only [waits, holdsA, nth, Is, Any, List.filter_cons, List.filter_nil, List.map_cons, List.map_nil, Region.binds, if_true, true_and, and_true, Nat.reduceAdd, List.getElem?_cons_zero, List.getElem?_cons_succ, Option.bind_some, Array.getD_eq_getD_getElem?] at hp
                  clear hs
                  clear hbs
                  obtain ⟨h15, h10⟩ := hp
                  have hg10 := (getD_bool _ _).1 h10
                  clear hf
                  (try simp only [h15, h10, hg10])
                  go_simp
                  try dsimp only
                  refine hK.out _ _ ?_ ?_
                  · change Fr [] _ _
                    ((repeat (first | (with_reducible exact Fr.refl _ _) | (with_reducible assumption) | (with_reducible refine Fr.drew ?_) | (with_reducible refine Fr.drewN ?_ _) | (with_reducible refine Fr.alloc ?_ _) | (with_reducible refine Fr.setL ?_ _ _ _ ?_) | (focus (refine Or.inl ?_; simp; done)) | (focus (refine Or.inr ?_; simp; done)) | (focus (refine Or.inr ?_; simp; omega)) | (focus (refine Or.inr ?_; omega)))); done)
                  · simp only [nth]
                    first | (unfold Is; rfl) | (unfold Any; exact trivial) | exact IsSl.new _ _ _ _ | assumption
                · intro ac wx hf hbs hs hp K hK
                  simp only [waits, holdsA, nth, Is, Any, List.filter_cons, List.filter_nil, List.map_cons, List.map_nil, Region.binds, if_true, true_and, and_true, Nat.reduceAdd, List.getElem?_cons_zero, List.getElem?_cons_succ, Option.bind_some, Array.getD_eq_getD_getElem?] at hp
                  clear hs
                  clear hbs
                  obtain ⟨h10, h16⟩ := hp
                  clear hf
                  (try simp only [h10, h16])
                  go_simp
                  try dsimp only
                  refine hK.out _ _ ?_ ?_
                  · change Fr [] _ _
                    ((repeat (first | (with_reducible exact Fr.refl _ _) | (with_reducible assumption) | (with_reducible refine Fr.drew ?_) | (with_reducible refine Fr.drewN ?_ _) | (with_reducible refine Fr.alloc ?_ _) | (with_reducible refine Fr.setL ?_ _ _ _ ?_) | (focus (refine Or.inl ?_; simp; done)) | (focus (refine Or.inr ?_; simp; done)) | (focus (refine Or.inr ?_; simp; omega)) | (focus (refine Or.inr ?_; omega)))); done)
                  · simp only [nth]
                    first | (unfold Is; rfl) | (unfold Any; exact trivial) | exact IsSl.new _ _ _ _ | assumption
                · intro ac wx hf hbs hs hp K hK
                  simp only [waits, holdsA, nth, Is, Any, List.filter_cons, List.filter_nil, List.map_cons, List.map_nil, Region.binds, if_true, true_and, and_true, Nat.reduceAdd, List.getElem?_cons_zero, List.getElem?_cons_succ, Option.bind_some, Array.getD_eq_getD_getElem?] at hp
                  clear hs
                  clear hbs
                  obtain ⟨h17, h10⟩ := hp
                  clear hf
                  (try simp only [h17, h10])
                  go_simp
                  try dsimp only
                  refine hK.out _ _ ?_ ?_
                  · change Fr [] _ _
                    ((repeat (first | (with_reducible exact Fr.refl _ _) | (with_reducible assumption) | (with_reducible refine Fr.drew ?_) | (with_reducible refine Fr.drewN ?_ _) | (with_reducible refine Fr.alloc ?_ _) | (with_reducible refine Fr.setL ?_ _ _ _ ?_) | (focus (refine Or.inl ?_; simp; done)) | (focus (refine Or.inr ?_; simp; done)) | (focus (refine Or.inr ?_; simp; omega)) | (focus (refine Or.inr ?_; omega)))); done)
                  · simp only [nth]
                    first | (unfold Is; rfl) | (unfold Any; exact trivial) | exact IsSl.new _ _ _ _ | assumption
                · intro ac wx hf hbs hs hp K hK
                  simp only [waits, holdsA, nth, Is, Any, List.filter_cons, List.filter_nil, List.map_cons, List.map_nil, Region.binds, if_true, true_and, and_true, Nat.reduceAdd, List.getElem?_cons_zero, List.getElem?_cons_succ, Option.bind_some, Array.getD_eq_getD_getElem?] at hp
                  have hs12 := hs 12 (by kernel_rfl)
                  simp only [Array.getD_eq_getD_getElem?, List.getElem?_toArray, List.getElem?_cons_succ, List.getElem?_cons_zero, Option.getD_some] at hs12
                  clear hs
                  clear hbs
                  have h18 := hp
                  clear hp
                  have hg18 := (getD_bool _ _).1 h18
                  clear hf
                  (try simp only [h18, hg18])
                  go_simp
                  try dsimp only
                  refine hK.out _ _ ?_ ?_
                  · change Fr [] _ _
                    ((repeat (first | (with_reducible exact Fr.refl _ _) | (with_reducible assumption) | (with_reducible refine Fr.drew ?_) | (with_reducible refine Fr.drewN ?_ _) | (with_reducible refine Fr.alloc ?_ _) | (with_reducible refine Fr.setL ?_ _ _ _ ?_) | (focus (refine Or.inl ?_; simp; done)) | (focus (refine Or.inr ?_; simp; done)) | (focus (refine Or.inr ?_; simp; omega)) | (focus (refine Or.inr ?_; omega)))); done)
                  · simp only [nth]
                    first | (unfold Is; rfl) | (unfold Any; exact trivial) | exact IsSl.new _ _ _ _ | assumption
                · intro ac wx hf hbs hs hp K hK
                  simp only [waits, holdsA, nth, Is, Any, List.filter_cons, List.filter_nil, List.map_cons, List.map_nil, Region.binds, if_true, true_and, and_true, Nat.reduceAdd, List.getElem?_cons_zero, List.getElem?_cons_succ, Option.bind_some, Array.getD_eq_getD_getElem?] at hp
                  have hs14 := hs 14 (by kernel_rfl)
                  simp only [Array.getD_eq_getD_getElem?, List.getElem?_toArray, List.getElem?_cons_succ, List.getElem?_cons_zero, Option.getD_some] at hs14
                  clear hs
                  clear hbs
                  have h18 := hp
                  clear hp
                  have hg18 := (getD_bool _ _).1 h18
                  clear hf
                  (try simp only [h18, hg18])
                  go_simp
                  try dsimp only
                  refine hK.out _ _ ?_ ?_
                  · change Fr [] _ _
                    ((repeat (first | (with_reducible exact Fr.refl _ _) | (with_reducible assumption) | (with_reducible refine Fr.drew ?_) | (with_reducible refine Fr.drewN ?_ _) | (with_reducible refine Fr.alloc ?_ _) | (with_reducible refine Fr.setL ?_ _ _ _ ?_) | (focus (refine Or.inl ?_; simp; done)) | (focus (refine Or.inr ?_; simp; done)) | (focus (refine Or.inr ?_; simp; omega)) | (focus (refine Or.inr ?_; omega)))); done)
                  · simp only [nth]
                    first | (unfold Is; rfl) | (unfold Any; exact trivial) | exact IsSl.new _ _ _ _ | assumption
                · intro ac wx hf hbs hs hp K hK
                  simp only [waits, holdsA, nth, Is, Any, List.filter_cons, List.filter_nil, List.map_cons, List.map_nil, Region.binds, if_true, true_and, and_true, Nat.reduceAdd, List.getElem?_cons_zero, List.getElem?_cons_succ, Option.bind_some, Array.getD_eq_getD_getElem?] at hp
                  clear hs
                  clear hbs
                  obtain ⟨h19, h20, h18⟩ := hp
                  have hg18 := (getD_bool _ _).1 h18
                  clear hf
                  (try simp only [h19, h20, h18, hg18])
                  go_simp
                  try dsimp only
                  refine hK.out _ _ ?_ ?_
                  · change Fr [] _ _
                    ((repeat (first | (with_reducible exact Fr.refl _ _) | (with_reducible assumption) | (with_reducible refine Fr.drew ?_) | (with_reducible refine Fr.drewN ?_ _) | (with_reducible refine Fr.alloc ?_ _) | (with_reducible refine Fr.setL ?_ _ _ _ ?_) | (focus (refine Or.inl ?_; simp; done)) | (focus (refine Or.inr ?_; simp; done)) | (focus (refine Or.inr ?_; simp; omega)) | (focus (refine Or.inr ?_; omega)))); done)
                  · simp only [nth]
                    first | (unfold Is; rfl) | (unfold Any; exact trivial) | exact IsSl.new _ _ _ _ | assumption
                · intro ac wx hf hbs hs hp K hK
                  simp only [waits, holdsA, nth, Is, Any, List.filter_cons, List.filter_nil, List.map_cons, List.map_nil, Region.binds, if_true, true_and, and_true, Nat.reduceAdd, List.getElem?_cons_zero, List.getElem?_cons_succ, Option.bind_some, Array.getD_eq_getD_getElem?] at hp
                  clear hs
                  clear hbs
                  obtain ⟨h21, h18⟩ := hp
                  have hg18 := (getD_bool _ _).1 h18
                  clear hf
                  (try simp only [h21, h18, hg18])
                  go_simp
                  try dsimp only
                  refine hK.out _ _ ?_ ?_
                  · change Fr [] _ _
                    ((repeat (first | (with_reducible exact Fr.refl _ _) | (with_reducible assumption) | (with_reducible refine Fr.drew ?_) | (with_reducible refine Fr.drewN ?_ _) | (with_reducible refine Fr.alloc ?_ _) | (with_reducible refine Fr.setL ?_ _ _ _ ?_) | (focus (refine Or.inl ?_; simp; done)) | (focus (refine Or.inr ?_; simp; done)) | (focus (refine Or.inr ?_; simp; omega)) | (focus (refine Or.inr ?_; omega)))); done)
                  · simp only [nth]
                    first | (unfold Is; rfl) | (unfold Any; exact trivial) | exact IsSl.new _ _ _ _ | assumption
                · intro ac wx hf hbs hs hp K hK
                  simp only [waits, holdsA, nth, Is, Any, List.filter_cons, List.filter_nil, List.map_cons, List.map_nil, Region.binds, if_true, true_and, and_true, Nat.reduceAdd, List.getElem?_cons_zero, List.getElem?_cons_succ, Option.bind_some, Array.getD_eq_getD_getElem?] at hp
                  clear hs
                  clear hbs
                  obtain ⟨h22, h18⟩ := hp
                  have hg18 := (getD_bool _ _).1 h18
                  have cx := kc4 wx hf
                  clear hf
                  (try simp only [h22, h18, hg18])
                  go_simp
                  try dsimp only
                  refine hK.out _ _ ?_ ?_
                  · change Fr [] _ _
                    ((repeat (first | (with_reducible exact Fr.refl _ _) | (with_reducible assumption) | (with_reducible refine Fr.drew ?_) | (with_reducible refine Fr.drewN ?_ _) | (with_reducible refine Fr.alloc ?_ _) | (with_reducible refine Fr.setL ?_ _ _ _ ?_) | (focus (refine Or.inl ?_; simp; done)) | (focus (refine Or.inr ?_; simp; done)) | (focus (refine Or.inr ?_; simp; omega)) | (focus (refine Or.inr ?_; omega)))); done)
                  · simp only [nth]
                    first | (unfold Is; rfl) | (unfold Any; exact trivial) | exact IsSl.new _ _ _ _ | assumption
                · intro ac wx hf hbs hs hp K hK
                  simp only [waits, holdsA, nth, Is, Any, List.filter_cons, List.filter_nil, List.map_cons, List.map_nil, Region.binds, if_true, true_and, and_true, Nat.reduceAdd, List.getElem?_cons_zero, List.getElem?_cons_succ, Option.bind_some, Array.getD_eq_getD_getElem?] at hp
                  clear hs
                  clear hbs
                  obtain ⟨h23, h18⟩ := hp
                  have hg18 := (getD_bool _ _).1 h18
                  clear hf
                  (try simp only [h23, h18, hg18])
                  go_simp
                  try dsimp only
                  refine hK.out _ _ ?_ ?_
                  · change Fr [] _ _
                    ((repeat (first | (with_reducible exact Fr.refl _ _) | (with_reducible assumption) | (with_reducible refine Fr.drew ?_) | (with_reducible refine Fr.drewN ?_ _) | (with_reducible refine Fr.alloc ?_ _) | (with_reducible refine Fr.setL ?_ _ _ _ ?_) | (focus (refine Or.inl ?_; simp; done)) | (focus (refine Or.inr ?_; simp; done)) | (focus (refine Or.inr ?_; simp; omega)) | (focus (refine Or.inr ?_; omega)))); done)
                  · simp only [nth]
                    first | (unfold Is; rfl) | (unfold Any; exact trivial) | exact IsSl.new _ _ _ _ | assumption
                · intro ac wx hf hbs hs hp K hK
                  simp only [waits, holdsA, nth, Is, Any, List.filter_cons, List.filter_nil, List.map_cons, List.map_nil, Region.binds, if_true, true_and, and_true, Nat.reduceAdd, List.getElem?_cons_zero, List.getElem?_cons_succ, Option.bind_some, Array.getD_eq_getD_getElem?] at hp
                  clear hs
                  clear hbs
                  obtain ⟨h18, h24⟩ := hp
                  clear hf
                  (try simp only [h18, h24])
                  go_simp
                  try dsimp only
                  refine hK.out _ _ ?_ ?_
                  · change Fr [] _ _
                    ((repeat (first | (with_reducible exact Fr.refl _ _) | (with_reducible assumption) | (with_reducible refine Fr.drew ?_) | (with_reducible refine Fr.drewN ?_ _) | (with_reducible refine Fr.alloc ?_ _) | (with_reducible refine Fr.setL ?_ _ _ _ ?_) | (focus (refine Or.inl ?_; simp; done)) | (focus (refine Or.inr ?_; simp; done)) | (focus (refine Or.inr ?_; simp; omega)) | (focus (refine Or.inr ?_; omega)))); done)
                  · simp only [nth]
                    first | (unfold Is; rfl) | (unfold Any; exact trivial) | exact IsSl.new _ _ _ _ | assumption
                · intro ac wx hf hbs hs hp K hK
                  simp only [waits, holdsA, nth, Is, Any, List.filter_cons, List.filter_nil, List.map_cons, List.map_nil, Region.binds, if_true, true_and, and_true, Nat.reduceAdd, List.getElem?_cons_zero, List.getElem?_cons_succ, Option.bind_some, Array.getD_eq_getD_getElem?] at hp
                  clear hs
                  clear hbs
                  obtain ⟨h25, h18⟩ := hp
                  clear hf
                  (try simp only [h25, h18])
                  go_simp
                  try dsimp only
                  refine hK.out _ _ ?_ ?_
                  · change Fr [] _ _
                    ((repeat (first | (with_reducible exact Fr.refl _ _) | (with_reducible assumption) | (with_reducible refine Fr.drew ?_) | (with_reducible refine Fr.drewN ?_ _) | (with_reducible refine Fr.alloc ?_ _) | (with_reducible refine Fr.setL ?_ _ _ _ ?_) | (focus (refine Or.inl ?_; simp; done)) | (focus (refine Or.inr ?_; simp; done)) | (focus (refine Or.inr ?_; simp; omega)) | (focus (refine Or.inr ?_; omega)))); done)
                  · simp only [nth]
                    first | (unfold Is; rfl) | (unfold Any; exact trivial) | exact IsSl.new _ _ _ _ | assumption
                · intro ac wx hf hbs hs hp K hK
                  simp only [waits, holdsA, nth, Is, Any, List.filter_cons, List.filter_nil, List.map_cons, List.map_nil, Region.binds, if_true, true_and, and_true, Nat.reduceAdd, List.getElem?_cons_zero, List.getElem?_cons_succ, Option.bind_some, Array.getD_eq_getD_getElem?] at hp
                  have hs12 := hs 12 (by kernel_rfl)
                  simp only [Array.getD_eq_getD_getElem?, List.getElem?_toArray, List.getElem?_cons_succ, List.getElem?_cons_zero, Option.getD_some] at hs12
                  clear hs
                  clear hbs
                  have h26 := hp
                  clear hp
                  have hg26 := (getD_bool _ _).1 h26
                  clear hf
                  (try simp only [h26, hg26])
                  go_simp
                  try dsimp only
                  refine hK.out _ _ ?_ ?_
                  · change Fr [] _ _
                    ((repeat (first | (with_reducible exact Fr.refl _ _) | (with_reducible assumption) | (with_reducible refine Fr.drew ?_) | (with_reducible refine Fr.drewN ?_ _) | (with_reducible refine Fr.alloc ?_ _) | (with_reducible refine Fr.setL ?_ _ _ _ ?_) | (focus (refine Or.inl ?_; simp; done)) | (focus (refine Or.inr ?_; simp; done)) | (focus (refine Or.inr ?_; simp; omega)) | (focus (refine Or.inr ?_; omega)))); done)
                  · simp only [nth]
                    first | (unfold Is; rfl) | (unfold Any; exact trivial) | exact IsSl.new _ _ _ _ | assumption
                · intro ac wx hf hbs hs hp K hK
                  simp only [waits, holdsA, nth, Is, Any, List.filter_cons, List.filter_nil, List.map_cons, List.map_nil, Region.binds, if_true, true_and, and_true, Nat.reduceAdd, List.getElem?_cons_zero, List.getElem?_cons_succ, Option.bind_some, Array.getD_eq_getD_getElem?] at hp
                  have hs14 := hs 14 (by kernel_rfl)
                  simp only [Array.getD_eq_getD_getElem?, List.getElem?_toArray, List.getElem?_cons_succ, List.getElem?_cons_zero, Option.getD_some] at hs14
                  clear hs
                  clear hbs
                  have h26 := hp
                  clear hp
                  have hg26 := (getD_bool _ _).1 h26
                  clear hf
                  (try simp only [h26, hg26])
                  go_simp
                  try dsimp only
                  refine hK.out _ _ ?_ ?_
                  · change Fr [] _ _
                    ((repeat (first | (with_reducible exact Fr.refl _ _) | (with_reducible assumption) | (with_reducible refine Fr.drew ?_) | (with_reducible refine Fr.drewN ?_ _) | (with_reducible refine Fr.alloc ?_ _) | (with_reducible refine Fr.setL ?_ _ _ _ ?_) | (focus (refine Or.inl ?_; simp; done)) | (focus (refine Or.inr ?_; simp; done)) | (focus (refine Or.inr ?_; simp; omega)) | (focus (refine Or.inr ?_; omega)))); done)
                  · simp only [nth]
                    first | (unfold Is; rfl) | (unfold Any; exact trivial) | exact IsSl.new _ _ _ _ | assumption
                · intro ac wx hf hbs hs hp K hK
                  simp only [waits, holdsA, nth, Is, Any, List.filter_cons, List.filter_nil, List.map_cons, List.map_nil, Region.binds, if_true, true_and, and_true, Nat.reduceAdd, List.getElem?_cons_zero, List.getElem?_cons_succ, Option.bind_some, Array.getD_eq_getD_getElem?] at hp
                  clear hs
                  clear hbs
                  obtain ⟨h27, h28, h26⟩ := hp
                  have hg26 := (getD_bool _ _).1 h26
                  clear hf
                  (try simp only [h27, h28, h26, hg26])
                  go_simp
                  try dsimp only
                  refine hK.out _ _ ?_ ?_
                  · change Fr [] _ _
                    ((repeat (first | (with_reducible exact Fr.refl _ _) | (with_reducible assumption) | (with_reducible refine Fr.drew ?_) | (with_reducible refine Fr.drewN ?_ _) | (with_reducible refine Fr.alloc ?_ _) | (with_reducible refine Fr.setL ?_ _ _ _ ?_) | (focus (refine Or.inl ?_; simp; done)) | (focus (refine Or.inr ?_; simp; done)) | (focus (refine Or.inr ?_; simp; omega)) | (focus (refine Or.inr ?_; omega)))); done)
                  · simp only [nth]
                    first | (unfold Is; rfl) | (unfold Any; exact trivial) | exact IsSl.new _ _ _ _ | assumption
                · intro ac wx hf hbs hs hp K hK
                  simp only [waits, holdsA, nth, Is, Any, List.filter_cons, List.filter_nil, List.map_cons, List.map_nil, Region.binds, if_true, true_and, and_true, Nat.reduceAdd, List.getElem?_cons_zero, List.getElem?_cons_succ, Option.bind_some, Array.getD_eq_getD_getElem?] at hp
                  clear hs
                  clear hbs
                  obtain ⟨h29, h26⟩ := hp
                  have hg26 := (getD_bool _ _).1 h26
                  clear hf
                  (try simp only [h29, h26, hg26])
                  go_simp
                  try dsimp only
                  refine hK.out _ _ ?_ ?_
                  · change Fr [] _ _
                    ((repeat (first | (with_reducible exact Fr.refl _ _) | (with_reducible assumption) | (with_reducible refine Fr.drew ?_) | (with_reducible refine Fr.drewN ?_ _) | (with_reducible refine Fr.alloc ?_ _) | (with_reducible refine Fr.setL ?_ _ _ _ ?_) | (focus (refine Or.inl ?_; simp; done)) | (focus (refine Or.inr ?_; simp; done)) | (focus (refine Or.inr ?_; simp; omega)) | (focus (refine Or.inr ?_; omega)))); done)
                  · simp only [nth]
                    first | (unfold Is; rfl) | (unfold Any; exact trivial) | exact IsSl.new _ _ _ _ | assumption
                · intro ac wx hf hbs hs hp K hK
                  simp only [waits, holdsA, nth, Is, Any, List.filter_cons, List.filter_nil, List.map_cons, List.map_nil, Region.binds, if_true, true_and, and_true, Nat.reduceAdd, List.getElem?_cons_zero, List.getElem?_cons_succ, Option.bind_some, Array.getD_eq_getD_getElem?] at hp
                  clear hs
                  clear hbs
                  obtain ⟨h30, h26⟩ := hp
                  have hg26 := (getD_bool _ _).1 h26
                  have cx := kc2 wx hf
                  clear hf
                  (try simp only [h30, h26, hg26])
                  go_simp
                  try dsimp only
                  refine hK.out _ _ ?_ ?_
                  · change Fr [] _ _
                    ((repeat (first | (with_reducible exact Fr.refl _ _) | (with_reducible assumption) | (with_reducible refine Fr.drew ?_) | (with_reducible refine Fr.drewN ?_ _) | (with_reducible refine Fr.alloc ?_ _) | (with_reducible refine Fr.setL ?_ _ _ _ ?_) | (focus (refine Or.inl ?_; simp; done)) | (focus (refine Or.inr ?_; simp; done)) | (focus (refine Or.inr ?_; simp; omega)) | (focus (refine Or.inr ?_; omega)))); done)
                  · simp only [nth]
                    first | (unfold Is; rfl) | (unfold Any; exact trivial) | exact IsSl.new _ _ _ _ | assumption
                · intro ac wx hf hbs hs hp K hK
                  simp only [waits, holdsA, nth, Is, Any, List.filter_cons, List.filter_nil, List.map_cons, List.map_nil, Region.binds, if_true, true_and, and_true, Nat.reduceAdd, List.getElem?_cons_zero, List.getElem?_cons_succ, Option.bind_some, Array.getD_eq_getD_getElem?] at hp
                  clear hs
                  clear hbs
                  obtain ⟨h31, h26⟩ := hp
                  have hg26 := (getD_bool _ _).1 h26
                  clear hf
                  (try simp only [h31, h26, hg26])
                  go_simp
                  try dsimp only
                  refine hK.out _ _ ?_ ?_
                  · change Fr [] _ _
                    ((repeat (first | (with_reducible exact Fr.refl _ _) | (with_reducible assumption) | (with_reducible refine Fr.drew ?_) | (with_reducible refine Fr.drewN ?_ _) | (with_reducible refine Fr.alloc ?_ _) | (with_reducible refine Fr.setL ?_ _ _ _ ?_) | (focus (refine Or.inl ?_; simp; done)) | (focus (refine Or.inr ?_; simp; done)) | (focus (refine Or.inr ?_; simp; omega)) | (focus (refine Or.inr ?_; omega)))); done)
                  · simp only [nth]
                    first | (unfold Is; rfl) | (unfold Any; exact trivial) | exact IsSl.new _ _ _ _ | assumption
                · intro ac wx hf hbs hs hp K hK
                  simp only [waits, holdsA, nth, Is, Any, List.filter_cons, List.filter_nil, List.map_cons, List.map_nil, Region.binds, if_true, true_and, and_true, Nat.reduceAdd, List.getElem?_cons_zero, List.getElem?_cons_succ, Option.bind_some, Array.getD_eq_getD_getElem?] at hp
                  clear hs
                  clear hbs
                  obtain ⟨h26, h32⟩ := hp
                  clear hf
                  (try simp only [h26, h32])
                  go_simp
                  try dsimp only
                  refine hK.out _ _ ?_ ?_
                  · change Fr [] _ _
                    ((repeat (first | (with_reducible exact Fr.refl _ _) | (with_reducible assumption) | (with_reducible refine Fr.drew ?_) | (with_reducible refine Fr.drewN ?_ _) | (with_reducible refine Fr.alloc ?_ _) | (with_reducible refine Fr.setL ?_ _ _ _ ?_) | (focus (refine Or.inl ?_; simp; done)) | (focus (refine Or.inr ?_; simp; done)) | (focus (refine Or.inr ?_; simp; omega)) | (focus (refine Or.inr ?_; omega)))); done)
                  · simp only [nth]
                    first | (unfold Is; rfl) | (unfold Any; exact trivial) | exact IsSl.new _ _ _ _ | assumption
                · intro ac wx hf hbs hs hp K hK
                  simp only [waits, holdsA, nth, Is, Any, List.filter_cons, List.filter_nil, List.map_cons, List.map_nil, Region.binds, if_true, true_and, and_true, Nat.reduceAdd, List.getElem?_cons_zero, List.getElem?_cons_succ, Option.bind_some, Array.getD_eq_getD_getElem?] at hp
                  clear hs
                  clear hbs
                  obtain ⟨h33, h26⟩ := hp
                  clear hf
                  (try simp only [h33, h26])
                  go_simp
                  try dsimp only
                  refine hK.out _ _ ?_ ?_
                  · change Fr [] _ _
                    ((repeat (first | (with_reducible exact Fr.refl _ _) | (with_reducible assumption) | (with_reducible refine Fr.drew ?_) | (with_reducible refine Fr.drewN ?_ _) | (with_reducible refine Fr.alloc ?_ _) | (with_reducible refine Fr.setL ?_ _ _ _ ?_) | (focus (refine Or.inl ?_; simp; done)) | (focus (refine Or.inr ?_; simp; done)) | (focus (refine Or.inr ?_; simp; omega)) | (focus (refine Or.inr ?_; omega)))); done)
                  · simp only [nth]
                    first | (unfold Is; rfl) | (unfold Any; exact trivial) | exact IsSl.new _ _ _ _ | assumption
                · intro ac wx hf hbs hs hp K hK
                  simp only [waits, holdsA, nth, Is, Any, List.filter_cons, List.filter_nil, List.map_cons, List.map_nil, Region.binds, if_true, true_and, and_true, Nat.reduceAdd, List.getElem?_cons_zero, List.getElem?_cons_succ, Option.bind_some, Array.getD_eq_getD_getElem?] at hp
                  have hs12 := hs 12 (by kernel_rfl)
                  simp only [Array.getD_eq_getD_getElem?, List.getElem?_toArray, List.getElem?_cons_succ, List.getElem?_cons_zero, Option.getD_some] at hs12
                  clear hs
                  clear hbs
                  have h34 := hp
                  clear hp
                  have hg34 := (getD_bool _ _).1 h34
                  clear hf
                  (try simp only [h34, hg34])
                  go_simp
                  try dsimp only
                  refine hK.out _ _ ?_ ?_
                  · change Fr [] _ _
                    ((repeat (first | (with_reducible exact Fr.refl _ _) | (with_reducible assumption) | (with_reducible refine Fr.drew ?_) | (with_reducible refine Fr.drewN ?_ _) | (with_reducible refine Fr.alloc ?_ _) | (with_reducible refine Fr.setL ?_ _ _ _ ?_) | (focus (refine Or.inl ?_; simp; done)) | (focus (refine Or.inr ?_; simp; done)) | (focus (refine Or.inr ?_; simp; omega)) | (focus (refine Or.inr ?_; omega)))); done)
                  · simp only [nth]
                    first | (unfold Is; rfl) | (unfold Any; exact trivial) | exact IsSl.new _ _ _ _ | assumption
                · intro ac wx hf hbs hs hp K hK
                  simp only [waits, holdsA, nth, Is, Any, List.filter_cons, List.filter_nil, List.map_cons, List.map_nil, Region.binds, if_true, true_and, and_true, Nat.reduceAdd, List.getElem?_cons_zero, List.getElem?_cons_succ, Option.bind_some, Array.getD_eq_getD_getElem?] at hp
                  have hs14 := hs 14 (by kernel_rfl)
                  simp only [Array.getD_eq_getD_getElem?, List.getElem?_toArray, List.getElem?_cons_succ, List.getElem?_cons_zero, Option.getD_some] at hs14
                  clear hs
                  clear hbs
                  have h34 := hp
                  clear hp
                  have hg34 := (getD_bool _ _).1 h34
                  clear hf
                  (try simp only [h34, hg34])
                  go_simp
                  try dsimp only
                  refine hK.out _ _ ?_ ?_
                  · change Fr [] _ _
                    ((repeat (first | (with_reducible exact Fr.refl _ _) | (with_reducible assumption) | (with_reducible refine Fr.drew ?_) | (with_reducible refine Fr.drewN ?_ _) | (with_reducible refine Fr.alloc ?_ _) | (with_reducible refine Fr.setL ?_ _ _ _ ?_) | (focus (refine Or.inl ?_; simp; done)) | (focus (refine Or.inr ?_; simp; done)) | (focus (refine Or.inr ?_; simp; omega)) | (focus (refine Or.inr ?_; omega)))); done)
                  · simp only [nth]
                    first | (unfold Is; rfl) | (unfold Any; exact trivial) | exact IsSl.new _ _ _ _ | assumption
                · intro ac wx hf hbs hs hp K hK
                  simp only [waits, holdsA, nth, Is, Any, List.filter_cons, List.filter_nil, List.map_cons, List.map_nil, Region.binds, if_true, true_and, and_true, Nat.reduceAdd, List.getElem?_cons_zero, List.getElem?_cons_succ, Option.bind_some, Array.getD_eq_getD_getElem?] at hp
                  clear hs
                  clear hbs
                  obtain ⟨h35, h36, h34⟩ := hp
                  have hg34 := (getD_bool _ _).1 h34
                  clear hf
                  (try simp only [h35, h36, h34, hg34])
                  go_simp
                  try dsimp only
                  refine hK.out _ _ ?_ ?_
                  · change Fr [] _ _
                    ((repeat (first | (with_reducible exact Fr.refl _ _) | (with_reducible assumption) | (with_reducible refine Fr.drew ?_) | (with_reducible refine Fr.drewN ?_ _) | (with_reducible refine Fr.alloc ?_ _) | (with_reducible refine Fr.setL ?_ _ _ _ ?_) | (focus (refine Or.inl ?_; simp; done)) | (focus (refine Or.inr ?_; simp; done)) | (focus (refine Or.inr ?_; simp; omega)) | (focus (refine Or.inr ?_; omega)))); done)
                  · simp only [nth]
                    first | (unfold Is; rfl) | (unfold Any; exact trivial) | exact IsSl.new _ _ _ _ | assumption
                · intro ac wx hf hbs hs hp K hK
                  simp only [waits, holdsA, nth, Is, Any, List.filter_cons, List.filter_nil, List.map_cons, List.map_nil, Region.binds, if_true, true_and, and_true, Nat.reduceAdd, List.getElem?_cons_zero, List.getElem?_cons_succ, Option.bind_some, Array.getD_eq_getD_getElem?] at hp
                  clear hs
                  clear hbs
                  obtain ⟨h37, h34⟩ := hp
                  have hg34 := (getD_bool _ _).1 h34
                  clear hf
                  (try simp only [h37, h34, hg34])
                  go_simp
                  try dsimp only
                  refine hK.out _ _ ?_ ?_
                  · change Fr [] _ _
                    ((repeat (first | (with_reducible exact Fr.refl _ _) | (with_reducible assumption) | (with_reducible refine Fr.drew ?_) | (with_reducible refine Fr.drewN ?_ _) | (with_reducible refine Fr.alloc ?_ _) | (with_reducible refine Fr.setL ?_ _ _ _ ?_) | (focus (refine Or.inl ?_; simp; done)) | (focus (refine Or.inr ?_; simp; done)) | (focus (refine Or.inr ?_; simp; omega)) | (focus (refine Or.inr ?_; omega)))); done)
                  · simp only [nth]
                    first | (unfold Is; rfl) | (unfold Any; exact trivial) | exact IsSl.new _ _ _ _ | assumption
                · intro ac wx hf hbs hs hp K hK
                  simp only [waits, holdsA, nth, Is, Any, List.filter_cons, List.filter_nil, List.map_cons, List.map_nil, Region.binds, if_true, true_and, and_true, Nat.reduceAdd, List.getElem?_cons_zero, List.getElem?_cons_succ, Option.bind_some, Array.getD_eq_getD_getElem?] at hp
                  clear hs
                  clear hbs
                  obtain ⟨h38, h34⟩ := hp
                  have hg34 := (getD_bool _ _).1 h34
                  have cx := kc7 wx hf
                  clear hf
                  (try simp only [h38, h34, hg34])
                  go_simp
                  try dsimp only
                  refine hK.out _ _ ?_ ?_
                  · change Fr [] _ _
                    ((repeat (first | (with_reducible exact Fr.refl _ _) | (with_reducible assumption) | (with_reducible refine Fr.drew ?_) | (with_reducible refine Fr.drewN ?_ _) | (with_reducible refine Fr.alloc ?_ _) | (with_reducible refine Fr.setL ?_ _ _ _ ?_) | (focus (refine Or.inl ?_; simp; done)) | (focus (refine Or.inr ?_; simp; done)) | (focus (refine Or.inr ?_; simp; omega)) | (focus (refine Or.inr ?_; omega)))); done)
                  · simp only [nth]
                    first | (unfold Is; rfl) | (unfold Any; exact trivial) | exact IsSl.new _ _ _ _ | assumption
                · intro ac wx hf hbs hs hp K hK
                  simp only [waits, holdsA, nth, Is, Any, List.filter_cons, List.filter_nil, List.map_cons, List.map_nil, Region.binds, if_true, true_and, and_true, Nat.reduceAdd, List.getElem?_cons_zero, List.getElem?_cons_succ, Option.bind_some, Array.getD_eq_getD_getElem?] at hp
                  clear hs
                  clear hbs
                  obtain ⟨h39, h34⟩ := hp
                  have hg34 := (getD_bool _ _).1 h34
                  clear hf
                  (try simp only [h39, h34, hg34])
                  go_simp
                  try dsimp only
                  refine hK.out _ _ ?_ ?_
                  · change Fr [] _ _
                    ((repeat (first | (with_reducible exact Fr.refl _ _) | (with_reducible assumption) | (with_reducible refine Fr.drew ?_) | (with_reducible refine Fr.drewN ?_ _) | (with_reducible refine Fr.alloc ?_ _) | (with_reducible refine Fr.setL ?_ _ _ _ ?_) | (focus (refine Or.inl ?_; simp; done)) | (focus (refine Or.inr ?_; simp; done)) | (focus (refine Or.inr ?_; simp; omega)) | (focus (refine Or.inr ?_; omega)))); done)
                  · simp only [nth]
                    first | (unfold Is; rfl) | (unfold Any; exact trivial) | exact IsSl.new _ _ _ _ | assumption
                · intro ac wx hf hbs hs hp K hK
                  simp only [waits, holdsA, nth, Is, Any, List.filter_cons, List.filter_nil, List.map_cons, List.map_nil, Region.binds, if_true, true_and, and_true, Nat.reduceAdd, List.getElem?_cons_zero, List.getElem?_cons_succ, Option.bind_some, Array.getD_eq_getD_getElem?] at hp
                  clear hs
                  clear hbs
                  obtain ⟨h34, h40⟩ := hp
                  clear hf
                  (try simp only [h34, h40])
                  go_simp
                  try dsimp only
                  refine hK.out _ _ ?_ ?_
                  · change Fr [] _ _
                    ((repeat (first | (with_reducible exact Fr.refl _ _) | (with_reducible assumption) | (with_reducible refine Fr.drew ?_) | (with_reducible refine Fr.drewN ?_ _) | (with_reducible refine Fr.alloc ?_ _) | (with_reducible refine Fr.setL ?_ _ _ _ ?_) | (focus (refine Or.inl ?_; simp; done)) | (focus (refine Or.inr ?_; simp; done)) | (focus (refine Or.inr ?_; simp; omega)) | (focus (refine Or.inr ?_; omega)))); done)
                  · simp only [nth]
                    first | (unfold Is; rfl) | (unfold Any; exact trivial) | exact IsSl.new _ _ _ _ | assumption
                · intro ac wx hf hbs hs hp K hK
                  simp only [waits, holdsA, nth, Is, Any, List.filter_cons, List.filter_nil, List.map_cons, List.map_nil, Region.binds, if_true, true_and, and_true, Nat.reduceAdd, List.getElem?_cons_zero, List.getElem?_cons_succ, Option.bind_some, Array.getD_eq_getD_getElem?] at hp
                  clear hs
                  clear hbs
                  obtain ⟨h41, h34⟩ := hp
                  clear hf
                  (try simp only [h41, h34])
                  go_simp
                  try dsimp only
                  refine hK.out _ _ ?_ ?_
                  · change Fr [] _ _
                    ((repeat (first | (with_reducible exact Fr.refl _ _) | (with_reducible assumption) | (with_reducible refine Fr.drew ?_) | (with_reducible refine Fr.drewN ?_ _) | (with_reducible refine Fr.alloc ?_ _) | (with_reducible refine Fr.setL ?_ _ _ _ ?_) | (focus (refine Or.inl ?_; simp; done)) | (focus (refine Or.inr ?_; simp; done)) | (focus (refine Or.inr ?_; simp; omega)) | (focus (refine Or.inr ?_; omega)))); done)
                  · simp only [nth]
                    first | (unfold Is; rfl) | (unfold Any; exact trivial) | exact IsSl.new _ _ _ _ | assumption
                · intro ac wx hf hbs hs hp K hK
                  simp only [waits, holdsA, nth, Is, Any, List.filter_cons, List.filter_nil, List.map_cons, List.map_nil, Region.binds, if_true, true_and, and_true, Nat.reduceAdd, List.getElem?_cons_zero, List.getElem?_cons_succ, Option.bind_some, Array.getD_eq_getD_getElem?] at hp
                  have hs12 := hs 12 (by kernel_rfl)
                  simp only [Array.getD_eq_getD_getElem?, List.getElem?_toArray, List.getElem?_cons_succ, List.getElem?_cons_zero, Option.getD_some] at hs12
                  clear hs
                  clear hbs
                  have h42 := hp
                  clear hp
                  have hg42 := (getD_bool _ _).1 h42
                  clear hf
                  (try simp only [h42, hg42])
                  go_simp
                  try dsimp only
                  refine hK.out _ _ ?_ ?_
                  · change Fr [] _ _
                    ((repeat (first | (with_reducible exact Fr.refl _ _) | (with_reducible assumption) | (with_reducible refine Fr.drew ?_) | (with_reducible refine Fr.drewN ?_ _) | (with_reducible refine Fr.alloc ?_ _) | (with_reducible refine Fr.setL ?_ _ _ _ ?_) | (focus (refine Or.inl ?_; simp; done)) | (focus (refine Or.inr ?_; simp; done)) | (focus (refine Or.inr ?_; simp; omega)) | (focus (refine Or.inr ?_; omega)))); done)
                  · simp only [nth]
                    first | (unfold Is; rfl) | (unfold Any; exact trivial) | exact IsSl.new _ _ _ _ | assumption
                · intro ac wx hf hbs hs hp K hK
                  simp only [waits, holdsA, nth, Is, Any, List.filter_cons, List.filter_nil, List.map_cons, List.map_nil, Region.binds, if_true, true_and, and_true, Nat.reduceAdd, List.getElem?_cons_zero, List.getElem?_cons_succ, Option.bind_some, Array.getD_eq_getD_getElem?] at hp
                  have hs14 := hs 14 (by kernel_rfl)
                  simp only [Array.getD_eq_getD_getElem?, List.getElem?_toArray, List.getElem?_cons_succ, List.getElem?_cons_zero, Option.getD_some] at hs14
                  clear hs
                  clear hbs
                  have h42 := hp
                  clear hp
                  have hg42 := (getD_bool _ _).1 h42
                  clear hf
                  (try simp only [h42, hg42])
                  go_simp
                  try dsimp only
                  refine hK.out _ _ ?_ ?_
                  · change Fr [] _ _
                    ((repeat (first | (with_reducible exact Fr.refl _ _) | (with_reducible assumption) | (with_reducible refine Fr.drew ?_) | (with_reducible refine Fr.drewN ?_ _) | (with_reducible refine Fr.alloc ?_ _) | (with_reducible refine Fr.setL ?_ _ _ _ ?_) | (focus (refine Or.inl ?_; simp; done)) | (focus (refine Or.inr ?_; simp; done)) | (focus (refine Or.inr ?_; simp; omega)) | (focus (refine Or.inr ?_; omega)))); done)
                  · simp only [nth]
                    first | (unfold Is; rfl) | (unfold Any; exact trivial) | exact IsSl.new _ _ _ _ | assumption
                · intro ac wx hf hbs hs hp K hK
                  simp only [waits, holdsA, nth, Is, Any, List.filter_cons, List.filter_nil, List.map_cons, List.map_nil, Region.binds, if_true, true_and, and_true, Nat.reduceAdd, List.getElem?_cons_zero, List.getElem?_cons_succ, Option.bind_some, Array.getD_eq_getD_getElem?] at hp
                  clear hs
                  clear hbs
                  obtain ⟨h43, h44, h42⟩ := hp
                  have hg42 := (getD_bool _ _).1 h42
                  clear hf
                  (try simp only [h43, h44, h42, hg42])
                  go_simp
                  try dsimp only
                  refine hK.out _ _ ?_ ?_
                  · change Fr [] _ _
                    ((repeat (first | (with_reducible exact Fr.refl _ _) | (with_reducible assumption) | (with_reducible refine Fr.drew ?_) | (with_reducible refine Fr.drewN ?_ _) | (with_reducible refine Fr.alloc ?_ _) | (with_reducible refine Fr.setL ?_ _ _ _ ?_) | (focus (refine Or.inl ?_; simp; done)) | (focus (refine Or.inr ?_; simp; done)) | (focus (refine Or.inr ?_; simp; omega)) | (focus (refine Or.inr ?_; omega)))); done)
                  · simp only [nth]
                    first | (unfold Is; rfl) | (unfold Any; exact trivial) | exact IsSl.new _ _ _ _ | assumption
                · intro ac wx hf hbs hs hp K hK
                  simp only [waits, holdsA, nth, Is, Any, List.filter_cons, List.filter_nil, List.map_cons, List.map_nil, Region.binds, if_true, true_and, and_true, Nat.reduceAdd, List.getElem?_cons_zero, List.getElem?_cons_succ, Option.bind_some, Array.getD_eq_getD_getElem?] at hp
                  clear hs
                  clear hbs
                  obtain ⟨h45, h42⟩ := hp
                  have hg42 := (getD_bool _ _).1 h42
                  clear hf
                  (try simp only [h45, h42, hg42])
                  go_simp
                  try dsimp only
                  refine hK.out _ _ ?_ ?_
                  · change Fr [] _ _
                    ((repeat (first | (with_reducible exact Fr.refl _ _) | (with_reducible assumption) | (with_reducible refine Fr.drew ?_) | (with_reducible refine Fr.drewN ?_ _) | (with_reducible refine Fr.alloc ?_ _) | (with_reducible refine Fr.setL ?_ _ _ _ ?_) | (focus (refine Or.inl ?_; simp; done)) | (focus (refine Or.inr ?_; simp; done)) | (focus (refine Or.inr ?_; simp; omega)) | (focus (refine Or.inr ?_; omega)))); done)
                  · simp only [nth]
                    first | (unfold Is; rfl) | (unfold Any; exact trivial) | exact IsSl.new _ _ _ _ | assumption
                · intro ac wx hf hbs hs hp K hK
                  simp only [waits, holdsA, nth, Is, Any, List.filter_cons, List.filter_nil, List.map_cons, List.map_nil, Region.binds, if_true, true_and, and_true, Nat.reduceAdd, List.getElem?_cons_zero, List.getElem?_cons_succ, Option.bind_some, Array.getD_eq_getD_getElem?] at hp
                  clear hs
                  clear hbs
                  obtain ⟨h46, h42⟩ := hp
                  have hg42 := (getD_bool _ _).1 h42
                  have cx := kc8 wx hf
                  clear hf
                  (try simp only [h46, h42, hg42])
                  go_simp
                  try dsimp only
                  refine hK.out _ _ ?_ ?_
                  · change Fr [] _ _
                    ((repeat (first | (with_reducible exact Fr.refl _ _) | (with_reducible assumption) | (with_reducible refine Fr.drew ?_) | (with_reducible refine Fr.drewN ?_ _) | (with_reducible refine Fr.alloc ?_ _) | (with_reducible refine Fr.setL ?_ _ _ _ ?_) | (focus (refine Or.inl ?_; simp; done)) | (focus (refine Or.inr ?_; simp; done)) | (focus (refine Or.inr ?_; simp; omega)) | (focus (refine Or.inr ?_; omega)))); done)
                  · simp only [nth]
                    first | (unfold Is; rfl) | (unfold Any; exact trivial) | exact IsSl.new _ _ _ _ | assumption
                · intro ac wx hf hbs hs hp K hK
                  simp only [waits, holdsA, nth, Is, Any, List.filter_cons, List.filter_nil, List.map_cons, List.map_nil, Region.binds, if_true, true_and, and_true, Nat.reduceAdd, List.getElem?_cons_zero, List.getElem?_cons_succ, Option.bind_some, Array.getD_eq_getD_getElem?] at hp
                  have hs15 := hs 15 (by kernel_rfl)
                  simp only [Array.getD_eq_getD_getElem?, List.getElem?_toArray, List.getElem?_cons_succ, List.getElem?_cons_zero, Option.getD_some] at hs15
                  clear hs
                  clear hbs
                  have h42 := hp
                  clear hp
                  have hg42 := (getD_bool _ _).1 h42
                  clear hf
                  (try simp only [h42, hg42])
                  go_simp
                  try dsimp only
                  refine hK.out _ _ ?_ ?_
                  · change Fr [] _ _
                    ((repeat (first | (with_reducible exact Fr.refl _ _) | (with_reducible assumption) | (with_reducible refine Fr.drew ?_) | (with_reducible refine Fr.drewN ?_ _) | (with_reducible refine Fr.alloc ?_ _) | (with_reducible refine Fr.setL ?_ _ _ _ ?_) | (focus (refine Or.inl ?_; simp; done)) | (focus (refine Or.inr ?_; simp; done)) | (focus (refine Or.inr ?_; simp; omega)) | (focus (refine Or.inr ?_; omega)))); done)
                  · simp only [nth]
                    first | (unfold Is; rfl) | (unfold Any; exact trivial) | exact IsSl.new _ _ _ _ | assumption
                · intro ac wx hf hbs hs hp K hK
                  simp only [waits, holdsA, nth, Is, Any, List.filter_cons, List.filter_nil, List.map_cons, List.map_nil, Region.binds, if_true, true_and, and_true, Nat.reduceAdd, List.getElem?_cons_zero, List.getElem?_cons_succ, Option.bind_some, Array.getD_eq_getD_getElem?] at hp
                  clear hs
                  clear hbs
                  obtain ⟨h48, h42⟩ := hp
                  have hg42 := (getD_bool _ _).1 h42
                  clear hf
                  (try simp only [h48, h42, hg42])
                  go_simp
                  try dsimp only
                  refine hK.out _ _ ?_ ?_
                  · change Fr [] _ _
                    ((repeat (first | (with_reducible exact Fr.refl _ _) | (with_reducible assumption) | (with_reducible refine Fr.drew ?_) | (with_reducible refine Fr.drewN ?_ _) | (with_reducible refine Fr.alloc ?_ _) | (with_reducible refine Fr.setL ?_ _ _ _ ?_) | (focus (refine Or.inl ?_; simp; done)) | (focus (refine Or.inr ?_; simp; done)) | (focus (refine Or.inr ?_; simp; omega)) | (focus (refine Or.inr ?_; omega)))); done)
                  · simp only [nth]
                    first | (unfold Is; rfl) | (unfold Any; exact trivial) | exact IsSl.new _ _ _ _ | assumption
                · intro ac wx hf hbs hs hp K hK
                  simp only [waits, holdsA, nth, Is, Any, List.filter_cons, List.filter_nil, List.map_cons, List.map_nil, Region.binds, if_true, true_and, and_true, Nat.reduceAdd, List.getElem?_cons_zero, List.getElem?_cons_succ, Option.bind_some, Array.getD_eq_getD_getElem?] at hp
                  clear hs
                  clear hbs
                  obtain ⟨h49, h42⟩ := hp
                  have hg42 := (getD_bool _ _).1 h42
                  clear hf
                  (try simp only [h49, h42, hg42])
                  go_simp
                  refine hK.out _ _ ?_ ?_
                  · change Fr [] _ _
                    exact (Fr.refl _ _).alloc _
                  · simp only [nth]
                    exact ⟨⟨some ⟨_, 0, none⟩, 3, 3⟩, rfl, Bts.new (l := [129, CM, 128]) (Blk.new _ _ _) (by intro y hy; simp only [List.mem_cons, List.not_mem_nil, or_false] at hy; rcases hy with rfl | rfl | rfl; decide; exact HWC.out; decide) 0⟩
                · intro ac wx hf hbs hs hp K hK
                  simp only [waits, holdsA, nth, Is, Any, List.filter_cons, List.filter_nil, List.map_cons, List.map_nil, Region.binds, if_true, true_and, and_true, Nat.reduceAdd, List.getElem?_cons_zero, List.getElem?_cons_succ, Option.bind_some, Array.getD_eq_getD_getElem?] at hp
                  clear hs
                  clear hbs
                  obtain ⟨h47, h50, h42, h42_2⟩ := hp
                  have hg42 := (getD_bool _ _).1 h42
                  obtain ⟨sb, e50, hb50⟩ := h50
                  have hbx := HBD9.out.fr hf
                  clear hf
                  (try simp only [e50])
                  (try simp only [h47, h42, hg42])
                  go_simp
                  go_at_call 15
                  refine (r_Same _ sd sb [129, CM, 128] [129, CM, 128] hbx.1 hb50.1 (by simp)).mono ?_
                  rintro e w' ⟨rfl, fz⟩
                  rw [show (([129, CM, 128] : List Int) == [129, CM, 128]) = true by simp]
                  exact hK.out _ _ fz rfl
                · intro ac wx hf hbs hs hp K hK
                  simp only [waits, holdsA, nth, Is, Any, List.filter_cons, List.filter_nil, List.map_cons, List.map_nil, Region.binds, if_true, true_and, and_true, Nat.reduceAdd, List.getElem?_cons_zero, List.getElem?_cons_succ, Option.bind_some, Array.getD_eq_getD_getElem?] at hp
                  clear hs
                  clear hbs
                  obtain ⟨h51, h42⟩ := hp
                  have hg42 := (getD_bool _ _).1 h42
                  clear hf
                  (try simp only [h51, h42, hg42])
                  go_simp
                  try dsimp only
                  refine hK.out _ _ ?_ ?_
                  · change Fr [] _ _
                    ((repeat (first | (with_reducible exact Fr.refl _ _) | (with_reducible assumption) | (with_reducible refine Fr.drew ?_) | (with_reducible refine Fr.drewN ?_ _) | (with_reducible refine Fr.alloc ?_ _) | (with_reducible refine Fr.setL ?_ _ _ _ ?_) | (focus (refine Or.inl ?_; simp; done)) | (focus (refine Or.inr ?_; simp; done)) | (focus (refine Or.inr ?_; simp; omega)) | (focus (refine Or.inr ?_; omega)))); done)
                  · simp only [nth]
                    first | (unfold Is; rfl) | (unfold Any; exact trivial) | exact IsSl.new _ _ _ _ | assumption
                · intro ac wx hf hbs hs hp K hK
                  simp only [waits, holdsA, nth, Is, Any, List.filter_cons, List.filter_nil, List.map_cons, List.map_nil, Region.binds, if_true, true_and, and_true, Nat.reduceAdd, List.getElem?_cons_zero, List.getElem?_cons_succ, Option.bind_some, Array.getD_eq_getD_getElem?] at hp
                  clear hs
                  clear hbs
                  obtain ⟨h42, h52⟩ := hp
                  clear hf
                  (try simp only [h42, h52])
                  go_simp
                  try dsimp only
                  refine hK.out _ _ ?_ ?_
                  · change Fr [] _ _
                    ((repeat (first | (with_reducible exact Fr.refl _ _) | (with_reducible assumption) | (with_reducible refine Fr.drew ?_) | (with_reducible refine Fr.drewN ?_ _) | (with_reducible refine Fr.alloc ?_ _) | (with_reducible refine Fr.setL ?_ _ _ _ ?_) | (focus (refine Or.inl ?_; simp; done)) | (focus (refine Or.inr ?_; simp; done)) | (focus (refine Or.inr ?_; simp; omega)) | (focus (refine Or.inr ?_; omega)))); done)
                  · simp only [nth]
                    first | (unfold Is; rfl) | (unfold Any; exact trivial) | exact IsSl.new _ _ _ _ | assumption
              case hD =>
                intro xv wx hf hp
                simp only [List.take_succ_cons, List.take_zero, List.drop_succ_cons, List.drop_zero, fill, List.setIfInBounds_toArray, List.set_cons_zero, List.set_cons_succ, Nat.reduceAdd, Act.put]
                rw [show live 54 (deadC [none, none, none, none, none, none, none, none, none, none, none, none, none, none, none, none, none, none, none, none, none, none, none, none, none, none, none, none, none, none, none, none, none, none, none, none, none, none, none, none, none, none, none, none, none, none, none, none, none, none, some 54, none, none, none]) = [0, 1, 2, 3, 4, 5, 6, 7, 8, 9, 10, 11, 12, 13, 14, 15, 16, 17, 18, 19, 20, 21, 22, 23, 24, 25, 26, 27, 28, 29, 30, 31, 32, 33, 34, 35, 36, 37, 38, 39, 40, 41, 42, 43, 44, 45, 46, 47, 48, 49, 50, 51, 52, 53] from by decide] at hp
                simp only [holds, nth, Is, Any, true_and, and_true] at hp
                obtain ⟨p0, p1, p2, p3, p4, p5, p6, p7, p8, p9, p10, p11, p12, p13, p14, p15, p16, p17, p18, p19, p20, p21, p22, p23, p24, p25, p26, p27, p28, p29, p30, p31, p32, p33, p34, p35, p36, p37, p38, p39, p40, p41, p42, p43, p44, p45, p46, p47, p48, p49, p50, p51, p52, p53⟩ := hp
                have f13 := F13.out.tr hf
                simp only [p53]
                clear p0 p1 p2 p3 p4 p5 p6 p7 p8 p9 p10 p11 p12 p13 p14 p15 p16 p17 p18 p19 p20 p21 p22 p23 p24 p25 p26 p27 p28 p29 p30 p31 p32 p33 p34 p35 p36 p37 p38 p39 p40 p41 p42 p43 p44 p45 p46 p47 p48 p49 p51 p52 p53 kcx kc0 kc1 kc2 kc4 kc7 kc8 hf
                go_wp2
                go_roundw
                case rel => exact ⟨k + 1, by go_num, by omega, f13⟩
                case measure => simp [intOf]; omega

          · have dk : decide ((k : Int) < (H.length : Int)) = false := by simp; omega
            have dkn : decide (k < H.length) = false := by simp; omega
            have cq := (Hb7.out.fr f8 (by simp)).cell 8 rfl
            simp only [List.getElem_toArray, List.getElem_cons_zero, List.getElem_cons_succ] at cq
            have hQ8 := HQ7.out.fr f8
            have F8 := (f1.tr HB7.out.at_.fr).tr f8
            have hwW : (Lit.int .u8 (2 * W)).wf = true := by simp [Lit.wf, IntKind.min, IntKind.max, IntKind.signed, IntKind.bits]; omega
            have HWW := Lib.hid hwW
            clear hwW f8
            go_wp2_with fail
            refine (r_Same _ sq ⟨some ⟨wr.heap.size, 0, none⟩, 3, 3⟩ [129, 7, 2 * W] [129, 7, 2 * W] (hQ8.fr ((Fr.refl [] wr).alloc _)).1 (Bts.new (l := [129, 7, 2 * W]) (Blk.new _ _ _) (by intro y hy; simp only [List.mem_cons, List.not_mem_nil, or_false] at hy; rcases hy with rfl | rfl | rfl; decide; decide; exact HWW.out) 0).1 (by simp)).mono ?_
            rintro e w9 ⟨rfl, f9⟩
            have F9 := (F8.alloc (.cells #[.int .u8 129, .int .u8 7, .int .u8 (2 * W)] 5)).tr f9
            clear cq hQ8 F8 f9
            go_wp2
            go_ret
            exact ⟨by simp, F9⟩

end Go.Proofs.Ytgmpikaibeenmaa
