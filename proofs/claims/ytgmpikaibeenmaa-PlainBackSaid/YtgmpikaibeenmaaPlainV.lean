/- A test that is asked, answered and heard is told to who asked. -/
import Derived.Test.YtgmpikaibeenmaaPlainT
import Derived.Test.YtgmpikaibeenmaaPlainU
import Derived.Test.YtgmpikaibeenmaaPlainP0
namespace Go.Proofs.Ytgmpikaibeenmaa
open Go.RowKit Go.Shelf Go.ChangeMaps Go.ChangeShapes Go.WideShapes Go.ChangeAt
set_option linter.unusedVariables false
set_option linter.unusedSimpArgs false
set_option maxRecDepth 100000
attribute [local go_sem] eqA6

theorem may_t (to fr : Int) (rs po : Bool) (l : List Int) (h0 : 0 ≤ to) (h1 : to ≤ 255) (hf0 : 0 ≤ fr) (hf : fr ≤ 254) (he : fr % 2 = 0) (hl : l.length ≤ 1024) : mayB ⟨to, fr, rs, 2, 2, 0, 0, po, l⟩ = true := by
  simp [mayB, kindB, within, odd]
  omega
theorem hs_rng {m : List AE} (h : GA m) {to x : Int} {b : Bool} (hx : x ∈ hsOf m to b) : 0 ≤ x ∧ x ≤ 254 ∧ x % 2 = 0 := by
  unfold hsOf at hx
  rcases List.mem_append.1 hx with hx | hx
  · have hx0 : x = 0 := by
      split at hx
      · simpa using hx
      · simp at hx
    subst hx0
    decide
  · obtain ⟨y, hy, _, hk⟩ := mem_hear.1 hx
    have hs := (h y hy).1
    rw [hk] at hs
    simp [sapB] at hs
    omega
theorem hs_len (m : List AE) (to : Int) (h : to = 0 ∨ to = 255) : (hsOf m to true).length = (hearA m to).length + 1 := by
  unfold hsOf
  rw [if_pos ⟨rfl, h⟩]
  simp
theorem hs_len0 (m : List AE) (to : Int) (h : ¬to = 0) (h' : ¬to = 255) : (hsOf m to true).length = (hearA m to).length := by
  unfold hsOf
  rw [if_neg (by rintro ⟨_, e | e⟩ <;> contradiction)]
  simp
theorem AtM.small {w0 w : World} {p : Nat} {m : List AE} (h : AtM w0 w p m) : m.length ≤ 16 := by
  obtain ⟨b, c, l, h1, rfl, h3, h4⟩ := h
  simpa using h1.small
theorem AtM.cls {w0 w : World} {p : Nat} {m : List AE} (h : AtM w0 w p m) (n : Int) (hn : ¬clsA m n = 0) : 0 < clsA m n := by
  obtain ⟨b, c, l, h1, rfl, h3, h4⟩ := h
  unfold clsA at hn ⊢
  split
  · next x hx =>
    obtain ⟨y, hy, e⟩ := List.mem_map.1 (List.mem_of_find?_eq_some hx)
    have := h1.pos y hy
    subst e
    exact this.1
  · next hx => rw [hx] at hn; exact absurd rfl hn
theorem Both.far {w1 w0 w w' : World} {p q : Nat} {s : Sl} {R : List RE} {m : List AE} {k : Nat} {L : List Nat} (h : Both w0 w p q s R m k) (g : Fr [] w1 w0) (f : Fr L w w') (hL : ∀ x ∈ L, w1.heap.size ≤ x ∧ x < w0.heap.size) : Both w1 w' p q s R m k := by
  refine ⟨?_, h.ga, h.isR.fr f (fun b hb hm => ?_), fun b hb => ?_, h.rel, h.len⟩
  · obtain ⟨b, c, l, h1, h2, h3, h4⟩ := h.at_
    exact ⟨b, c, l, h1.fr f (fun x hx hm => by have := h4 x hx; have := hL x hm; omega), h2, (g.tr h3).trans f (fun x hx => .inr (hL x hx).1), fun y hy => Nat.le_trans g.size (h4 y hy)⟩
  · have := (h.new b hb).1
    have := hL b hm
    omega
  · have := h.new b hb
    have := g.size
    omega
def TupN (N : Nat) (l : List PD) : World → Value → Prop := fun w v => ∃ st : Sl, v = .tuple #[.slice none 0 0, .slice st.A st.n st.c] ∧ PRow N 0 st l w
theorem TupN.keeps {N : Nat} {l : List PD} : Keeps [] (TupN N l) := fun _ _ _ f ⟨s, e, h⟩ => ⟨s, e, PRow.fr f h⟩
def TupI (N : Nat) (l : List ID) : World → Value → Prop := fun w v => ∃ st : Sl, v = .tuple #[.slice st.A st.n st.c, .slice none 0 0] ∧ IRow N 0 st l w
theorem TupI.keeps {N : Nat} {l : List ID} : Keeps [] (TupI N l) := fun _ _ _ f ⟨s, e, h⟩ => ⟨s, e, IRow.fr f h⟩

set_option maxRecDepth 100000 in
set_option maxHeartbeats 8000000 in
theorem walk_PlainBack (w : World) (A1 : Option Addr) (n1 cap1 : Nat) (g1 : Nat → Nat → Int) (hm1 : n1 ≤ 9223372036854775807) (ha1 : ArgRec [.i64, .i64, .i64] w A1 n1 g1) (A2 : Option Addr) (n2 cap2 : Nat) (g2 : Nat → Nat → Int) (hm2 : n2 ≤ 9223372036854775807) (ha2 : ArgRec [.i64, .i64, .i64] w A2 n2 g2)
    (fr to : Int) (b : Sl) (l : List Int) (hfr : (Lit.int .u8 fr).wf = true) (hto : (Lit.int .u8 to).wf = true) (hlm : l.length ≤ 9223372036854775807) (hl : Ints .u8 w b.v l) :
    Calls Try.prog 5 #[.slice A1 n1 cap1, .slice A2 n2 cap2, .agg #[.int .u8 fr, .int .u8 to, .slice b.A b.n b.c]] w fun e w' => e = .returned (.bool true) ∧ Fr [] w w' := by
  have ht := wf_u8 hto
  have hv := wf_u8 hfr
  clear hto hfr
  have hbn : b.n = l.length := hl.n_
  obtain ⟨bA, bn, bc⟩ := b
  simp only at hbn
  subst hbn
  have hB4 := Blk.new w #[.int .u8 fr, .int .u8 to, .slice bA l.length bc] 47
  have hF0 : Fr [] w (w.alloc (.cells #[.int .u8 fr, .int .u8 to, .slice bA l.length bc] 47)) := (Fr.refl [] w).alloc _
  have HB4 := Lib.hid hB4
  have HF0 := Lib.hid hF0
  clear hB4 hF0
  by_cases hl1 : 60 < n1
  · have d1 : decide ((60 : Int) < (n1 : Int)) = true := by simp; omega
    go_enter Try.func5, Try.ntmps5
    go_wp2_with fail
    refine (plain_awake _).mono ?_
    rintro e w1 ⟨rfl, f1⟩
    have F := HF0.out.tr f1
    clear f1
    go_wp2
    go_ret
    exact ⟨rfl, F⟩
  have d1 : decide ((60 : Int) < (n1 : Int)) = false := by simp; omega
  by_cases hl2 : 60 < n2
  · have d2 : decide ((60 : Int) < (n2 : Int)) = true := by simp; omega
    go_enter Try.func5, Try.ntmps5
    go_wp2_with fail
    refine (plain_awake _).mono ?_
    rintro e w1 ⟨rfl, f1⟩
    have F := HF0.out.tr f1
    clear f1
    go_wp2
    go_ret
    exact ⟨rfl, F⟩
  have d2 : decide ((60 : Int) < (n2 : Int)) = false := by simp; omega
  by_cases hl3 : 1000 < l.length
  · have d3 : decide ((1000 : Int) < (l.length : Int)) = true := by simp; omega
    go_enter Try.func5, Try.ntmps5
    go_wp2_with fail
    refine (plain_awake _).mono ?_
    rintro e w1 ⟨rfl, f1⟩
    have F := HF0.out.tr f1
    have c2 := (HB4.out.fr f1 (by simp)).cell 2 rfl
    simp only [List.getElem_toArray, List.getElem_cons_zero, List.getElem_cons_succ] at c2
    clear f1
    go_wp2
    go_ret
    exact ⟨rfl, F⟩
  have d3 : decide ((1000 : Int) < (l.length : Int)) = false := by simp; omega
  have hto' : IntKind.i64.wrap to = to := IntWalk.i64_in _ (by omega)
  have hfr' : IntKind.i64.wrap fr = fr := IntWalk.i64_in _ (by omega)
  obtain ⟨r0, r1, r2, r3, r4, r5, r6, r7⟩ := sap_of fr hv.1
  generalize fr % 127 = Q at *
  obtain ⟨FR, hFR⟩ : ∃ FR, 2 + 2 * Q = FR := ⟨_, rfl⟩
  rw [hFR] at r0 r1 r2 r3 r7
  obtain ⟨Q2, hQ2⟩ : ∃ Q2, 2 * Q = Q2 := ⟨_, rfl⟩
  rw [hQ2] at r6
  have hl5 : l.length ≤ 100000 := by omega
  have hmay := may_t to FR false true l ht.1 ht.2 (by omega) r1 r3 (by omega)
  have hmb := fun x h0 h1 h2 => may_t FR x true true l (by omega) (by omega) h0 h1 h2 (by omega)
  have hmk := makeP_ok (k := 2) (p := true) (b := l) (to := to) (least := 0) r2 (by omega) (by omega) (by omega)
  have HMAY := Lib.hid hmay
  have HMBX := Lib.hid hmb
  have HMK := Lib.hid hmk
  have HN : Hid (n1 ≤ 60 ∧ n2 ≤ 60) := Lib.hid ⟨by omega, by omega⟩
  have HFR0 : Hid (FR ≠ 0) := Lib.hid (by omega)
  rw [hQ2] at hFR
  clear hmay hmb hmk hl1 hl2 hl3 r0 r1 r2 r3
  go_enter Try.func5, Try.ntmps5
  go_wp2_with fail
  refine (plain_awake _).mono ?_
  rintro e w1 ⟨rfl, f1⟩
  have F1 := Lib.hid (HF0.out.tr f1)
  have hb4 := HB4.out.fr f1 (by simp)
  have HB4w := Lib.hid hb4
  have c0 := hb4.cell 0 rfl
  have c1 := hb4.cell 1 rfl
  have c2 := hb4.cell 2 rfl
  simp only [List.getElem_toArray, List.getElem_cons_zero, List.getElem_cons_succ] at c0 c1 c2
  clear f1 hb4
  go_wp2_with fail
  refine (plain_deeds w1 A1 n1 cap1 g1 (by have := HN.out; omega) (ha1.fr F1.out)).mono ?_
  rintro e w2 ⟨p1, q1, m1, rfl, s1, R1, hB1⟩
  have f2 := hB1.at_.fr
  go_wp2_with fail
  refine (plain_deeds w2 A2 n2 cap2 g2 (by have := HN.out; omega) ((ha2.fr F1.out).fr f2)).mono ?_
  rintro e w3 ⟨p2, q2, m2, rfl, s2, R2, hB2⟩
  have f3 := f2.tr hB2.at_.fr
  have C0 := Lib.hid c0
  have C1 := Lib.hid c1
  have C2 := Lib.hid c2
  have c0 := f3.cell c0 (by simp)
  obtain ⟨FF, hF, hFn⟩ := hB1.footF
  have hlt := hF.lt
  have hF3 := hF.on hB2.at_.fr
  clear hB1 c1 c2
  go_wp2_with fail
  refine (Open_F w1 w3 p1 m1 FR 1 FF hF3).mono ?_
  rintro e w4 ⟨rfl, hG, f4⟩
  have hA4 := hG.atM
  have hB4 := hB2.far f2 f4 (fun x hx => ⟨hFn x hx, hlt x hx⟩)
  clear hF hFn hlt hF3 hB2 f4 f3 f2 c0 hG
  generalize (openA m1 FR 1).2 = m' at *
  have f4 := hA4.fr
  have c1 := f4.cell C1.out (by simp)
  have c2 := f4.cell C2.out (by simp)
  go_wp2_with fail
  refine (Class_any w1 w4 p1 m' FR hA4).mono ?_
  rintro e w' ⟨rfl, rfl⟩
  by_cases hc : clsA m' FR = 0
  · have d5 : (clsA m' FR == 0) = true := by simp [hc]
    have F := F1.out.tr f4
    clear hc f4
    go_wp2
    go_ret
    exact ⟨rfl, F⟩
  have d5 : (clsA m' FR == 0) = false := by simp [hc]
  have HCL := Lib.hid (hA4.cls FR hc)
  have hml1 := hA4.small
  have hml2 := hB4.at_.small
  have hlw := Bts.fr (Bts.argN hl) (F1.out.tr f4)
  have HSZ4 := Lib.hid (F1.out.tr f4).size
  clear hc
  go_wp2_with fail
  refine (plain_AskTest FR to ⟨bA, l.length, bc⟩ l w.heap.size _ hlw HSZ4.out hl5).mono ?_
  rw [HMK.out]
  rintro e w5 ⟨sq, rfl, hQ, f5⟩
  simp only at hQ ⊢
  obtain ⟨NN, hNN⟩ : ∃ NN, w.heap.size = NN := ⟨_, rfl⟩
  rw [hNN] at hQ
  have HNN := Lib.hid hNN
  clear hNN hlw
  have HSZ5 := Lib.hid (Nat.le_trans HSZ4.out f5.size)
  go_wp2
  obtain ⟨L, hL⟩ : ∃ L, ((hsOf m2 to true).map fun n => ansP ⟨to, FR, false, 2, 2, 0, 0, true, l⟩ n (clsA m2 n)) = L := ⟨_, rfl⟩
  have HL := Lib.hid hL
  clear hL
  have hb9 := Blk.new w5 (PD.arr ⟨to, FR, false, 2, 2, 0, 0, true, l⟩ sq) 29
  have f6 := f5.alloc (.cells (PD.arr ⟨to, FR, false, 2, 2, 0, 0, true, l⟩ sq) 29)
  have HB6 := Lib.hid (hB4.on f6)
  have hA6 := hA4.on f6
  have hQ6 := hQ.fr ((Fr.refl [] w5).alloc (.cells (PD.arr ⟨to, FR, false, 2, 2, 0, 0, true, l⟩ sq) 29))
  have HSZ6 : Hid (NN ≤ (w5.alloc (.cells (PD.arr ⟨to, FR, false, 2, 2, 0, 0, true, l⟩ sq) 29)).heap.size) := Lib.hid (by rw [← HNN.out]; exact Nat.le_trans HSZ5.out ((Fr.refl [] w5).alloc (.cells (PD.arr ⟨to, FR, false, 2, 2, 0, 0, true, l⟩ sq) 29)).size)
  have F6 := Lib.hid (f4.tr f6)
  clear hB4 hA4 hQ f4 f5 f6 c1 c2
  generalize w5.alloc (.cells (PD.arr ⟨to, FR, false, 2, 2, 0, 0, true, l⟩ sq) 29) = w6 at *
  generalize w5.heap.size = B9 at *
  have k0 : ∀ wx, Fr [] w6 wx → wx.cell? ⟨B9, 0, none⟩ = some (.int .i64 to) := fun wx hf => hf.cell (hb9.cell 0 rfl) (by simp)
  have k1 : ∀ wx, Fr [] w6 wx → wx.cell? ⟨B9, 1, none⟩ = some (.int .i64 FR) := fun wx hf => hf.cell (hb9.cell 1 rfl) (by simp)
  have k2 : ∀ wx, Fr [] w6 wx → wx.cell? ⟨B9, 2, none⟩ = some (.bool false) := fun wx hf => hf.cell (hb9.cell 2 rfl) (by simp)
  have k3 : ∀ wx, Fr [] w6 wx → wx.cell? ⟨B9, 3, none⟩ = some (.int .i64 2) := fun wx hf => hf.cell (hb9.cell 3 rfl) (by simp)
  have k4 : ∀ wx, Fr [] w6 wx → wx.cell? ⟨B9, 4, none⟩ = some (.int .i64 2) := fun wx hf => hf.cell (hb9.cell 4 rfl) (by simp)
  have k5 : ∀ wx, Fr [] w6 wx → wx.cell? ⟨B9, 5, none⟩ = some (.int .i64 0) := fun wx hf => hf.cell (hb9.cell 5 rfl) (by simp)
  have k6 : ∀ wx, Fr [] w6 wx → wx.cell? ⟨B9, 6, none⟩ = some (.int .i64 0) := fun wx hf => hf.cell (hb9.cell 6 rfl) (by simp)
  have k7 : ∀ wx, Fr [] w6 wx → wx.cell? ⟨B9, 7, none⟩ = some (.bool true) := fun wx hf => hf.cell (hb9.cell 7 rfl) (by simp)
  have k8 : ∀ wx, Fr [] w6 wx → wx.cell? ⟨B9, 8, none⟩ = some (.slice sq.A sq.n sq.c) := fun wx hf => hf.cell (hb9.cell 8 rfl) (by simp)
  refine wp_region_keepsC [] [false, false, false, false, false, false, false, false, false] [none, none, none, some 9, some 9, none, some 9, none, some 9] (fun _ => True) [Is (.pointer (some ⟨p2, 0, none⟩)), Is (.agg #[.int .u8 2, .int .u8 0, .int .u8 0, .int .u8 0, .int .u8 0, .int .u8 1]), Is (.agg #[.int .i64 to, .int .i64 FR, .bool false, .int .i64 2, .int .i64 2, .int .i64 0, .int .i64 0, .bool true, .slice sq.A sq.n sq.c]), (TupN NN L), (TupN NN L), Is (.slice none 0 0), (RowF (fun s l w => PRow NN 0 s l w) L), Is (.slice none 0 0), (RowF (fun s l w => PRow NN 0 s l w) L)] 9 (by kernel_rfl) (by kernel_rfl) (by kernel_rfl) (by kernel_rfl) (by kernel_rfl) (by kernel_rfl) (by kernel_rfl) (by kernel_rfl) ?hV (fun _ _ _ h => h) trivial ?hS ?hD
  case hV =>
    repeat (first | exact trivial | exact Is.keepsN _ | exact Any.keepsN | exact TupN.keeps | exact RowF.keeps (fun _ _ _ f h => PRow.fr f h) | refine And.intro ?_ ?_)
  case hS =>
    (repeat' (first | exact trivial | refine And.intro ?_ ?_))
    · intro ac wx hf hbs hs hp K hK
      simp only [waits, holdsA, nth, Is, Any, List.filter_cons, List.filter_nil, List.map_cons, List.map_nil, Region.binds, if_true, true_and, and_true, Nat.reduceAdd, List.getElem?_cons_zero, List.getElem?_cons_succ, Option.bind_some, Array.getD_eq_getD_getElem?] at hp
      have hs9 := hs 9 (by kernel_rfl)
      simp only [Array.getD_eq_getD_getElem?, List.getElem?_toArray, List.getElem?_cons_succ, List.getElem?_cons_zero, Option.getD_some] at hs9
      clear hs
      clear hbs
      clear hp
      clear hf
      go_simp
      try dsimp only
      refine hK.out _ _ ?_ ?_
      · change Fr [] _ _
        ((repeat (first | (with_reducible exact Fr.refl _ _) | (with_reducible assumption) | (with_reducible refine Fr.drew ?_) | (with_reducible refine Fr.drewN ?_ _) | (with_reducible refine Fr.alloc ?_ _) | (with_reducible refine Fr.setL ?_ _ _ _ ?_) | (focus (refine Or.inl ?_; simp; done)) | (focus (refine Or.inr ?_; simp; done)) | (focus (refine Or.inr ?_; simp; omega)) | (focus (refine Or.inr ?_; omega)))); done)
      · simp only [nth]
        first | (unfold Is; rfl) | (unfold Any; exact trivial) | exact IsSl.new _ _ _ _ | assumption
    · intro ac wx hf hbs hs hp K hK
      simp only [waits, holdsA, nth, Is, Any, List.filter_cons, List.filter_nil, List.map_cons, List.map_nil, Region.binds, if_true, true_and, and_true, Nat.reduceAdd, List.getElem?_cons_zero, List.getElem?_cons_succ, Option.bind_some, Array.getD_eq_getD_getElem?] at hp
      clear hs
      clear hbs
      clear hp
      go_simp
      go_at_call 22
      refine (r_Station 1 (by decide) (by decide) _).mono ?_
      rintro e w' ⟨rfl, fz⟩
      exact hK.out _ _ fz rfl
    · intro ac wx hf hbs hs hp K hK
      simp only [waits, holdsA, nth, Is, Any, List.filter_cons, List.filter_nil, List.map_cons, List.map_nil, Region.binds, if_true, true_and, and_true, Nat.reduceAdd, List.getElem?_cons_zero, List.getElem?_cons_succ, Option.bind_some, Array.getD_eq_getD_getElem?] at hp
      have hs12 := hs 12 (by kernel_rfl)
      simp only [Array.getD_eq_getD_getElem?, List.getElem?_toArray, List.getElem?_cons_succ, List.getElem?_cons_zero, Option.getD_some] at hs12
      clear hs
      clear hbs
      clear hp
      have cx0 := k0 wx hf
      have cx1 := k1 wx hf
      have cx2 := k2 wx hf
      have cx3 := k3 wx hf
      have cx4 := k4 wx hf
      have cx5 := k5 wx hf
      have cx6 := k6 wx hf
      have cx7 := k7 wx hf
      have cx8 := k8 wx hf
      clear hf
      go_simp
      try dsimp only
      refine hK.out _ _ ?_ ?_
      · change Fr [] _ _
        ((repeat (first | (with_reducible exact Fr.refl _ _) | (with_reducible assumption) | (with_reducible refine Fr.drew ?_) | (with_reducible refine Fr.drewN ?_ _) | (with_reducible refine Fr.alloc ?_ _) | (with_reducible refine Fr.setL ?_ _ _ _ ?_) | (focus (refine Or.inl ?_; simp; done)) | (focus (refine Or.inr ?_; simp; done)) | (focus (refine Or.inr ?_; simp; omega)) | (focus (refine Or.inr ?_; omega)))); done)
      · simp only [nth]
        first | (unfold Is; rfl) | (unfold Any; exact trivial) | exact IsSl.new _ _ _ _ | assumption
    · intro ac wx hf hbs hs hp K hK
      simp only [waits, holdsA, nth, Is, Any, List.filter_cons, List.filter_nil, List.map_cons, List.map_nil, Region.binds, if_true, true_and, and_true, Nat.reduceAdd, List.getElem?_cons_zero, List.getElem?_cons_succ, Option.bind_some, Array.getD_eq_getD_getElem?] at hp
      clear hs
      clear hbs
      obtain ⟨h0, h1, h2, h1_2⟩ := hp
      have hax := HB6.out.at_.on hf
      have hqx := hQ6.fr hf
      have hnx := Nat.le_trans HSZ6.out hf.size
      clear hf
      (try simp only [h0, h1, h2])
      go_simp
      go_at_call 12
      refine (hear_x w1 _ p2 m2 ⟨to, FR, false, 2, 2, 0, 0, true, l⟩ sq ⟨2, 0, 0, 0, 0, 1⟩ NN hax hqx hnx HMAY.out rfl (.inr rfl) rfl HFR0.out hml2 hl5).mono ?_
      rintro e w' ⟨st, rfl, hR, hA, fz⟩
      refine hK.out _ _ fz ?_
      simp only [nth]
      obtain ⟨xs, ho, hr2⟩ := hR
      exact ⟨st, rfl, by rw [HL.out] at ho hr2; exact ⟨xs, own_low ho (Nat.zero_le _), hr2⟩⟩
    · intro ac wx hf hbs hs hp K hK
      simp only [waits, holdsA, nth, Is, Any, List.filter_cons, List.filter_nil, List.map_cons, List.map_nil, Region.binds, if_true, true_and, and_true, Nat.reduceAdd, List.getElem?_cons_zero, List.getElem?_cons_succ, Option.bind_some, Array.getD_eq_getD_getElem?] at hp
      clear hs
      clear hbs
      have h3 := hp
      clear hp
      obtain ⟨st, e3, hr⟩ := h3
      clear hf
      (try simp only [e3])
      go_simp
      refine hK.out _ _ ?_ ?_
      · change Fr [] _ _
        exact Fr.refl _ _
      · simp only [nth]
        exact ⟨st, rfl, hr⟩
    · intro ac wx hf hbs hs hp K hK
      simp only [waits, holdsA, nth, Is, Any, List.filter_cons, List.filter_nil, List.map_cons, List.map_nil, Region.binds, if_true, true_and, and_true, Nat.reduceAdd, List.getElem?_cons_zero, List.getElem?_cons_succ, Option.bind_some, Array.getD_eq_getD_getElem?] at hp
      clear hs
      clear hbs
      have h4 := hp
      clear hp
      obtain ⟨st, e4, hr⟩ := h4
      clear hf
      (try simp only [e4])
      go_simp
      try dsimp only
      refine hK.out _ _ ?_ ?_
      · change Fr [] _ _
        ((repeat (first | (with_reducible exact Fr.refl _ _) | (with_reducible assumption) | (with_reducible refine Fr.drew ?_) | (with_reducible refine Fr.drewN ?_ _) | (with_reducible refine Fr.alloc ?_ _) | (with_reducible refine Fr.setL ?_ _ _ _ ?_) | (focus (refine Or.inl ?_; simp; done)) | (focus (refine Or.inr ?_; simp; done)) | (focus (refine Or.inr ?_; simp; omega)) | (focus (refine Or.inr ?_; omega)))); done)
      · simp only [nth]
        first | (unfold Is; rfl) | (unfold Any; exact trivial) | exact IsSl.new _ _ _ _ | assumption
    · intro ac wx hf hbs hs hp K hK
      simp only [waits, holdsA, nth, Is, Any, List.filter_cons, List.filter_nil, List.map_cons, List.map_nil, Region.binds, if_true, true_and, and_true, Nat.reduceAdd, List.getElem?_cons_zero, List.getElem?_cons_succ, Option.bind_some, Array.getD_eq_getD_getElem?] at hp
      clear hs
      clear hbs
      obtain ⟨h4, h7⟩ := hp
      obtain ⟨st, e4, hr⟩ := h4
      clear hf
      (try simp only [e4])
      go_simp
      refine hK.out _ _ ?_ ?_
      · change Fr [] _ _
        exact Fr.refl _ _
      · simp only [nth]
        exact ⟨st, rfl, hr⟩
    · intro ac wx hf hbs hs hp K hK
      simp only [waits, holdsA, nth, Is, Any, List.filter_cons, List.filter_nil, List.map_cons, List.map_nil, Region.binds, if_true, true_and, and_true, Nat.reduceAdd, List.getElem?_cons_zero, List.getElem?_cons_succ, Option.bind_some, Array.getD_eq_getD_getElem?] at hp
      clear hs
      clear hbs
      obtain ⟨h5, h3, h0, h1, h2, h3_2, h4, h5_2, h6⟩ := hp
      clear hf
      (try simp only [h5, h0, h1, h2])
      go_simp
      try dsimp only
      refine hK.out _ _ ?_ ?_
      · change Fr [] _ _
        ((repeat (first | (with_reducible exact Fr.refl _ _) | (with_reducible assumption) | (with_reducible refine Fr.drew ?_) | (with_reducible refine Fr.drewN ?_ _) | (with_reducible refine Fr.alloc ?_ _) | (with_reducible refine Fr.setL ?_ _ _ _ ?_) | (focus (refine Or.inl ?_; simp; done)) | (focus (refine Or.inr ?_; simp; done)) | (focus (refine Or.inr ?_; simp; omega)) | (focus (refine Or.inr ?_; omega)))); done)
      · simp only [nth]
        first | (unfold Is; rfl) | (unfold Any; exact trivial) | exact IsSl.new _ _ _ _ | assumption
    · intro ac wx hf hbs hs hp K hK
      simp only [waits, holdsA, nth, Is, Any, List.filter_cons, List.filter_nil, List.map_cons, List.map_nil, Region.binds, if_true, true_and, and_true, Nat.reduceAdd, List.getElem?_cons_zero, List.getElem?_cons_succ, Option.bind_some, Array.getD_eq_getD_getElem?] at hp
      clear hs
      clear hbs
      obtain ⟨h6, h7, h0, h1, h2, h3, h4, h5, h6_2, h7_2⟩ := hp
      obtain ⟨st, e6, hr⟩ := h6
      clear hf
      (try simp only [e6])
      go_simp
      refine hK.out _ _ ?_ ?_
      · change Fr [] _ _
        exact Fr.refl _ _
      · simp only [nth]
        exact ⟨st, rfl, hr⟩
  case hD =>
    intro xv wx hf hp
    simp only [List.take_succ_cons, List.take_zero, List.drop_succ_cons, List.drop_zero, fill, List.setIfInBounds_toArray, List.set_cons_zero, List.set_cons_succ, Nat.reduceAdd, Act.put]
    rw [show live 9 (deadC [none, none, none, some 9, some 9, none, some 9, none, some 9]) = [0, 1, 2, 3, 4, 5, 6, 7, 8] from by decide] at hp
    simp only [holds, nth, Is, Any, true_and, and_true] at hp
    obtain ⟨p0, p1, p2, p3, p4, p5, p6, p7, p8⟩ := hp
    obtain ⟨st, e8, hr8⟩ := p8
    simp only [p7, e8]
    have hB7 := HB6.out.on hf
    have HA7 := Lib.hid (hA6.on hf)
    have c1 := (F6.out.tr hf).cell C1.out (by simp)
    have F7 := Lib.hid (F6.out.tr hf)
    have HSZ7 := Lib.hid (Nat.le_trans HSZ6.out hf.size)
    clear p0 p1 p2 p3 p4 p5 p6 p7 e8 hb9 hA6 hQ6 k0 k1 k2 k3 k4 k5 k6 k7 k8 hf
    go_wp2_with fail
    refine (r_Hears wx q2 s2 R2 to hB7.isR (by have := hB7.lenR; omega) (fun x hx => by have := hB7.lenG x hx; have := HN.out; omega)).mono ?_
    rintro e w8 ⟨sh, rfl, hown, f8⟩
    rw [hB7.rel.hear to] at hown
    have hshn := own_n hown
    obtain ⟨AH, nH, cH⟩ := sh
    simp only at hshn
    subst hshn
    have HGA := Lib.hid hB7.ga
    have HR8 := Lib.hid (PRow.fr f8 hr8)
    have hLn : st.n = L.length := RowG.n hr8
    have hLL : L.length = (hsOf m2 to true).length := by rw [← HL.out, List.length_map]
    have hLs : L.length ≤ 17 := by rw [hLL]; have := hsOf_len (m := m2) to true; omega
    have HA8 := Lib.hid (HA7.out.on f8)
    have F8 := Lib.hid (F7.out.tr f8)
    have HSZ8 := Lib.hid (Nat.le_trans HSZ7.out f8.size)
    have c1 := f8.cell c1 (by simp)
    obtain ⟨A15, n15, c15⟩ := st
    simp only at hLn
    subst hLn
    have hW1 : IntKind.i64.wrap (L.length : Int) = (L.length : Int) := IntWalk.i64_in _ (by omega)
    have hcase : ((to == 0) = true ∧ (((hearA m2 to).length : Int) + 1 = (L.length : Int))) ∨ ((to == 0) = false ∧ (to == 255) = true ∧ (((hearA m2 to).length : Int) + 1 = (L.length : Int))) ∨ ((to == 0) = false ∧ (to == 255) = false ∧ (hearA m2 to).length = L.length) := by
      by_cases h0 : to = 0
      · exact .inl ⟨by simp [h0], by rw [hLL, hs_len m2 to (.inl h0)]; simp⟩
      · by_cases h1 : to = 255
        · exact .inr (.inl ⟨by simp [h0], by simp [h1], by rw [hLL, hs_len m2 to (.inr h1)]; simp⟩)
        · exact .inr (.inr ⟨by simp [h0], by simp [h1], by rw [hLL, hs_len0 m2 to h0 h1]⟩)
    clear hB7 hown f8 hr8 hLL
    generalize (hearA m2 to).length = nH at *
    rcases hcase with ⟨e1, hC⟩ | ⟨e1, e2, hC⟩ | ⟨e1, e2, hC⟩
    rotate_left 2
    subst hC
    all_goals
      go_wp2
      go_loopw [17] (fun i wr => ∃ k : Nat, i = .int .i64 k ∧ k ≤ L.length ∧ Fr [] w8 wr) (fun i _ => L.length - (intOf i).toNat)
      case atStart => exact ⟨0, rfl, by omega, Fr.refl _ _⟩
      case round =>
      obtain ⟨k, rfl, hk, f9⟩ := hrel
      by_cases hkl : k < L.length
      rotate_left
      · have dk : decide ((k : Int) < (L.length : Int)) = false := by simp; omega
        have F9 := (F1.out.tr F8.out).tr f9
        clear f9
        go_wp2
        go_ret
        exact ⟨by simp, F9⟩
      have dk : decide ((k : Int) < (L.length : Int)) = true := by simp; omega
      have dkn : decide (k < L.length) = true := by simp; omega
      obtain ⟨x, hxm, hLk⟩ : ∃ x, x ∈ hsOf m2 to true ∧ L[k]? = some ⟨FR, x, true, 2, 2, 0, 0, true, l⟩ := by
        have hkl' : k < (hsOf m2 to true).length := by have := hkl; rw [← HL.out, List.length_map] at this; exact this
        refine ⟨(hsOf m2 to true)[k], List.getElem_mem hkl', ?_⟩
        rw [← HL.out, List.getElem?_map, List.getElem?_eq_getElem hkl']
        rfl
      obtain ⟨hx0, hx1, hx2⟩ := hs_rng HGA.out hxm
      have HMB := Lib.hid (HMBX.out x hx0 hx1 hx2)
      obtain ⟨bb, sd, e2, hbd, c0, c1, c2, c3, c4, c5, c6, c7, c8⟩ := PRow.get (PRow.fr f9 HR8.out) hLk
      simp only at e2 hbd c0 c1 c2 c3 c4 c5 c6 c7 c8
      subst e2
      have HBD := Lib.hid hbd
      have HAr := Lib.hid (HA8.out.on f9)
      have HSZr := Lib.hid (Nat.le_trans HSZ8.out f9.size)
      have F9 := Lib.hid f9
      clear hbd hLk hxm hx0 hx1 hx2 f9
      go_wp2
      have k0 : ∀ wx, Fr [] wr wx → wx.cell? ⟨bb, k * 9, none⟩ = some (.int .i64 FR) := fun wx hf => hf.cell c0 (by simp)
      have k1 : ∀ wx, Fr [] wr wx → wx.cell? ⟨bb, k * 9 + 1, none⟩ = some (.int .i64 x) := fun wx hf => hf.cell c1 (by simp)
      have k2 : ∀ wx, Fr [] wr wx → wx.cell? ⟨bb, k * 9 + 2, none⟩ = some (.bool true) := fun wx hf => hf.cell c2 (by simp)
      have k3 : ∀ wx, Fr [] wr wx → wx.cell? ⟨bb, k * 9 + 3, none⟩ = some (.int .i64 2) := fun wx hf => hf.cell c3 (by simp)
      have k4 : ∀ wx, Fr [] wr wx → wx.cell? ⟨bb, k * 9 + 4, none⟩ = some (.int .i64 2) := fun wx hf => hf.cell c4 (by simp)
      have k5 : ∀ wx, Fr [] wr wx → wx.cell? ⟨bb, k * 9 + 5, none⟩ = some (.int .i64 0) := fun wx hf => hf.cell c5 (by simp)
      have k6 : ∀ wx, Fr [] wr wx → wx.cell? ⟨bb, k * 9 + 6, none⟩ = some (.int .i64 0) := fun wx hf => hf.cell c6 (by simp)
      have k7 : ∀ wx, Fr [] wr wx → wx.cell? ⟨bb, k * 9 + 7, none⟩ = some (.bool true) := fun wx hf => hf.cell c7 (by simp)
      have k8 : ∀ wx, Fr [] wr wx → wx.cell? ⟨bb, k * 9 + 8, none⟩ = some (.slice sd.A sd.n sd.c) := fun wx hf => hf.cell c8 (by simp)
      refine wp_region_keepsC [] [false, false, false, false, false, false, false, false, false, false, false, false] [none, none, none, none, none, none, some 12, some 12, some 12, none, some 12, none] (fun _ => True) [Is (.pointer (some ⟨p1, 0, none⟩)), Is (.agg #[.int .u8 2, .int .u8 0, .int .u8 0, .int .u8 0, .int .u8 0, .int .u8 2]), Is (.slice (some ⟨bb, 0, none⟩) L.length c15), Is (.int .i64 k), Is (.pointer (some ⟨bb, k * 9, none⟩)), Is (.agg #[.int .i64 FR, .int .i64 x, .bool true, .int .i64 2, .int .i64 2, .int .i64 0, .int .i64 0, .bool true, .slice sd.A sd.n sd.c]), (TupI NN [⟨3, FR, x, ⟨2, 0, 0, 0, 0, 2⟩, l⟩]), (TupI NN [⟨3, FR, x, ⟨2, 0, 0, 0, 0, 2⟩, l⟩]), (RowF (fun s l w => IRow NN 0 s l w) [⟨3, FR, x, ⟨2, 0, 0, 0, 0, 2⟩, l⟩]), Is (.slice none 0 0), (RowF (fun s l w => IRow NN 0 s l w) [⟨3, FR, x, ⟨2, 0, 0, 0, 0, 2⟩, l⟩]), Is (.slice none 0 0)] 12 (by kernel_rfl) (by kernel_rfl) (by kernel_rfl) (by kernel_rfl) (by kernel_rfl) (by kernel_rfl) (by kernel_rfl) (by kernel_rfl) ?hV (fun _ _ _ h => h) trivial ?hS ?hD
      case hV =>
        repeat (first | exact trivial | exact Is.keepsN _ | exact Any.keepsN | exact TupI.keeps | exact RowF.keeps (fun _ _ _ f h => IRow.fr f h) | refine And.intro ?_ ?_)
      case hS =>
        (repeat' (first | exact trivial | refine And.intro ?_ ?_))
        · intro ac wx hf hbs hs hp K hK
          simp only [waits, holdsA, nth, Is, Any, List.filter_cons, List.filter_nil, List.map_cons, List.map_nil, Region.binds, if_true, true_and, and_true, Nat.reduceAdd, List.getElem?_cons_zero, List.getElem?_cons_succ, Option.bind_some, Array.getD_eq_getD_getElem?] at hp
          have hs7 := hs 7 (by kernel_rfl)
          simp only [Array.getD_eq_getD_getElem?, List.getElem?_toArray, List.getElem?_cons_succ, List.getElem?_cons_zero, Option.getD_some] at hs7
          clear hs
          clear hbs
          clear hp
          clear hf
          go_simp
          try dsimp only
          refine hK.out _ _ ?_ ?_
          · change Fr [] _ _
            ((repeat (first | (with_reducible exact Fr.refl _ _) | (with_reducible assumption) | (with_reducible refine Fr.drew ?_) | (with_reducible refine Fr.drewN ?_ _) | (with_reducible refine Fr.alloc ?_ _) | (with_reducible refine Fr.setL ?_ _ _ _ ?_) | (focus (refine Or.inl ?_; simp; done)) | (focus (refine Or.inr ?_; simp; done)) | (focus (refine Or.inr ?_; simp; omega)) | (focus (refine Or.inr ?_; omega)))); done)
          · simp only [nth]
            first | (unfold Is; rfl) | (unfold Any; exact trivial) | exact IsSl.new _ _ _ _ | assumption
        · intro ac wx hf hbs hs hp K hK
          simp only [waits, holdsA, nth, Is, Any, List.filter_cons, List.filter_nil, List.map_cons, List.map_nil, Region.binds, if_true, true_and, and_true, Nat.reduceAdd, List.getElem?_cons_zero, List.getElem?_cons_succ, Option.bind_some, Array.getD_eq_getD_getElem?] at hp
          clear hs
          clear hbs
          clear hp
          go_simp
          go_at_call 22
          refine (r_Station 2 (by decide) (by decide) _).mono ?_
          rintro e w' ⟨rfl, fz⟩
          exact hK.out _ _ fz rfl
        · intro ac wx hf hbs hs hp K hK
          simp only [waits, holdsA, nth, Is, Any, List.filter_cons, List.filter_nil, List.map_cons, List.map_nil, Region.binds, if_true, true_and, and_true, Nat.reduceAdd, List.getElem?_cons_zero, List.getElem?_cons_succ, Option.bind_some, Array.getD_eq_getD_getElem?] at hp
          have hs15 := hs 15 (by kernel_rfl)
          simp only [Array.getD_eq_getD_getElem?, List.getElem?_toArray, List.getElem?_cons_succ, List.getElem?_cons_zero, Option.getD_some] at hs15
          clear hs
          clear hbs
          clear hp
          clear hf
          go_simp
          try dsimp only
          refine hK.out _ _ ?_ ?_
          · change Fr [] _ _
            ((repeat (first | (with_reducible exact Fr.refl _ _) | (with_reducible assumption) | (with_reducible refine Fr.drew ?_) | (with_reducible refine Fr.drewN ?_ _) | (with_reducible refine Fr.alloc ?_ _) | (with_reducible refine Fr.setL ?_ _ _ _ ?_) | (focus (refine Or.inl ?_; simp; done)) | (focus (refine Or.inr ?_; simp; done)) | (focus (refine Or.inr ?_; simp; omega)) | (focus (refine Or.inr ?_; omega)))); done)
          · simp only [nth]
            first | (unfold Is; rfl) | (unfold Any; exact trivial) | exact IsSl.new _ _ _ _ | assumption
        · intro ac wx hf hbs hs hp K hK
          simp only [waits, holdsA, nth, Is, Any, List.filter_cons, List.filter_nil, List.map_cons, List.map_nil, Region.binds, if_true, true_and, and_true, Nat.reduceAdd, List.getElem?_cons_zero, List.getElem?_cons_succ, Option.bind_some, Array.getD_eq_getD_getElem?] at hp
          have hs17 := hs 17 (by kernel_rfl)
          simp only [Array.getD_eq_getD_getElem?, List.getElem?_toArray, List.getElem?_cons_succ, List.getElem?_cons_zero, Option.getD_some] at hs17
          clear hs
          clear hbs
          clear hp
          clear hf
          go_simp
          try dsimp only
          refine hK.out _ _ ?_ ?_
          · change Fr [] _ _
            ((repeat (first | (with_reducible exact Fr.refl _ _) | (with_reducible assumption) | (with_reducible refine Fr.drew ?_) | (with_reducible refine Fr.drewN ?_ _) | (with_reducible refine Fr.alloc ?_ _) | (with_reducible refine Fr.setL ?_ _ _ _ ?_) | (focus (refine Or.inl ?_; simp; done)) | (focus (refine Or.inr ?_; simp; done)) | (focus (refine Or.inr ?_; simp; omega)) | (focus (refine Or.inr ?_; omega)))); done)
          · simp only [nth]
            first | (unfold Is; rfl) | (unfold Any; exact trivial) | exact IsSl.new _ _ _ _ | assumption
        · intro ac wx hf hbs hs hp K hK
          simp only [waits, holdsA, nth, Is, Any, List.filter_cons, List.filter_nil, List.map_cons, List.map_nil, Region.binds, if_true, true_and, and_true, Nat.reduceAdd, List.getElem?_cons_zero, List.getElem?_cons_succ, Option.bind_some, Array.getD_eq_getD_getElem?] at hp
          clear hs
          clear hbs
          obtain ⟨h2, h3⟩ := hp
          clear hf
          (try simp only [h2, h3])
          go_simp
          try dsimp only
          refine hK.out _ _ ?_ ?_
          · change Fr [] _ _
            ((repeat (first | (with_reducible exact Fr.refl _ _) | (with_reducible assumption) | (with_reducible refine Fr.drew ?_) | (with_reducible refine Fr.drewN ?_ _) | (with_reducible refine Fr.alloc ?_ _) | (with_reducible refine Fr.setL ?_ _ _ _ ?_) | (focus (refine Or.inl ?_; simp; done)) | (focus (refine Or.inr ?_; simp; done)) | (focus (refine Or.inr ?_; simp; omega)) | (focus (refine Or.inr ?_; omega)))); done)
          · simp only [nth]
            first | (unfold Is; rfl) | (unfold Any; exact trivial) | exact IsSl.new _ _ _ _ | assumption
        · intro ac wx hf hbs hs hp K hK
          simp only [waits, holdsA, nth, Is, Any, List.filter_cons, List.filter_nil, List.map_cons, List.map_nil, Region.binds, if_true, true_and, and_true, Nat.reduceAdd, List.getElem?_cons_zero, List.getElem?_cons_succ, Option.bind_some, Array.getD_eq_getD_getElem?] at hp
          clear hs
          clear hbs
          have h4 := hp
          clear hp
          have cx0 := k0 wx hf
          have cx1 := k1 wx hf
          have cx2 := k2 wx hf
          have cx3 := k3 wx hf
          have cx4 := k4 wx hf
          have cx5 := k5 wx hf
          have cx6 := k6 wx hf
          have cx7 := k7 wx hf
          have cx8 := k8 wx hf
          clear hf
          (try simp only [h4])
          go_simp
          try dsimp only
          refine hK.out _ _ ?_ ?_
          · change Fr [] _ _
            ((repeat (first | (with_reducible exact Fr.refl _ _) | (with_reducible assumption) | (with_reducible refine Fr.drew ?_) | (with_reducible refine Fr.drewN ?_ _) | (with_reducible refine Fr.alloc ?_ _) | (with_reducible refine Fr.setL ?_ _ _ _ ?_) | (focus (refine Or.inl ?_; simp; done)) | (focus (refine Or.inr ?_; simp; done)) | (focus (refine Or.inr ?_; simp; omega)) | (focus (refine Or.inr ?_; omega)))); done)
          · simp only [nth]
            first | (unfold Is; rfl) | (unfold Any; exact trivial) | exact IsSl.new _ _ _ _ | assumption
        · intro ac wx hf hbs hs hp K hK
          simp only [waits, holdsA, nth, Is, Any, List.filter_cons, List.filter_nil, List.map_cons, List.map_nil, Region.binds, if_true, true_and, and_true, Nat.reduceAdd, List.getElem?_cons_zero, List.getElem?_cons_succ, Option.bind_some, Array.getD_eq_getD_getElem?] at hp
          clear hs
          clear hbs
          obtain ⟨h0, h1, h5, h1_2⟩ := hp
          have hax := HAr.out.on hf
          have hqx := HBD.out.fr hf
          have hnx := Nat.le_trans HSZr.out hf.size
          clear hf
          (try simp only [h0, h1, h5])
          go_simp
          go_at_call 12
          refine (hear_c w1 _ p1 m' ⟨FR, x, true, 2, 2, 0, 0, true, l⟩ sd ⟨2, 0, 0, 0, 0, 2⟩ NN hax hqx hnx HMB.out rfl rfl rfl HCL.out hml1 hl5).mono ?_
          rintro e w' ⟨st, rfl, hR, hA, fz⟩
          refine hK.out _ _ fz ?_
          simp only [nth]
          obtain ⟨xs, ho, hr2⟩ := hR
          exact ⟨st, rfl, ⟨xs, own_low ho (Nat.zero_le _), hr2⟩⟩
        · intro ac wx hf hbs hs hp K hK
          simp only [waits, holdsA, nth, Is, Any, List.filter_cons, List.filter_nil, List.map_cons, List.map_nil, Region.binds, if_true, true_and, and_true, Nat.reduceAdd, List.getElem?_cons_zero, List.getElem?_cons_succ, Option.bind_some, Array.getD_eq_getD_getElem?] at hp
          clear hs
          clear hbs
          have h6 := hp
          clear hp
          obtain ⟨st, e6, hr⟩ := h6
          clear hf
          (try simp only [e6])
          go_simp
          refine hK.out _ _ ?_ ?_
          · change Fr [] _ _
            exact Fr.refl _ _
          · simp only [nth]
            exact ⟨st, rfl, hr⟩
        · intro ac wx hf hbs hs hp K hK
          simp only [waits, holdsA, nth, Is, Any, List.filter_cons, List.filter_nil, List.map_cons, List.map_nil, Region.binds, if_true, true_and, and_true, Nat.reduceAdd, List.getElem?_cons_zero, List.getElem?_cons_succ, Option.bind_some, Array.getD_eq_getD_getElem?] at hp
          clear hs
          clear hbs
          have h7 := hp
          clear hp
          obtain ⟨st, e7, hr⟩ := h7
          clear hf
          (try simp only [e7])
          go_simp
          refine hK.out _ _ ?_ ?_
          · change Fr [] _ _
            exact Fr.refl _ _
          · simp only [nth]
            exact ⟨st, rfl, hr⟩
        · intro ac wx hf hbs hs hp K hK
          simp only [waits, holdsA, nth, Is, Any, List.filter_cons, List.filter_nil, List.map_cons, List.map_nil, Region.binds, if_true, true_and, and_true, Nat.reduceAdd, List.getElem?_cons_zero, List.getElem?_cons_succ, Option.bind_some, Array.getD_eq_getD_getElem?] at hp
          clear hs
          clear hbs
          obtain ⟨h7, h10⟩ := hp
          obtain ⟨st, e7, hr⟩ := h7
          clear hf
          (try simp only [e7])
          go_simp
          try dsimp only
          refine hK.out _ _ ?_ ?_
          · change Fr [] _ _
            ((repeat (first | (with_reducible exact Fr.refl _ _) | (with_reducible assumption) | (with_reducible refine Fr.drew ?_) | (with_reducible refine Fr.drewN ?_ _) | (with_reducible refine Fr.alloc ?_ _) | (with_reducible refine Fr.setL ?_ _ _ _ ?_) | (focus (refine Or.inl ?_; simp; done)) | (focus (refine Or.inr ?_; simp; done)) | (focus (refine Or.inr ?_; simp; omega)) | (focus (refine Or.inr ?_; omega)))); done)
          · simp only [nth]
            first | (unfold Is; rfl) | (unfold Any; exact trivial) | exact IsSl.new _ _ _ _ | assumption
        · intro ac wx hf hbs hs hp K hK
          simp only [waits, holdsA, nth, Is, Any, List.filter_cons, List.filter_nil, List.map_cons, List.map_nil, Region.binds, if_true, true_and, and_true, Nat.reduceAdd, List.getElem?_cons_zero, List.getElem?_cons_succ, Option.bind_some, Array.getD_eq_getD_getElem?] at hp
          clear hs
          clear hbs
          obtain ⟨h8, h6, h0, h1, h2, h3, h4, h5, h6_2, h7, h8_2, h9⟩ := hp
          obtain ⟨st, e8, hr⟩ := h8
          clear hf
          (try simp only [e8])
          go_simp
          refine hK.out _ _ ?_ ?_
          · change Fr [] _ _
            exact Fr.refl _ _
          · simp only [nth]
            exact ⟨st, rfl, hr⟩
        · intro ac wx hf hbs hs hp K hK
          simp only [waits, holdsA, nth, Is, Any, List.filter_cons, List.filter_nil, List.map_cons, List.map_nil, Region.binds, if_true, true_and, and_true, Nat.reduceAdd, List.getElem?_cons_zero, List.getElem?_cons_succ, Option.bind_some, Array.getD_eq_getD_getElem?] at hp
          clear hs
          clear hbs
          obtain ⟨h9, h10, h0, h1, h2, h3, h4, h5, h6, h7, h8, h9_2, h10_2⟩ := hp
          clear hf
          (try simp only [h9, h0, h1, h2, h3, h4, h5])
          go_simp
          try dsimp only
          refine hK.out _ _ ?_ ?_
          · change Fr [] _ _
            ((repeat (first | (with_reducible exact Fr.refl _ _) | (with_reducible assumption) | (with_reducible refine Fr.drew ?_) | (with_reducible refine Fr.drewN ?_ _) | (with_reducible refine Fr.alloc ?_ _) | (with_reducible refine Fr.setL ?_ _ _ _ ?_) | (focus (refine Or.inl ?_; simp; done)) | (focus (refine Or.inr ?_; simp; done)) | (focus (refine Or.inr ?_; simp; omega)) | (focus (refine Or.inr ?_; omega)))); done)
          · simp only [nth]
            first | (unfold Is; rfl) | (unfold Any; exact trivial) | exact IsSl.new _ _ _ _ | assumption
      case hD =>
        intro xv wx hf hp
        simp only [List.take_succ_cons, List.take_zero, List.drop_succ_cons, List.drop_zero, fill, List.setIfInBounds_toArray, List.set_cons_zero, List.set_cons_succ, Nat.reduceAdd, Act.put]
        rw [show live 12 (deadC [none, none, none, none, none, none, some 12, some 12, some 12, none, some 12, none]) = [0, 1, 2, 3, 4, 5, 6, 7, 8, 9, 10, 11] from by decide] at hp
        simp only [holds, nth, Is, Any, true_and, and_true] at hp
        obtain ⟨p0, p1, p2, p3, p4, p5, p6, p7, p8, p9, p10, p11⟩ := hp
        obtain ⟨st, e10, hr10⟩ := p10
        simp only [p11, e10]
        have f10 := F9.out.tr hf
        have hst : st.n = 1 := RowG.n hr10
        obtain ⟨bi, se, e11, hbe, x0, x1, x2, x3, x4, x5, x6, x7, x8, x9, x10⟩ := IRow.get (k := 0) hr10 rfl
        obtain ⟨A18, n18, c18⟩ := st
        simp only at hst e11 hbe x0 x1 x2 x3 x4 x5 x6 x7 x8 x9 x10
        simp only [Nat.zero_mul, Nat.zero_add] at x0 x1 x2 x3 x4 x5 x6 x7 x8 x9 x10
        subst hst
        subst e11
        have HBE := Lib.hid hbe
        have y1 := hf.cell c1 (by simp)
        have hl0 := (hl.fr F1.out).fr (F8.out.tr f10)
        have a2 := (F8.out.tr f10).cell C2.out (by simp)
        have F10 := Lib.hid f10
        clear p0 p1 p2 p3 p4 p5 p9 p11 c0 c1 c2 c3 c4 c5 c6 c7 c8 k0 k1 k2 k3 k4 k5 k6 k7 k8 hr10 hbe f10 e10 hf
        generalize wx = wz at *
        go_wp2
        have kx0 : ∀ wx, Fr [] wz wx → wx.cell? ⟨bi, 0, none⟩ = some (.int .i64 3) := fun wx hf => hf.cell x0 (by simp)
        have kx1 : ∀ wx, Fr [] wz wx → wx.cell? ⟨bi, 1, none⟩ = some (.int .i64 FR) := fun wx hf => hf.cell x1 (by simp)
        have kx2 : ∀ wx, Fr [] wz wx → wx.cell? ⟨bi, 2, none⟩ = some (.int .i64 x) := fun wx hf => hf.cell x2 (by simp)
        have kx3 : ∀ wx, Fr [] wz wx → wx.cell? ⟨bi, 3, none⟩ = some (.int .u8 2) := fun wx hf => hf.cell x3 (by simp)
        have kx4 : ∀ wx, Fr [] wz wx → wx.cell? ⟨bi, 4, none⟩ = some (.int .u8 0) := fun wx hf => hf.cell x4 (by simp)
        have kx5 : ∀ wx, Fr [] wz wx → wx.cell? ⟨bi, 5, none⟩ = some (.int .u8 0) := fun wx hf => hf.cell x5 (by simp)
        have kx6 : ∀ wx, Fr [] wz wx → wx.cell? ⟨bi, 6, none⟩ = some (.int .u8 0) := fun wx hf => hf.cell x6 (by simp)
        have kx7 : ∀ wx, Fr [] wz wx → wx.cell? ⟨bi, 7, none⟩ = some (.int .u8 0) := fun wx hf => hf.cell x7 (by simp)
        have kx8 : ∀ wx, Fr [] wz wx → wx.cell? ⟨bi, 8, none⟩ = some (.int .u8 2) := fun wx hf => hf.cell x8 (by simp)
        have kx9 : ∀ wx, Fr [] wz wx → wx.cell? ⟨bi, 9, none⟩ = some (.slice se.A se.n se.c) := fun wx hf => hf.cell x9 (by simp)
        have ky1 : ∀ wx, Fr [] wz wx → wx.cell? ⟨bb, k * 9 + 1, none⟩ = some (.int .i64 x) := fun wx hf => hf.cell y1 (by simp)
        have ka2 : ∀ wx, Fr [] wz wx → wx.cell? ⟨w.heap.size, 2, none⟩ = some (.slice bA l.length bc) := fun wx hf => hf.cell a2 (by simp)
        clear y1 a2 x0 x1 x2 x3 x4 x5 x6 x7 x8 x9 x10
        refine wp_region_keepsC [] [false, false, false, false, false, false, false, false, false, false, false, false, false, false, false, false, false, false, false, false, false, false, false, false, false, false, false, false, false, false, false, false, false, false, false, false, false, false, false, false, false, false, false, false, false, false, false, false, false, false, false, false, false] [none, none, none, none, none, none, none, none, none, none, none, none, none, none, none, none, none, none, none, none, none, none, none, none, none, none, none, none, none, none, none, none, none, none, none, none, none, none, none, none, none, none, none, none, none, none, none, none, none, none, none, none, none] (fun _ => True) [Is (.slice (some ⟨bi, 0, none⟩) 1 c18), Is (.int .i64 1), Is (.bool false), Is (.bool false), Is (.slice none 0 0), Is (.int .i64 0), Is (.bool false), Is (.bool false), Is (.bool false), Is (.slice (some ⟨bi, 0, none⟩) 1 c18), Is (.pointer (some ⟨bi, 0, none⟩)), Is (.pointer (some ⟨bi, 0, none⟩)), Is (.int .i64 3), Is (.bool false), Is (.bool false), Is (.bool false), Is (.slice (some ⟨bi, 0, none⟩) 1 c18), Is (.pointer (some ⟨bi, 0, none⟩)), Is (.pointer (some ⟨bi, 1, none⟩)), Is (.int .i64 FR), Is (.int .i64 FR), Is (.bool false), Is (.bool false), Is (.bool false), Is (.slice (some ⟨bi, 0, none⟩) 1 c18), Is (.pointer (some ⟨bi, 0, none⟩)), Is (.pointer (some ⟨bi, 2, none⟩)), Is (.int .i64 x), Is (.slice (some ⟨bb, 0, none⟩) L.length c15), Is (.int .i64 k), Is (.pointer (some ⟨bb, k * 9, none⟩)), Is (.pointer (some ⟨bb, k * 9 + 1, none⟩)), Is (.int .i64 x), Is (.bool false), Is (.bool false), Is (.bool false), Is (.slice (some ⟨bi, 0, none⟩) 1 c18), Is (.pointer (some ⟨bi, 0, none⟩)), Is (.pointer (some ⟨bi, 3, none⟩)), Is (.agg #[.int .u8 2, .int .u8 0, .int .u8 0, .int .u8 0, .int .u8 0, .int .u8 2]), Is (.agg #[.int .u8 2, .int .u8 0, .int .u8 0, .int .u8 0, .int .u8 0, .int .u8 2]), Is (.bool false), Is (.bool false), Is (.bool false), Is (.slice (some ⟨bi, 0, none⟩) 1 c18), Is (.pointer (some ⟨bi, 0, none⟩)), Is (.pointer (some ⟨bi, 9, none⟩)), Is (.slice se.A se.n se.c), Is (.pointer (some ⟨w.heap.size, 2, none⟩)), Is (.slice bA l.length bc), Is (.bool true), Is (.bool false), Is (.bool false)] 53 (by kernel_rfl) (by kernel_rfl) (by kernel_rfl) (by kernel_rfl) (by kernel_rfl) (by kernel_rfl) (by kernel_rfl) (by kernel_rfl) ?hV (fun _ _ _ h => h) trivial ?hS ?hD
        case hV =>
          repeat (first | exact trivial | exact Is.keepsN _ | exact Any.keepsN | refine And.intro ?_ ?_)
        case hS =>
          (repeat' (first | exact trivial | refine And.intro ?_ ?_))
          · intro ac wx hf hbs hs hp K hK
            simp only [waits, holdsA, nth, Is, Any, List.filter_cons, List.filter_nil, List.map_cons, List.map_nil, Region.binds, if_true, true_and, and_true, Nat.reduceAdd, List.getElem?_cons_zero, List.getElem?_cons_succ, Option.bind_some, Array.getD_eq_getD_getElem?] at hp
            have hs18 := hs 18 (by kernel_rfl)
            simp only [Array.getD_eq_getD_getElem?, List.getElem?_toArray, List.getElem?_cons_succ, List.getElem?_cons_zero, Option.getD_some] at hs18
            clear hs
            clear hbs
            clear hp
            clear hf
            go_simp
            try dsimp only
            refine hK.out _ _ ?_ ?_
            · change Fr [] _ _
              ((repeat (first | (with_reducible exact Fr.refl _ _) | (with_reducible assumption) | (with_reducible refine Fr.drew ?_) | (with_reducible refine Fr.drewN ?_ _) | (with_reducible refine Fr.alloc ?_ _) | (with_reducible refine Fr.setL ?_ _ _ _ ?_) | (focus (refine Or.inl ?_; simp; done)) | (focus (refine Or.inr ?_; simp; done)) | (focus (refine Or.inr ?_; simp; omega)) | (focus (refine Or.inr ?_; omega)))); done)
            · simp only [nth]
              first | (unfold Is; rfl) | (unfold Any; exact trivial) | exact IsSl.new _ _ _ _ | assumption
          · intro ac wx hf hbs hs hp K hK
            simp only [waits, holdsA, nth, Is, Any, List.filter_cons, List.filter_nil, List.map_cons, List.map_nil, Region.binds, if_true, true_and, and_true, Nat.reduceAdd, List.getElem?_cons_zero, List.getElem?_cons_succ, Option.bind_some, Array.getD_eq_getD_getElem?] at hp
            clear hs
            clear hbs
            have h0 := hp
            clear hp
            clear hf
            (try simp only [h0])
            go_simp
            try dsimp only
            refine hK.out _ _ ?_ ?_
            · change Fr [] _ _
              ((repeat (first | (with_reducible exact Fr.refl _ _) | (with_reducible assumption) | (with_reducible refine Fr.drew ?_) | (with_reducible refine Fr.drewN ?_ _) | (with_reducible refine Fr.alloc ?_ _) | (with_reducible refine Fr.setL ?_ _ _ _ ?_) | (focus (refine Or.inl ?_; simp; done)) | (focus (refine Or.inr ?_; simp; done)) | (focus (refine Or.inr ?_; simp; omega)) | (focus (refine Or.inr ?_; omega)))); done)
            · simp only [nth]
              first | (unfold Is; rfl) | (unfold Any; exact trivial) | exact IsSl.new _ _ _ _ | assumption
          · intro ac wx hf hbs hs hp K hK
            simp only [waits, holdsA, nth, Is, Any, List.filter_cons, List.filter_nil, List.map_cons, List.map_nil, Region.binds, if_true, true_and, and_true, Nat.reduceAdd, List.getElem?_cons_zero, List.getElem?_cons_succ, Option.bind_some, Array.getD_eq_getD_getElem?] at hp
            clear hs
            clear hbs
            have h1 := hp
            clear hp
            clear hf
            (try simp only [h1])
            go_simp
            try dsimp only
            refine hK.out _ _ ?_ ?_
            · change Fr [] _ _
              ((repeat (first | (with_reducible exact Fr.refl _ _) | (with_reducible assumption) | (with_reducible refine Fr.drew ?_) | (with_reducible refine Fr.drewN ?_ _) | (with_reducible refine Fr.alloc ?_ _) | (with_reducible refine Fr.setL ?_ _ _ _ ?_) | (focus (refine Or.inl ?_; simp; done)) | (focus (refine Or.inr ?_; simp; done)) | (focus (refine Or.inr ?_; simp; omega)) | (focus (refine Or.inr ?_; omega)))); done)
            · simp only [nth]
              first | (unfold Is; rfl) | (unfold Any; exact trivial) | exact IsSl.new _ _ _ _ | assumption
          · intro ac wx hf hbs hs hp K hK
            simp only [waits, holdsA, nth, Is, Any, List.filter_cons, List.filter_nil, List.map_cons, List.map_nil, Region.binds, if_true, true_and, and_true, Nat.reduceAdd, List.getElem?_cons_zero, List.getElem?_cons_succ, Option.bind_some, Array.getD_eq_getD_getElem?] at hp
            clear hs
            clear hbs
            have h2 := hp
            clear hp
            clear hf
            (try simp only [h2])
            go_simp
            try dsimp only
            refine hK.out _ _ ?_ ?_
            · change Fr [] _ _
              ((repeat (first | (with_reducible exact Fr.refl _ _) | (with_reducible assumption) | (with_reducible refine Fr.drew ?_) | (with_reducible refine Fr.drewN ?_ _) | (with_reducible refine Fr.alloc ?_ _) | (with_reducible refine Fr.setL ?_ _ _ _ ?_) | (focus (refine Or.inl ?_; simp; done)) | (focus (refine Or.inr ?_; simp; done)) | (focus (refine Or.inr ?_; simp; omega)) | (focus (refine Or.inr ?_; omega)))); done)
            · simp only [nth]
              first | (unfold Is; rfl) | (unfold Any; exact trivial) | exact IsSl.new _ _ _ _ | assumption
          · intro ac wx hf hbs hs hp K hK
            simp only [waits, holdsA, nth, Is, Any, List.filter_cons, List.filter_nil, List.map_cons, List.map_nil, Region.binds, if_true, true_and, and_true, Nat.reduceAdd, List.getElem?_cons_zero, List.getElem?_cons_succ, Option.bind_some, Array.getD_eq_getD_getElem?] at hp
            have hs19 := hs 19 (by kernel_rfl)
            simp only [Array.getD_eq_getD_getElem?, List.getElem?_toArray, List.getElem?_cons_succ, List.getElem?_cons_zero, Option.getD_some] at hs19
            clear hs
            clear hbs
            have h3 := hp
            clear hp
            have hg3 := (getD_bool _ _).1 h3
            clear hf
            (try simp only [h3, hg3])
            go_simp
            try dsimp only
            refine hK.out _ _ ?_ ?_
            · change Fr [] _ _
              ((repeat (first | (with_reducible exact Fr.refl _ _) | (with_reducible assumption) | (with_reducible refine Fr.drew ?_) | (with_reducible refine Fr.drewN ?_ _) | (with_reducible refine Fr.alloc ?_ _) | (with_reducible refine Fr.setL ?_ _ _ _ ?_) | (focus (refine Or.inl ?_; simp; done)) | (focus (refine Or.inr ?_; simp; done)) | (focus (refine Or.inr ?_; simp; omega)) | (focus (refine Or.inr ?_; omega)))); done)
            · simp only [nth]
              first | (unfold Is; rfl) | (unfold Any; exact trivial) | exact IsSl.new _ _ _ _ | assumption
          · intro ac wx hf hbs hs hp K hK
            simp only [waits, holdsA, nth, Is, Any, List.filter_cons, List.filter_nil, List.map_cons, List.map_nil, Region.binds, if_true, true_and, and_true, Nat.reduceAdd, List.getElem?_cons_zero, List.getElem?_cons_succ, Option.bind_some, Array.getD_eq_getD_getElem?] at hp
            clear hs
            clear hbs
            obtain ⟨h4, h3⟩ := hp
            have hg3 := (getD_bool _ _).1 h3
            clear hf
            (try simp only [h4, h3, hg3])
            go_simp
            try dsimp only
            refine hK.out _ _ ?_ ?_
            · change Fr [] _ _
              ((repeat (first | (with_reducible exact Fr.refl _ _) | (with_reducible assumption) | (with_reducible refine Fr.drew ?_) | (with_reducible refine Fr.drewN ?_ _) | (with_reducible refine Fr.alloc ?_ _) | (with_reducible refine Fr.setL ?_ _ _ _ ?_) | (focus (refine Or.inl ?_; simp; done)) | (focus (refine Or.inr ?_; simp; done)) | (focus (refine Or.inr ?_; simp; omega)) | (focus (refine Or.inr ?_; omega)))); done)
            · simp only [nth]
              first | (unfold Is; rfl) | (unfold Any; exact trivial) | exact IsSl.new _ _ _ _ | assumption
          · intro ac wx hf hbs hs hp K hK
            simp only [waits, holdsA, nth, Is, Any, List.filter_cons, List.filter_nil, List.map_cons, List.map_nil, Region.binds, if_true, true_and, and_true, Nat.reduceAdd, List.getElem?_cons_zero, List.getElem?_cons_succ, Option.bind_some, Array.getD_eq_getD_getElem?] at hp
            clear hs
            clear hbs
            obtain ⟨h5, h3⟩ := hp
            have hg3 := (getD_bool _ _).1 h3
            clear hf
            (try simp only [h5, h3, hg3])
            go_simp
            try dsimp only
            refine hK.out _ _ ?_ ?_
            · change Fr [] _ _
              ((repeat (first | (with_reducible exact Fr.refl _ _) | (with_reducible assumption) | (with_reducible refine Fr.drew ?_) | (with_reducible refine Fr.drewN ?_ _) | (with_reducible refine Fr.alloc ?_ _) | (with_reducible refine Fr.setL ?_ _ _ _ ?_) | (focus (refine Or.inl ?_; simp; done)) | (focus (refine Or.inr ?_; simp; done)) | (focus (refine Or.inr ?_; simp; omega)) | (focus (refine Or.inr ?_; omega)))); done)
            · simp only [nth]
              first | (unfold Is; rfl) | (unfold Any; exact trivial) | exact IsSl.new _ _ _ _ | assumption
          · intro ac wx hf hbs hs hp K hK
            simp only [waits, holdsA, nth, Is, Any, List.filter_cons, List.filter_nil, List.map_cons, List.map_nil, Region.binds, if_true, true_and, and_true, Nat.reduceAdd, List.getElem?_cons_zero, List.getElem?_cons_succ, Option.bind_some, Array.getD_eq_getD_getElem?] at hp
            clear hs
            clear hbs
            obtain ⟨h3, h6⟩ := hp
            clear hf
            (try simp only [h3, h6])
            go_simp
            try dsimp only
            refine hK.out _ _ ?_ ?_
            · change Fr [] _ _
              ((repeat (first | (with_reducible exact Fr.refl _ _) | (with_reducible assumption) | (with_reducible refine Fr.drew ?_) | (with_reducible refine Fr.drewN ?_ _) | (with_reducible refine Fr.alloc ?_ _) | (with_reducible refine Fr.setL ?_ _ _ _ ?_) | (focus (refine Or.inl ?_; simp; done)) | (focus (refine Or.inr ?_; simp; done)) | (focus (refine Or.inr ?_; simp; omega)) | (focus (refine Or.inr ?_; omega)))); done)
            · simp only [nth]
              first | (unfold Is; rfl) | (unfold Any; exact trivial) | exact IsSl.new _ _ _ _ | assumption
          · intro ac wx hf hbs hs hp K hK
            simp only [waits, holdsA, nth, Is, Any, List.filter_cons, List.filter_nil, List.map_cons, List.map_nil, Region.binds, if_true, true_and, and_true, Nat.reduceAdd, List.getElem?_cons_zero, List.getElem?_cons_succ, Option.bind_some, Array.getD_eq_getD_getElem?] at hp
            clear hs
            clear hbs
            obtain ⟨h7, h3⟩ := hp
            clear hf
            (try simp only [h7, h3])
            go_simp
            try dsimp only
            refine hK.out _ _ ?_ ?_
            · change Fr [] _ _
              ((repeat (first | (with_reducible exact Fr.refl _ _) | (with_reducible assumption) | (with_reducible refine Fr.drew ?_) | (with_reducible refine Fr.drewN ?_ _) | (with_reducible refine Fr.alloc ?_ _) | (with_reducible refine Fr.setL ?_ _ _ _ ?_) | (focus (refine Or.inl ?_; simp; done)) | (focus (refine Or.inr ?_; simp; done)) | (focus (refine Or.inr ?_; simp; omega)) | (focus (refine Or.inr ?_; omega)))); done)
            · simp only [nth]
              first | (unfold Is; rfl) | (unfold Any; exact trivial) | exact IsSl.new _ _ _ _ | assumption
          · intro ac wx hf hbs hs hp K hK
            simp only [waits, holdsA, nth, Is, Any, List.filter_cons, List.filter_nil, List.map_cons, List.map_nil, Region.binds, if_true, true_and, and_true, Nat.reduceAdd, List.getElem?_cons_zero, List.getElem?_cons_succ, Option.bind_some, Array.getD_eq_getD_getElem?] at hp
            have hs18 := hs 18 (by kernel_rfl)
            simp only [Array.getD_eq_getD_getElem?, List.getElem?_toArray, List.getElem?_cons_succ, List.getElem?_cons_zero, Option.getD_some] at hs18
            clear hs
            clear hbs
            have h8 := hp
            clear hp
            have hg8 := (getD_bool _ _).1 h8
            clear hf
            (try simp only [h8, hg8])
            go_simp
            try dsimp only
            refine hK.out _ _ ?_ ?_
            · change Fr [] _ _
              ((repeat (first | (with_reducible exact Fr.refl _ _) | (with_reducible assumption) | (with_reducible refine Fr.drew ?_) | (with_reducible refine Fr.drewN ?_ _) | (with_reducible refine Fr.alloc ?_ _) | (with_reducible refine Fr.setL ?_ _ _ _ ?_) | (focus (refine Or.inl ?_; simp; done)) | (focus (refine Or.inr ?_; simp; done)) | (focus (refine Or.inr ?_; simp; omega)) | (focus (refine Or.inr ?_; omega)))); done)
            · simp only [nth]
              first | (unfold Is; rfl) | (unfold Any; exact trivial) | exact IsSl.new _ _ _ _ | assumption
          · intro ac wx hf hbs hs hp K hK
            simp only [waits, holdsA, nth, Is, Any, List.filter_cons, List.filter_nil, List.map_cons, List.map_nil, Region.binds, if_true, true_and, and_true, Nat.reduceAdd, List.getElem?_cons_zero, List.getElem?_cons_succ, Option.bind_some, Array.getD_eq_getD_getElem?] at hp
            clear hs
            clear hbs
            obtain ⟨h9, h8⟩ := hp
            have hg8 := (getD_bool _ _).1 h8
            clear hf
            (try simp only [h9, h8, hg8])
            go_simp
            try dsimp only
            refine hK.out _ _ ?_ ?_
            · change Fr [] _ _
              ((repeat (first | (with_reducible exact Fr.refl _ _) | (with_reducible assumption) | (with_reducible refine Fr.drew ?_) | (with_reducible refine Fr.drewN ?_ _) | (with_reducible refine Fr.alloc ?_ _) | (with_reducible refine Fr.setL ?_ _ _ _ ?_) | (focus (refine Or.inl ?_; simp; done)) | (focus (refine Or.inr ?_; simp; done)) | (focus (refine Or.inr ?_; simp; omega)) | (focus (refine Or.inr ?_; omega)))); done)
            · simp only [nth]
              first | (unfold Is; rfl) | (unfold Any; exact trivial) | exact IsSl.new _ _ _ _ | assumption
          · intro ac wx hf hbs hs hp K hK
            simp only [waits, holdsA, nth, Is, Any, List.filter_cons, List.filter_nil, List.map_cons, List.map_nil, Region.binds, if_true, true_and, and_true, Nat.reduceAdd, List.getElem?_cons_zero, List.getElem?_cons_succ, Option.bind_some, Array.getD_eq_getD_getElem?] at hp
            clear hs
            clear hbs
            obtain ⟨h10, h8⟩ := hp
            have hg8 := (getD_bool _ _).1 h8
            clear hf
            (try simp only [h10, h8, hg8])
            go_simp
            try dsimp only
            refine hK.out _ _ ?_ ?_
            · change Fr [] _ _
              ((repeat (first | (with_reducible exact Fr.refl _ _) | (with_reducible assumption) | (with_reducible refine Fr.drew ?_) | (with_reducible refine Fr.drewN ?_ _) | (with_reducible refine Fr.alloc ?_ _) | (with_reducible refine Fr.setL ?_ _ _ _ ?_) | (focus (refine Or.inl ?_; simp; done)) | (focus (refine Or.inr ?_; simp; done)) | (focus (refine Or.inr ?_; simp; omega)) | (focus (refine Or.inr ?_; omega)))); done)
            · simp only [nth]
              first | (unfold Is; rfl) | (unfold Any; exact trivial) | exact IsSl.new _ _ _ _ | assumption
          · intro ac wx hf hbs hs hp K hK
            simp only [waits, holdsA, nth, Is, Any, List.filter_cons, List.filter_nil, List.map_cons, List.map_nil, Region.binds, if_true, true_and, and_true, Nat.reduceAdd, List.getElem?_cons_zero, List.getElem?_cons_succ, Option.bind_some, Array.getD_eq_getD_getElem?] at hp
            clear hs
            clear hbs
            obtain ⟨h11, h8⟩ := hp
            have hg8 := (getD_bool _ _).1 h8
            have cx := kx0 wx hf
            clear hf
            (try simp only [h11, h8, hg8])
            go_simp
            try dsimp only
            refine hK.out _ _ ?_ ?_
            · change Fr [] _ _
              ((repeat (first | (with_reducible exact Fr.refl _ _) | (with_reducible assumption) | (with_reducible refine Fr.drew ?_) | (with_reducible refine Fr.drewN ?_ _) | (with_reducible refine Fr.alloc ?_ _) | (with_reducible refine Fr.setL ?_ _ _ _ ?_) | (focus (refine Or.inl ?_; simp; done)) | (focus (refine Or.inr ?_; simp; done)) | (focus (refine Or.inr ?_; simp; omega)) | (focus (refine Or.inr ?_; omega)))); done)
            · simp only [nth]
              first | (unfold Is; rfl) | (unfold Any; exact trivial) | exact IsSl.new _ _ _ _ | assumption
          · intro ac wx hf hbs hs hp K hK
            simp only [waits, holdsA, nth, Is, Any, List.filter_cons, List.filter_nil, List.map_cons, List.map_nil, Region.binds, if_true, true_and, and_true, Nat.reduceAdd, List.getElem?_cons_zero, List.getElem?_cons_succ, Option.bind_some, Array.getD_eq_getD_getElem?] at hp
            clear hs
            clear hbs
            obtain ⟨h12, h8⟩ := hp
            have hg8 := (getD_bool _ _).1 h8
            clear hf
            (try simp only [h12, h8, hg8])
            go_simp
            try dsimp only
            refine hK.out _ _ ?_ ?_
            · change Fr [] _ _
              ((repeat (first | (with_reducible exact Fr.refl _ _) | (with_reducible assumption) | (with_reducible refine Fr.drew ?_) | (with_reducible refine Fr.drewN ?_ _) | (with_reducible refine Fr.alloc ?_ _) | (with_reducible refine Fr.setL ?_ _ _ _ ?_) | (focus (refine Or.inl ?_; simp; done)) | (focus (refine Or.inr ?_; simp; done)) | (focus (refine Or.inr ?_; simp; omega)) | (focus (refine Or.inr ?_; omega)))); done)
            · simp only [nth]
              first | (unfold Is; rfl) | (unfold Any; exact trivial) | exact IsSl.new _ _ _ _ | assumption
          · intro ac wx hf hbs hs hp K hK
            simp only [waits, holdsA, nth, Is, Any, List.filter_cons, List.filter_nil, List.map_cons, List.map_nil, Region.binds, if_true, true_and, and_true, Nat.reduceAdd, List.getElem?_cons_zero, List.getElem?_cons_succ, Option.bind_some, Array.getD_eq_getD_getElem?] at hp
            clear hs
            clear hbs
            obtain ⟨h8, h13⟩ := hp
            clear hf
            (try simp only [h8, h13])
            go_simp
            try dsimp only
            refine hK.out _ _ ?_ ?_
            · change Fr [] _ _
              ((repeat (first | (with_reducible exact Fr.refl _ _) | (with_reducible assumption) | (with_reducible refine Fr.drew ?_) | (with_reducible refine Fr.drewN ?_ _) | (with_reducible refine Fr.alloc ?_ _) | (with_reducible refine Fr.setL ?_ _ _ _ ?_) | (focus (refine Or.inl ?_; simp; done)) | (focus (refine Or.inr ?_; simp; done)) | (focus (refine Or.inr ?_; simp; omega)) | (focus (refine Or.inr ?_; omega)))); done)
            · simp only [nth]
              first | (unfold Is; rfl) | (unfold Any; exact trivial) | exact IsSl.new _ _ _ _ | assumption
          · intro ac wx hf hbs hs hp K hK
            simp only [waits, holdsA, nth, Is, Any, List.filter_cons, List.filter_nil, List.map_cons, List.map_nil, Region.binds, if_true, true_and, and_true, Nat.reduceAdd, List.getElem?_cons_zero, List.getElem?_cons_succ, Option.bind_some, Array.getD_eq_getD_getElem?] at hp
            clear hs
            clear hbs
            obtain ⟨h14, h8⟩ := hp
            clear hf
            (try simp only [h14, h8])
            go_simp
            try dsimp only
            refine hK.out _ _ ?_ ?_
            · change Fr [] _ _
              ((repeat (first | (with_reducible exact Fr.refl _ _) | (with_reducible assumption) | (with_reducible refine Fr.drew ?_) | (with_reducible refine Fr.drewN ?_ _) | (with_reducible refine Fr.alloc ?_ _) | (with_reducible refine Fr.setL ?_ _ _ _ ?_) | (focus (refine Or.inl ?_; simp; done)) | (focus (refine Or.inr ?_; simp; done)) | (focus (refine Or.inr ?_; simp; omega)) | (focus (refine Or.inr ?_; omega)))); done)
            · simp only [nth]
              first | (unfold Is; rfl) | (unfold Any; exact trivial) | exact IsSl.new _ _ _ _ | assumption
          · intro ac wx hf hbs hs hp K hK
            simp only [waits, holdsA, nth, Is, Any, List.filter_cons, List.filter_nil, List.map_cons, List.map_nil, Region.binds, if_true, true_and, and_true, Nat.reduceAdd, List.getElem?_cons_zero, List.getElem?_cons_succ, Option.bind_some, Array.getD_eq_getD_getElem?] at hp
            have hs18 := hs 18 (by kernel_rfl)
            simp only [Array.getD_eq_getD_getElem?, List.getElem?_toArray, List.getElem?_cons_succ, List.getElem?_cons_zero, Option.getD_some] at hs18
            clear hs
            clear hbs
            have h15 := hp
            clear hp
            have hg15 := (getD_bool _ _).1 h15
            clear hf
            (try simp only [h15, hg15])
            go_simp
            try dsimp only
            refine hK.out _ _ ?_ ?_
            · change Fr [] _ _
              ((repeat (first | (with_reducible exact Fr.refl _ _) | (with_reducible assumption) | (with_reducible refine Fr.drew ?_) | (with_reducible refine Fr.drewN ?_ _) | (with_reducible refine Fr.alloc ?_ _) | (with_reducible refine Fr.setL ?_ _ _ _ ?_) | (focus (refine Or.inl ?_; simp; done)) | (focus (refine Or.inr ?_; simp; done)) | (focus (refine Or.inr ?_; simp; omega)) | (focus (refine Or.inr ?_; omega)))); done)
            · simp only [nth]
              first | (unfold Is; rfl) | (unfold Any; exact trivial) | exact IsSl.new _ _ _ _ | assumption
          · intro ac wx hf hbs hs hp K hK
            simp only [waits, holdsA, nth, Is, Any, List.filter_cons, List.filter_nil, List.map_cons, List.map_nil, Region.binds, if_true, true_and, and_true, Nat.reduceAdd, List.getElem?_cons_zero, List.getElem?_cons_succ, Option.bind_some, Array.getD_eq_getD_getElem?] at hp
            clear hs
            clear hbs
            obtain ⟨h16, h15⟩ := hp
            have hg15 := (getD_bool _ _).1 h15
            clear hf
            (try simp only [h16, h15, hg15])
            go_simp
            try dsimp only
            refine hK.out _ _ ?_ ?_
            · change Fr [] _ _
              ((repeat (first | (with_reducible exact Fr.refl _ _) | (with_reducible assumption) | (with_reducible refine Fr.drew ?_) | (with_reducible refine Fr.drewN ?_ _) | (with_reducible refine Fr.alloc ?_ _) | (with_reducible refine Fr.setL ?_ _ _ _ ?_) | (focus (refine Or.inl ?_; simp; done)) | (focus (refine Or.inr ?_; simp; done)) | (focus (refine Or.inr ?_; simp; omega)) | (focus (refine Or.inr ?_; omega)))); done)
            · simp only [nth]
              first | (unfold Is; rfl) | (unfold Any; exact trivial) | exact IsSl.new _ _ _ _ | assumption
          · intro ac wx hf hbs hs hp K hK
            simp only [waits, holdsA, nth, Is, Any, List.filter_cons, List.filter_nil, List.map_cons, List.map_nil, Region.binds, if_true, true_and, and_true, Nat.reduceAdd, List.getElem?_cons_zero, List.getElem?_cons_succ, Option.bind_some, Array.getD_eq_getD_getElem?] at hp
            clear hs
            clear hbs
            obtain ⟨h17, h15⟩ := hp
            have hg15 := (getD_bool _ _).1 h15
            clear hf
            (try simp only [h17, h15, hg15])
            go_simp
            try dsimp only
            refine hK.out _ _ ?_ ?_
            · change Fr [] _ _
              ((repeat (first | (with_reducible exact Fr.refl _ _) | (with_reducible assumption) | (with_reducible refine Fr.drew ?_) | (with_reducible refine Fr.drewN ?_ _) | (with_reducible refine Fr.alloc ?_ _) | (with_reducible refine Fr.setL ?_ _ _ _ ?_) | (focus (refine Or.inl ?_; simp; done)) | (focus (refine Or.inr ?_; simp; done)) | (focus (refine Or.inr ?_; simp; omega)) | (focus (refine Or.inr ?_; omega)))); done)
            · simp only [nth]
              first | (unfold Is; rfl) | (unfold Any; exact trivial) | exact IsSl.new _ _ _ _ | assumption
          · intro ac wx hf hbs hs hp K hK
            simp only [waits, holdsA, nth, Is, Any, List.filter_cons, List.filter_nil, List.map_cons, List.map_nil, Region.binds, if_true, true_and, and_true, Nat.reduceAdd, List.getElem?_cons_zero, List.getElem?_cons_succ, Option.bind_some, Array.getD_eq_getD_getElem?] at hp
            clear hs
            clear hbs
            obtain ⟨h18, h15⟩ := hp
            have hg15 := (getD_bool _ _).1 h15
            have cx := kx1 wx hf
            clear hf
            (try simp only [h18, h15, hg15])
            go_simp
            try dsimp only
            refine hK.out _ _ ?_ ?_
            · change Fr [] _ _
              ((repeat (first | (with_reducible exact Fr.refl _ _) | (with_reducible assumption) | (with_reducible refine Fr.drew ?_) | (with_reducible refine Fr.drewN ?_ _) | (with_reducible refine Fr.alloc ?_ _) | (with_reducible refine Fr.setL ?_ _ _ _ ?_) | (focus (refine Or.inl ?_; simp; done)) | (focus (refine Or.inr ?_; simp; done)) | (focus (refine Or.inr ?_; simp; omega)) | (focus (refine Or.inr ?_; omega)))); done)
            · simp only [nth]
              first | (unfold Is; rfl) | (unfold Any; exact trivial) | exact IsSl.new _ _ _ _ | assumption
          · intro ac wx hf hbs hs hp K hK
            simp only [waits, holdsA, nth, Is, Any, List.filter_cons, List.filter_nil, List.map_cons, List.map_nil, Region.binds, if_true, true_and, and_true, Nat.reduceAdd, List.getElem?_cons_zero, List.getElem?_cons_succ, Option.bind_some, Array.getD_eq_getD_getElem?] at hp
            have hs11 := hs 11 (by kernel_rfl)
            simp only [Array.getD_eq_getD_getElem?, List.getElem?_toArray, List.getElem?_cons_succ, List.getElem?_cons_zero, Option.getD_some] at hs11
            clear hs
            clear hbs
            have h15 := hp
            clear hp
            have hg15 := (getD_bool _ _).1 h15
            clear hf
            (try simp only [h15, hg15])
            go_simp
            try dsimp only
            refine hK.out _ _ ?_ ?_
            · change Fr [] _ _
              ((repeat (first | (with_reducible exact Fr.refl _ _) | (with_reducible assumption) | (with_reducible refine Fr.drew ?_) | (with_reducible refine Fr.drewN ?_ _) | (with_reducible refine Fr.alloc ?_ _) | (with_reducible refine Fr.setL ?_ _ _ _ ?_) | (focus (refine Or.inl ?_; simp; done)) | (focus (refine Or.inr ?_; simp; done)) | (focus (refine Or.inr ?_; simp; omega)) | (focus (refine Or.inr ?_; omega)))); done)
            · simp only [nth]
              first | (unfold Is; rfl) | (unfold Any; exact trivial) | exact IsSl.new _ _ _ _ | assumption
          · intro ac wx hf hbs hs hp K hK
            simp only [waits, holdsA, nth, Is, Any, List.filter_cons, List.filter_nil, List.map_cons, List.map_nil, Region.binds, if_true, true_and, and_true, Nat.reduceAdd, List.getElem?_cons_zero, List.getElem?_cons_succ, Option.bind_some, Array.getD_eq_getD_getElem?] at hp
            clear hs
            clear hbs
            obtain ⟨h19, h20, h15⟩ := hp
            have hg15 := (getD_bool _ _).1 h15
            clear hf
            (try simp only [h19, h20, h15, hg15])
            go_simp
            try dsimp only
            refine hK.out _ _ ?_ ?_
            · change Fr [] _ _
              ((repeat (first | (with_reducible exact Fr.refl _ _) | (with_reducible assumption) | (with_reducible refine Fr.drew ?_) | (with_reducible refine Fr.drewN ?_ _) | (with_reducible refine Fr.alloc ?_ _) | (with_reducible refine Fr.setL ?_ _ _ _ ?_) | (focus (refine Or.inl ?_; simp; done)) | (focus (refine Or.inr ?_; simp; done)) | (focus (refine Or.inr ?_; simp; omega)) | (focus (refine Or.inr ?_; omega)))); done)
            · simp only [nth]
              first | (unfold Is; rfl) | (unfold Any; exact trivial) | exact IsSl.new _ _ _ _ | assumption
          · intro ac wx hf hbs hs hp K hK
            simp only [waits, holdsA, nth, Is, Any, List.filter_cons, List.filter_nil, List.map_cons, List.map_nil, Region.binds, if_true, true_and, and_true, Nat.reduceAdd, List.getElem?_cons_zero, List.getElem?_cons_succ, Option.bind_some, Array.getD_eq_getD_getElem?] at hp
            clear hs
            clear hbs
            obtain ⟨h15, h21⟩ := hp
            clear hf
            (try simp only [h15, h21])
            go_simp
            try dsimp only
            refine hK.out _ _ ?_ ?_
            · change Fr [] _ _
              ((repeat (first | (with_reducible exact Fr.refl _ _) | (with_reducible assumption) | (with_reducible refine Fr.drew ?_) | (with_reducible refine Fr.drewN ?_ _) | (with_reducible refine Fr.alloc ?_ _) | (with_reducible refine Fr.setL ?_ _ _ _ ?_) | (focus (refine Or.inl ?_; simp; done)) | (focus (refine Or.inr ?_; simp; done)) | (focus (refine Or.inr ?_; simp; omega)) | (focus (refine Or.inr ?_; omega)))); done)
            · simp only [nth]
              first | (unfold Is; rfl) | (unfold Any; exact trivial) | exact IsSl.new _ _ _ _ | assumption
          · intro ac wx hf hbs hs hp K hK
            simp only [waits, holdsA, nth, Is, Any, List.filter_cons, List.filter_nil, List.map_cons, List.map_nil, Region.binds, if_true, true_and, and_true, Nat.reduceAdd, List.getElem?_cons_zero, List.getElem?_cons_succ, Option.bind_some, Array.getD_eq_getD_getElem?] at hp
            clear hs
            clear hbs
            obtain ⟨h22, h15⟩ := hp
            clear hf
            (try simp only [h22, h15])
            go_simp
            try dsimp only
            refine hK.out _ _ ?_ ?_
            · change Fr [] _ _
              ((repeat (first | (with_reducible exact Fr.refl _ _) | (with_reducible assumption) | (with_reducible refine Fr.drew ?_) | (with_reducible refine Fr.drewN ?_ _) | (with_reducible refine Fr.alloc ?_ _) | (with_reducible refine Fr.setL ?_ _ _ _ ?_) | (focus (refine Or.inl ?_; simp; done)) | (focus (refine Or.inr ?_; simp; done)) | (focus (refine Or.inr ?_; simp; omega)) | (focus (refine Or.inr ?_; omega)))); done)
            · simp only [nth]
              first | (unfold Is; rfl) | (unfold Any; exact trivial) | exact IsSl.new _ _ _ _ | assumption
          · intro ac wx hf hbs hs hp K hK
            simp only [waits, holdsA, nth, Is, Any, List.filter_cons, List.filter_nil, List.map_cons, List.map_nil, Region.binds, if_true, true_and, and_true, Nat.reduceAdd, List.getElem?_cons_zero, List.getElem?_cons_succ, Option.bind_some, Array.getD_eq_getD_getElem?] at hp
            have hs18 := hs 18 (by kernel_rfl)
            simp only [Array.getD_eq_getD_getElem?, List.getElem?_toArray, List.getElem?_cons_succ, List.getElem?_cons_zero, Option.getD_some] at hs18
            clear hs
            clear hbs
            have h23 := hp
            clear hp
            have hg23 := (getD_bool _ _).1 h23
            clear hf
            (try simp only [h23, hg23])
            go_simp
            try dsimp only
            refine hK.out _ _ ?_ ?_
            · change Fr [] _ _
              ((repeat (first | (with_reducible exact Fr.refl _ _) | (with_reducible assumption) | (with_reducible refine Fr.drew ?_) | (with_reducible refine Fr.drewN ?_ _) | (with_reducible refine Fr.alloc ?_ _) | (with_reducible refine Fr.setL ?_ _ _ _ ?_) | (focus (refine Or.inl ?_; simp; done)) | (focus (refine Or.inr ?_; simp; done)) | (focus (refine Or.inr ?_; simp; omega)) | (focus (refine Or.inr ?_; omega)))); done)
            · simp only [nth]
              first | (unfold Is; rfl) | (unfold Any; exact trivial) | exact IsSl.new _ _ _ _ | assumption
          · intro ac wx hf hbs hs hp K hK
            simp only [waits, holdsA, nth, Is, Any, List.filter_cons, List.filter_nil, List.map_cons, List.map_nil, Region.binds, if_true, true_and, and_true, Nat.reduceAdd, List.getElem?_cons_zero, List.getElem?_cons_succ, Option.bind_some, Array.getD_eq_getD_getElem?] at hp
            clear hs
            clear hbs
            obtain ⟨h24, h23⟩ := hp
            have hg23 := (getD_bool _ _).1 h23
            clear hf
            (try simp only [h24, h23, hg23])
            go_simp
            try dsimp only
            refine hK.out _ _ ?_ ?_
            · change Fr [] _ _
              ((repeat (first | (with_reducible exact Fr.refl _ _) | (with_reducible assumption) | (with_reducible refine Fr.drew ?_) | (with_reducible refine Fr.drewN ?_ _) | (with_reducible refine Fr.alloc ?_ _) | (with_reducible refine Fr.setL ?_ _ _ _ ?_) | (focus (refine Or.inl ?_; simp; done)) | (focus (refine Or.inr ?_; simp; done)) | (focus (refine Or.inr ?_; simp; omega)) | (focus (refine Or.inr ?_; omega)))); done)
            · simp only [nth]
              first | (unfold Is; rfl) | (unfold Any; exact trivial) | exact IsSl.new _ _ _ _ | assumption
          · intro ac wx hf hbs hs hp K hK
            simp only [waits, holdsA, nth, Is, Any, List.filter_cons, List.filter_nil, List.map_cons, List.map_nil, Region.binds, if_true, true_and, and_true, Nat.reduceAdd, List.getElem?_cons_zero, List.getElem?_cons_succ, Option.bind_some, Array.getD_eq_getD_getElem?] at hp
            clear hs
            clear hbs
            obtain ⟨h25, h23⟩ := hp
            have hg23 := (getD_bool _ _).1 h23
            clear hf
            (try simp only [h25, h23, hg23])
            go_simp
            try dsimp only
            refine hK.out _ _ ?_ ?_
            · change Fr [] _ _
              ((repeat (first | (with_reducible exact Fr.refl _ _) | (with_reducible assumption) | (with_reducible refine Fr.drew ?_) | (with_reducible refine Fr.drewN ?_ _) | (with_reducible refine Fr.alloc ?_ _) | (with_reducible refine Fr.setL ?_ _ _ _ ?_) | (focus (refine Or.inl ?_; simp; done)) | (focus (refine Or.inr ?_; simp; done)) | (focus (refine Or.inr ?_; simp; omega)) | (focus (refine Or.inr ?_; omega)))); done)
            · simp only [nth]
              first | (unfold Is; rfl) | (unfold Any; exact trivial) | exact IsSl.new _ _ _ _ | assumption
          · intro ac wx hf hbs hs hp K hK
            simp only [waits, holdsA, nth, Is, Any, List.filter_cons, List.filter_nil, List.map_cons, List.map_nil, Region.binds, if_true, true_and, and_true, Nat.reduceAdd, List.getElem?_cons_zero, List.getElem?_cons_succ, Option.bind_some, Array.getD_eq_getD_getElem?] at hp
            clear hs
            clear hbs
            obtain ⟨h26, h23⟩ := hp
            have hg23 := (getD_bool _ _).1 h23
            have cx := kx2 wx hf
            clear hf
            (try simp only [h26, h23, hg23])
            go_simp
            try dsimp only
            refine hK.out _ _ ?_ ?_
            · change Fr [] _ _
              ((repeat (first | (with_reducible exact Fr.refl _ _) | (with_reducible assumption) | (with_reducible refine Fr.drew ?_) | (with_reducible refine Fr.drewN ?_ _) | (with_reducible refine Fr.alloc ?_ _) | (with_reducible refine Fr.setL ?_ _ _ _ ?_) | (focus (refine Or.inl ?_; simp; done)) | (focus (refine Or.inr ?_; simp; done)) | (focus (refine Or.inr ?_; simp; omega)) | (focus (refine Or.inr ?_; omega)))); done)
            · simp only [nth]
              first | (unfold Is; rfl) | (unfold Any; exact trivial) | exact IsSl.new _ _ _ _ | assumption
          · intro ac wx hf hbs hs hp K hK
            simp only [waits, holdsA, nth, Is, Any, List.filter_cons, List.filter_nil, List.map_cons, List.map_nil, Region.binds, if_true, true_and, and_true, Nat.reduceAdd, List.getElem?_cons_zero, List.getElem?_cons_succ, Option.bind_some, Array.getD_eq_getD_getElem?] at hp
            have hs15 := hs 15 (by kernel_rfl)
            simp only [Array.getD_eq_getD_getElem?, List.getElem?_toArray, List.getElem?_cons_succ, List.getElem?_cons_zero, Option.getD_some] at hs15
            clear hs
            clear hbs
            have h23 := hp
            clear hp
            have hg23 := (getD_bool _ _).1 h23
            clear hf
            (try simp only [h23, hg23])
            go_simp
            try dsimp only
            refine hK.out _ _ ?_ ?_
            · change Fr [] _ _
              ((repeat (first | (with_reducible exact Fr.refl _ _) | (with_reducible assumption) | (with_reducible refine Fr.drew ?_) | (with_reducible refine Fr.drewN ?_ _) | (with_reducible refine Fr.alloc ?_ _) | (with_reducible refine Fr.setL ?_ _ _ _ ?_) | (focus (refine Or.inl ?_; simp; done)) | (focus (refine Or.inr ?_; simp; done)) | (focus (refine Or.inr ?_; simp; omega)) | (focus (refine Or.inr ?_; omega)))); done)
            · simp only [nth]
              first | (unfold Is; rfl) | (unfold Any; exact trivial) | exact IsSl.new _ _ _ _ | assumption
          · intro ac wx hf hbs hs hp K hK
            simp only [waits, holdsA, nth, Is, Any, List.filter_cons, List.filter_nil, List.map_cons, List.map_nil, Region.binds, if_true, true_and, and_true, Nat.reduceAdd, List.getElem?_cons_zero, List.getElem?_cons_succ, Option.bind_some, Array.getD_eq_getD_getElem?] at hp
            have hs17 := hs 17 (by kernel_rfl)
            simp only [Array.getD_eq_getD_getElem?, List.getElem?_toArray, List.getElem?_cons_succ, List.getElem?_cons_zero, Option.getD_some] at hs17
            clear hs
            clear hbs
            have h23 := hp
            clear hp
            have hg23 := (getD_bool _ _).1 h23
            clear hf
            (try simp only [h23, hg23])
            go_simp
            try dsimp only
            refine hK.out _ _ ?_ ?_
            · change Fr [] _ _
              ((repeat (first | (with_reducible exact Fr.refl _ _) | (with_reducible assumption) | (with_reducible refine Fr.drew ?_) | (with_reducible refine Fr.drewN ?_ _) | (with_reducible refine Fr.alloc ?_ _) | (with_reducible refine Fr.setL ?_ _ _ _ ?_) | (focus (refine Or.inl ?_; simp; done)) | (focus (refine Or.inr ?_; simp; done)) | (focus (refine Or.inr ?_; simp; omega)) | (focus (refine Or.inr ?_; omega)))); done)
            · simp only [nth]
              first | (unfold Is; rfl) | (unfold Any; exact trivial) | exact IsSl.new _ _ _ _ | assumption
          · intro ac wx hf hbs hs hp K hK
            simp only [waits, holdsA, nth, Is, Any, List.filter_cons, List.filter_nil, List.map_cons, List.map_nil, Region.binds, if_true, true_and, and_true, Nat.reduceAdd, List.getElem?_cons_zero, List.getElem?_cons_succ, Option.bind_some, Array.getD_eq_getD_getElem?] at hp
            clear hs
            clear hbs
            obtain ⟨h28, h29, h23⟩ := hp
            have hg23 := (getD_bool _ _).1 h23
            clear hf
            (try simp only [h28, h29, h23, hg23])
            go_simp
            try dsimp only
            refine hK.out _ _ ?_ ?_
            · change Fr [] _ _
              ((repeat (first | (with_reducible exact Fr.refl _ _) | (with_reducible assumption) | (with_reducible refine Fr.drew ?_) | (with_reducible refine Fr.drewN ?_ _) | (with_reducible refine Fr.alloc ?_ _) | (with_reducible refine Fr.setL ?_ _ _ _ ?_) | (focus (refine Or.inl ?_; simp; done)) | (focus (refine Or.inr ?_; simp; done)) | (focus (refine Or.inr ?_; simp; omega)) | (focus (refine Or.inr ?_; omega)))); done)
            · simp only [nth]
              first | (unfold Is; rfl) | (unfold Any; exact trivial) | exact IsSl.new _ _ _ _ | assumption
          · intro ac wx hf hbs hs hp K hK
            simp only [waits, holdsA, nth, Is, Any, List.filter_cons, List.filter_nil, List.map_cons, List.map_nil, Region.binds, if_true, true_and, and_true, Nat.reduceAdd, List.getElem?_cons_zero, List.getElem?_cons_succ, Option.bind_some, Array.getD_eq_getD_getElem?] at hp
            clear hs
            clear hbs
            obtain ⟨h30, h23⟩ := hp
            have hg23 := (getD_bool _ _).1 h23
            clear hf
            (try simp only [h30, h23, hg23])
            go_simp
            try dsimp only
            refine hK.out _ _ ?_ ?_
            · change Fr [] _ _
              ((repeat (first | (with_reducible exact Fr.refl _ _) | (with_reducible assumption) | (with_reducible refine Fr.drew ?_) | (with_reducible refine Fr.drewN ?_ _) | (with_reducible refine Fr.alloc ?_ _) | (with_reducible refine Fr.setL ?_ _ _ _ ?_) | (focus (refine Or.inl ?_; simp; done)) | (focus (refine Or.inr ?_; simp; done)) | (focus (refine Or.inr ?_; simp; omega)) | (focus (refine Or.inr ?_; omega)))); done)
            · simp only [nth]
              first | (unfold Is; rfl) | (unfold Any; exact trivial) | exact IsSl.new _ _ _ _ | assumption
          · intro ac wx hf hbs hs hp K hK
            simp only [waits, holdsA, nth, Is, Any, List.filter_cons, List.filter_nil, List.map_cons, List.map_nil, Region.binds, if_true, true_and, and_true, Nat.reduceAdd, List.getElem?_cons_zero, List.getElem?_cons_succ, Option.bind_some, Array.getD_eq_getD_getElem?] at hp
            clear hs
            clear hbs
            obtain ⟨h31, h23⟩ := hp
            have hg23 := (getD_bool _ _).1 h23
            have cx := ky1 wx hf
            clear hf
            (try simp only [h31, h23, hg23])
            go_simp
            try dsimp only
            refine hK.out _ _ ?_ ?_
            · change Fr [] _ _
              ((repeat (first | (with_reducible exact Fr.refl _ _) | (with_reducible assumption) | (with_reducible refine Fr.drew ?_) | (with_reducible refine Fr.drewN ?_ _) | (with_reducible refine Fr.alloc ?_ _) | (with_reducible refine Fr.setL ?_ _ _ _ ?_) | (focus (refine Or.inl ?_; simp; done)) | (focus (refine Or.inr ?_; simp; done)) | (focus (refine Or.inr ?_; simp; omega)) | (focus (refine Or.inr ?_; omega)))); done)
            · simp only [nth]
              first | (unfold Is; rfl) | (unfold Any; exact trivial) | exact IsSl.new _ _ _ _ | assumption
          · intro ac wx hf hbs hs hp K hK
            simp only [waits, holdsA, nth, Is, Any, List.filter_cons, List.filter_nil, List.map_cons, List.map_nil, Region.binds, if_true, true_and, and_true, Nat.reduceAdd, List.getElem?_cons_zero, List.getElem?_cons_succ, Option.bind_some, Array.getD_eq_getD_getElem?] at hp
            clear hs
            clear hbs
            obtain ⟨h27, h32, h23⟩ := hp
            have hg23 := (getD_bool _ _).1 h23
            clear hf
            (try simp only [h27, h32, h23, hg23])
            go_simp
            try dsimp only
            refine hK.out _ _ ?_ ?_
            · change Fr [] _ _
              ((repeat (first | (with_reducible exact Fr.refl _ _) | (with_reducible assumption) | (with_reducible refine Fr.drew ?_) | (with_reducible refine Fr.drewN ?_ _) | (with_reducible refine Fr.alloc ?_ _) | (with_reducible refine Fr.setL ?_ _ _ _ ?_) | (focus (refine Or.inl ?_; simp; done)) | (focus (refine Or.inr ?_; simp; done)) | (focus (refine Or.inr ?_; simp; omega)) | (focus (refine Or.inr ?_; omega)))); done)
            · simp only [nth]
              first | (unfold Is; rfl) | (unfold Any; exact trivial) | exact IsSl.new _ _ _ _ | assumption
          · intro ac wx hf hbs hs hp K hK
            simp only [waits, holdsA, nth, Is, Any, List.filter_cons, List.filter_nil, List.map_cons, List.map_nil, Region.binds, if_true, true_and, and_true, Nat.reduceAdd, List.getElem?_cons_zero, List.getElem?_cons_succ, Option.bind_some, Array.getD_eq_getD_getElem?] at hp
            clear hs
            clear hbs
            obtain ⟨h23, h33⟩ := hp
            clear hf
            (try simp only [h23, h33])
            go_simp
            try dsimp only
            refine hK.out _ _ ?_ ?_
            · change Fr [] _ _
              ((repeat (first | (with_reducible exact Fr.refl _ _) | (with_reducible assumption) | (with_reducible refine Fr.drew ?_) | (with_reducible refine Fr.drewN ?_ _) | (with_reducible refine Fr.alloc ?_ _) | (with_reducible refine Fr.setL ?_ _ _ _ ?_) | (focus (refine Or.inl ?_; simp; done)) | (focus (refine Or.inr ?_; simp; done)) | (focus (refine Or.inr ?_; simp; omega)) | (focus (refine Or.inr ?_; omega)))); done)
            · simp only [nth]
              first | (unfold Is; rfl) | (unfold Any; exact trivial) | exact IsSl.new _ _ _ _ | assumption
          · intro ac wx hf hbs hs hp K hK
            simp only [waits, holdsA, nth, Is, Any, List.filter_cons, List.filter_nil, List.map_cons, List.map_nil, Region.binds, if_true, true_and, and_true, Nat.reduceAdd, List.getElem?_cons_zero, List.getElem?_cons_succ, Option.bind_some, Array.getD_eq_getD_getElem?] at hp
            clear hs
            clear hbs
            obtain ⟨h34, h23⟩ := hp
            clear hf
            (try simp only [h34, h23])
            go_simp
            try dsimp only
            refine hK.out _ _ ?_ ?_
            · change Fr [] _ _
              ((repeat (first | (with_reducible exact Fr.refl _ _) | (with_reducible assumption) | (with_reducible refine Fr.drew ?_) | (with_reducible refine Fr.drewN ?_ _) | (with_reducible refine Fr.alloc ?_ _) | (with_reducible refine Fr.setL ?_ _ _ _ ?_) | (focus (refine Or.inl ?_; simp; done)) | (focus (refine Or.inr ?_; simp; done)) | (focus (refine Or.inr ?_; simp; omega)) | (focus (refine Or.inr ?_; omega)))); done)
            · simp only [nth]
              first | (unfold Is; rfl) | (unfold Any; exact trivial) | exact IsSl.new _ _ _ _ | assumption
          · intro ac wx hf hbs hs hp K hK
            simp only [waits, holdsA, nth, Is, Any, List.filter_cons, List.filter_nil, List.map_cons, List.map_nil, Region.binds, if_true, true_and, and_true, Nat.reduceAdd, List.getElem?_cons_zero, List.getElem?_cons_succ, Option.bind_some, Array.getD_eq_getD_getElem?] at hp
            have hs18 := hs 18 (by kernel_rfl)
            simp only [Array.getD_eq_getD_getElem?, List.getElem?_toArray, List.getElem?_cons_succ, List.getElem?_cons_zero, Option.getD_some] at hs18
            clear hs
            clear hbs
            have h35 := hp
            clear hp
            have hg35 := (getD_bool _ _).1 h35
            clear hf
            (try simp only [h35, hg35])
            go_simp
            try dsimp only
            refine hK.out _ _ ?_ ?_
            · change Fr [] _ _
              ((repeat (first | (with_reducible exact Fr.refl _ _) | (with_reducible assumption) | (with_reducible refine Fr.drew ?_) | (with_reducible refine Fr.drewN ?_ _) | (with_reducible refine Fr.alloc ?_ _) | (with_reducible refine Fr.setL ?_ _ _ _ ?_) | (focus (refine Or.inl ?_; simp; done)) | (focus (refine Or.inr ?_; simp; done)) | (focus (refine Or.inr ?_; simp; omega)) | (focus (refine Or.inr ?_; omega)))); done)
            · simp only [nth]
              first | (unfold Is; rfl) | (unfold Any; exact trivial) | exact IsSl.new _ _ _ _ | assumption
          · intro ac wx hf hbs hs hp K hK
            simp only [waits, holdsA, nth, Is, Any, List.filter_cons, List.filter_nil, List.map_cons, List.map_nil, Region.binds, if_true, true_and, and_true, Nat.reduceAdd, List.getElem?_cons_zero, List.getElem?_cons_succ, Option.bind_some, Array.getD_eq_getD_getElem?] at hp
            clear hs
            clear hbs
            obtain ⟨h36, h35⟩ := hp
            have hg35 := (getD_bool _ _).1 h35
            clear hf
            (try simp only [h36, h35, hg35])
            go_simp
            try dsimp only
            refine hK.out _ _ ?_ ?_
            · change Fr [] _ _
              ((repeat (first | (with_reducible exact Fr.refl _ _) | (with_reducible assumption) | (with_reducible refine Fr.drew ?_) | (with_reducible refine Fr.drewN ?_ _) | (with_reducible refine Fr.alloc ?_ _) | (with_reducible refine Fr.setL ?_ _ _ _ ?_) | (focus (refine Or.inl ?_; simp; done)) | (focus (refine Or.inr ?_; simp; done)) | (focus (refine Or.inr ?_; simp; omega)) | (focus (refine Or.inr ?_; omega)))); done)
            · simp only [nth]
              first | (unfold Is; rfl) | (unfold Any; exact trivial) | exact IsSl.new _ _ _ _ | assumption
          · intro ac wx hf hbs hs hp K hK
            simp only [waits, holdsA, nth, Is, Any, List.filter_cons, List.filter_nil, List.map_cons, List.map_nil, Region.binds, if_true, true_and, and_true, Nat.reduceAdd, List.getElem?_cons_zero, List.getElem?_cons_succ, Option.bind_some, Array.getD_eq_getD_getElem?] at hp
            clear hs
            clear hbs
            obtain ⟨h37, h35⟩ := hp
            have hg35 := (getD_bool _ _).1 h35
            clear hf
            (try simp only [h37, h35, hg35])
            go_simp
            try dsimp only
            refine hK.out _ _ ?_ ?_
            · change Fr [] _ _
              ((repeat (first | (with_reducible exact Fr.refl _ _) | (with_reducible assumption) | (with_reducible refine Fr.drew ?_) | (with_reducible refine Fr.drewN ?_ _) | (with_reducible refine Fr.alloc ?_ _) | (with_reducible refine Fr.setL ?_ _ _ _ ?_) | (focus (refine Or.inl ?_; simp; done)) | (focus (refine Or.inr ?_; simp; done)) | (focus (refine Or.inr ?_; simp; omega)) | (focus (refine Or.inr ?_; omega)))); done)
            · simp only [nth]
              first | (unfold Is; rfl) | (unfold Any; exact trivial) | exact IsSl.new _ _ _ _ | assumption
          · intro ac wx hf hbs hs hp K hK
            simp only [waits, holdsA, nth, Is, Any, List.filter_cons, List.filter_nil, List.map_cons, List.map_nil, Region.binds, if_true, true_and, and_true, Nat.reduceAdd, List.getElem?_cons_zero, List.getElem?_cons_succ, Option.bind_some, Array.getD_eq_getD_getElem?] at hp
            clear hs
            clear hbs
            obtain ⟨h38, h35⟩ := hp
            have hg35 := (getD_bool _ _).1 h35
            have cx0 := kx3 wx hf
            have cx1 := kx4 wx hf
            have cx2 := kx5 wx hf
            have cx3 := kx6 wx hf
            have cx4 := kx7 wx hf
            have cx5 := kx8 wx hf
            clear hf
            (try simp only [h38, h35, hg35])
            go_simp
            try dsimp only
            refine hK.out _ _ ?_ ?_
            · change Fr [] _ _
              ((repeat (first | (with_reducible exact Fr.refl _ _) | (with_reducible assumption) | (with_reducible refine Fr.drew ?_) | (with_reducible refine Fr.drewN ?_ _) | (with_reducible refine Fr.alloc ?_ _) | (with_reducible refine Fr.setL ?_ _ _ _ ?_) | (focus (refine Or.inl ?_; simp; done)) | (focus (refine Or.inr ?_; simp; done)) | (focus (refine Or.inr ?_; simp; omega)) | (focus (refine Or.inr ?_; omega)))); done)
            · simp only [nth]
              first | (unfold Is; rfl) | (unfold Any; exact trivial) | exact IsSl.new _ _ _ _ | assumption
          · intro ac wx hf hbs hs hp K hK
            simp only [waits, holdsA, nth, Is, Any, List.filter_cons, List.filter_nil, List.map_cons, List.map_nil, Region.binds, if_true, true_and, and_true, Nat.reduceAdd, List.getElem?_cons_zero, List.getElem?_cons_succ, Option.bind_some, Array.getD_eq_getD_getElem?] at hp
            clear hs
            clear hbs
            obtain ⟨h35, h35_2⟩ := hp
            have hg35 := (getD_bool _ _).1 h35
            (try simp only [h35, hg35])
            go_simp
            go_at_call 22
            refine (r_Station 2 (by decide) (by decide) _).mono ?_
            rintro e w' ⟨rfl, fz⟩
            exact hK.out _ _ fz rfl
          · intro ac wx hf hbs hs hp K hK
            simp only [waits, holdsA, nth, Is, Any, List.filter_cons, List.filter_nil, List.map_cons, List.map_nil, Region.binds, if_true, true_and, and_true, Nat.reduceAdd, List.getElem?_cons_zero, List.getElem?_cons_succ, Option.bind_some, Array.getD_eq_getD_getElem?] at hp
            clear hs
            clear hbs
            obtain ⟨h39, h40, h35⟩ := hp
            have hg35 := (getD_bool _ _).1 h35
            clear hf
            (try simp only [h39, h40, h35, hg35])
            go_simp
            try dsimp only
            refine hK.out _ _ ?_ ?_
            · change Fr [] _ _
              ((repeat (first | (with_reducible exact Fr.refl _ _) | (with_reducible assumption) | (with_reducible refine Fr.drew ?_) | (with_reducible refine Fr.drewN ?_ _) | (with_reducible refine Fr.alloc ?_ _) | (with_reducible refine Fr.setL ?_ _ _ _ ?_) | (focus (refine Or.inl ?_; simp; done)) | (focus (refine Or.inr ?_; simp; done)) | (focus (refine Or.inr ?_; simp; omega)) | (focus (refine Or.inr ?_; omega)))); done)
            · simp only [nth]
              first | (unfold Is; rfl) | (unfold Any; exact trivial) | exact IsSl.new _ _ _ _ | assumption
          · intro ac wx hf hbs hs hp K hK
            simp only [waits, holdsA, nth, Is, Any, List.filter_cons, List.filter_nil, List.map_cons, List.map_nil, Region.binds, if_true, true_and, and_true, Nat.reduceAdd, List.getElem?_cons_zero, List.getElem?_cons_succ, Option.bind_some, Array.getD_eq_getD_getElem?] at hp
            clear hs
            clear hbs
            obtain ⟨h35, h41⟩ := hp
            clear hf
            (try simp only [h35, h41])
            go_simp
            try dsimp only
            refine hK.out _ _ ?_ ?_
            · change Fr [] _ _
              ((repeat (first | (with_reducible exact Fr.refl _ _) | (with_reducible assumption) | (with_reducible refine Fr.drew ?_) | (with_reducible refine Fr.drewN ?_ _) | (with_reducible refine Fr.alloc ?_ _) | (with_reducible refine Fr.setL ?_ _ _ _ ?_) | (focus (refine Or.inl ?_; simp; done)) | (focus (refine Or.inr ?_; simp; done)) | (focus (refine Or.inr ?_; simp; omega)) | (focus (refine Or.inr ?_; omega)))); done)
            · simp only [nth]
              first | (unfold Is; rfl) | (unfold Any; exact trivial) | exact IsSl.new _ _ _ _ | assumption
          · intro ac wx hf hbs hs hp K hK
            simp only [waits, holdsA, nth, Is, Any, List.filter_cons, List.filter_nil, List.map_cons, List.map_nil, Region.binds, if_true, true_and, and_true, Nat.reduceAdd, List.getElem?_cons_zero, List.getElem?_cons_succ, Option.bind_some, Array.getD_eq_getD_getElem?] at hp
            clear hs
            clear hbs
            obtain ⟨h42, h40⟩ := hp
            clear hf
            (try simp only [h42, h40])
            go_simp
            try dsimp only
            refine hK.out _ _ ?_ ?_
            · change Fr [] _ _
              ((repeat (first | (with_reducible exact Fr.refl _ _) | (with_reducible assumption) | (with_reducible refine Fr.drew ?_) | (with_reducible refine Fr.drewN ?_ _) | (with_reducible refine Fr.alloc ?_ _) | (with_reducible refine Fr.setL ?_ _ _ _ ?_) | (focus (refine Or.inl ?_; simp; done)) | (focus (refine Or.inr ?_; simp; done)) | (focus (refine Or.inr ?_; simp; omega)) | (focus (refine Or.inr ?_; omega)))); done)
            · simp only [nth]
              first | (unfold Is; rfl) | (unfold Any; exact trivial) | exact IsSl.new _ _ _ _ | assumption
          · intro ac wx hf hbs hs hp K hK
            simp only [waits, holdsA, nth, Is, Any, List.filter_cons, List.filter_nil, List.map_cons, List.map_nil, Region.binds, if_true, true_and, and_true, Nat.reduceAdd, List.getElem?_cons_zero, List.getElem?_cons_succ, Option.bind_some, Array.getD_eq_getD_getElem?] at hp
            have hs18 := hs 18 (by kernel_rfl)
            simp only [Array.getD_eq_getD_getElem?, List.getElem?_toArray, List.getElem?_cons_succ, List.getElem?_cons_zero, Option.getD_some] at hs18
            clear hs
            clear hbs
            have h43 := hp
            clear hp
            have hg43 := (getD_bool _ _).1 h43
            clear hf
            (try simp only [h43, hg43])
            go_simp
            try dsimp only
            refine hK.out _ _ ?_ ?_
            · change Fr [] _ _
              ((repeat (first | (with_reducible exact Fr.refl _ _) | (with_reducible assumption) | (with_reducible refine Fr.drew ?_) | (with_reducible refine Fr.drewN ?_ _) | (with_reducible refine Fr.alloc ?_ _) | (with_reducible refine Fr.setL ?_ _ _ _ ?_) | (focus (refine Or.inl ?_; simp; done)) | (focus (refine Or.inr ?_; simp; done)) | (focus (refine Or.inr ?_; simp; omega)) | (focus (refine Or.inr ?_; omega)))); done)
            · simp only [nth]
              first | (unfold Is; rfl) | (unfold Any; exact trivial) | exact IsSl.new _ _ _ _ | assumption
          · intro ac wx hf hbs hs hp K hK
            simp only [waits, holdsA, nth, Is, Any, List.filter_cons, List.filter_nil, List.map_cons, List.map_nil, Region.binds, if_true, true_and, and_true, Nat.reduceAdd, List.getElem?_cons_zero, List.getElem?_cons_succ, Option.bind_some, Array.getD_eq_getD_getElem?] at hp
            clear hs
            clear hbs
            obtain ⟨h44, h43⟩ := hp
            have hg43 := (getD_bool _ _).1 h43
            clear hf
            (try simp only [h44, h43, hg43])
            go_simp
            try dsimp only
            refine hK.out _ _ ?_ ?_
            · change Fr [] _ _
              ((repeat (first | (with_reducible exact Fr.refl _ _) | (with_reducible assumption) | (with_reducible refine Fr.drew ?_) | (with_reducible refine Fr.drewN ?_ _) | (with_reducible refine Fr.alloc ?_ _) | (with_reducible refine Fr.setL ?_ _ _ _ ?_) | (focus (refine Or.inl ?_; simp; done)) | (focus (refine Or.inr ?_; simp; done)) | (focus (refine Or.inr ?_; simp; omega)) | (focus (refine Or.inr ?_; omega)))); done)
            · simp only [nth]
              first | (unfold Is; rfl) | (unfold Any; exact trivial) | exact IsSl.new _ _ _ _ | assumption
          · intro ac wx hf hbs hs hp K hK
            simp only [waits, holdsA, nth, Is, Any, List.filter_cons, List.filter_nil, List.map_cons, List.map_nil, Region.binds, if_true, true_and, and_true, Nat.reduceAdd, List.getElem?_cons_zero, List.getElem?_cons_succ, Option.bind_some, Array.getD_eq_getD_getElem?] at hp
            clear hs
            clear hbs
            obtain ⟨h45, h43⟩ := hp
            have hg43 := (getD_bool _ _).1 h43
            clear hf
            (try simp only [h45, h43, hg43])
            go_simp
            try dsimp only
            refine hK.out _ _ ?_ ?_
            · change Fr [] _ _
              ((repeat (first | (with_reducible exact Fr.refl _ _) | (with_reducible assumption) | (with_reducible refine Fr.drew ?_) | (with_reducible refine Fr.drewN ?_ _) | (with_reducible refine Fr.alloc ?_ _) | (with_reducible refine Fr.setL ?_ _ _ _ ?_) | (focus (refine Or.inl ?_; simp; done)) | (focus (refine Or.inr ?_; simp; done)) | (focus (refine Or.inr ?_; simp; omega)) | (focus (refine Or.inr ?_; omega)))); done)
            · simp only [nth]
              first | (unfold Is; rfl) | (unfold Any; exact trivial) | exact IsSl.new _ _ _ _ | assumption
          · intro ac wx hf hbs hs hp K hK
            simp only [waits, holdsA, nth, Is, Any, List.filter_cons, List.filter_nil, List.map_cons, List.map_nil, Region.binds, if_true, true_and, and_true, Nat.reduceAdd, List.getElem?_cons_zero, List.getElem?_cons_succ, Option.bind_some, Array.getD_eq_getD_getElem?] at hp
            clear hs
            clear hbs
            obtain ⟨h46, h43⟩ := hp
            have hg43 := (getD_bool _ _).1 h43
            have cx := kx9 wx hf
            clear hf
            (try simp only [h46, h43, hg43])
            go_simp
            try dsimp only
            refine hK.out _ _ ?_ ?_
            · change Fr [] _ _
              ((repeat (first | (with_reducible exact Fr.refl _ _) | (with_reducible assumption) | (with_reducible refine Fr.drew ?_) | (with_reducible refine Fr.drewN ?_ _) | (with_reducible refine Fr.alloc ?_ _) | (with_reducible refine Fr.setL ?_ _ _ _ ?_) | (focus (refine Or.inl ?_; simp; done)) | (focus (refine Or.inr ?_; simp; done)) | (focus (refine Or.inr ?_; simp; omega)) | (focus (refine Or.inr ?_; omega)))); done)
            · simp only [nth]
              first | (unfold Is; rfl) | (unfold Any; exact trivial) | exact IsSl.new _ _ _ _ | assumption
          · intro ac wx hf hbs hs hp K hK
            simp only [waits, holdsA, nth, Is, Any, List.filter_cons, List.filter_nil, List.map_cons, List.map_nil, Region.binds, if_true, true_and, and_true, Nat.reduceAdd, List.getElem?_cons_zero, List.getElem?_cons_succ, Option.bind_some, Array.getD_eq_getD_getElem?] at hp
            have hs5 := hs 5 (by kernel_rfl)
            simp only [Array.getD_eq_getD_getElem?, List.getElem?_toArray, List.getElem?_cons_succ, List.getElem?_cons_zero, Option.getD_some] at hs5
            clear hs
            clear hbs
            have h43 := hp
            clear hp
            have hg43 := (getD_bool _ _).1 h43
            clear hf
            (try simp only [h43, hg43])
            go_simp
            try dsimp only
            refine hK.out _ _ ?_ ?_
            · change Fr [] _ _
              ((repeat (first | (with_reducible exact Fr.refl _ _) | (with_reducible assumption) | (with_reducible refine Fr.drew ?_) | (with_reducible refine Fr.drewN ?_ _) | (with_reducible refine Fr.alloc ?_ _) | (with_reducible refine Fr.setL ?_ _ _ _ ?_) | (focus (refine Or.inl ?_; simp; done)) | (focus (refine Or.inr ?_; simp; done)) | (focus (refine Or.inr ?_; simp; omega)) | (focus (refine Or.inr ?_; omega)))); done)
            · simp only [nth]
              first | (unfold Is; rfl) | (unfold Any; exact trivial) | exact IsSl.new _ _ _ _ | assumption
          · intro ac wx hf hbs hs hp K hK
            simp only [waits, holdsA, nth, Is, Any, List.filter_cons, List.filter_nil, List.map_cons, List.map_nil, Region.binds, if_true, true_and, and_true, Nat.reduceAdd, List.getElem?_cons_zero, List.getElem?_cons_succ, Option.bind_some, Array.getD_eq_getD_getElem?] at hp
            clear hs
            clear hbs
            obtain ⟨h48, h43⟩ := hp
            have hg43 := (getD_bool _ _).1 h43
            have cx := ka2 wx hf
            clear hf
            (try simp only [h48, h43, hg43])
            go_simp
            try dsimp only
            refine hK.out _ _ ?_ ?_
            · change Fr [] _ _
              ((repeat (first | (with_reducible exact Fr.refl _ _) | (with_reducible assumption) | (with_reducible refine Fr.drew ?_) | (with_reducible refine Fr.drewN ?_ _) | (with_reducible refine Fr.alloc ?_ _) | (with_reducible refine Fr.setL ?_ _ _ _ ?_) | (focus (refine Or.inl ?_; simp; done)) | (focus (refine Or.inr ?_; simp; done)) | (focus (refine Or.inr ?_; simp; omega)) | (focus (refine Or.inr ?_; omega)))); done)
            · simp only [nth]
              first | (unfold Is; rfl) | (unfold Any; exact trivial) | exact IsSl.new _ _ _ _ | assumption
          · intro ac wx hf hbs hs hp K hK
            simp only [waits, holdsA, nth, Is, Any, List.filter_cons, List.filter_nil, List.map_cons, List.map_nil, Region.binds, if_true, true_and, and_true, Nat.reduceAdd, List.getElem?_cons_zero, List.getElem?_cons_succ, Option.bind_some, Array.getD_eq_getD_getElem?] at hp
            clear hs
            clear hbs
            obtain ⟨h47, h49, h43, h43_2⟩ := hp
            have hg43 := (getD_bool _ _).1 h43
            have hbx := (HBE.out.fr hf).1
            have hbl := hl0.fr hf
            clear hf
            (try simp only [h47, h49, h43, hg43])
            go_simp
            go_at_call 15
            refine (r_Same _ se ⟨bA, l.length, bc⟩ l l hbx hbl hl5).mono ?_
            rintro e w' ⟨rfl, fz⟩
            rw [show (l == l) = true by simp]
            exact hK.out _ _ fz rfl
          · intro ac wx hf hbs hs hp K hK
            simp only [waits, holdsA, nth, Is, Any, List.filter_cons, List.filter_nil, List.map_cons, List.map_nil, Region.binds, if_true, true_and, and_true, Nat.reduceAdd, List.getElem?_cons_zero, List.getElem?_cons_succ, Option.bind_some, Array.getD_eq_getD_getElem?] at hp
            clear hs
            clear hbs
            obtain ⟨h50, h43⟩ := hp
            have hg43 := (getD_bool _ _).1 h43
            clear hf
            (try simp only [h50, h43, hg43])
            go_simp
            try dsimp only
            refine hK.out _ _ ?_ ?_
            · change Fr [] _ _
              ((repeat (first | (with_reducible exact Fr.refl _ _) | (with_reducible assumption) | (with_reducible refine Fr.drew ?_) | (with_reducible refine Fr.drewN ?_ _) | (with_reducible refine Fr.alloc ?_ _) | (with_reducible refine Fr.setL ?_ _ _ _ ?_) | (focus (refine Or.inl ?_; simp; done)) | (focus (refine Or.inr ?_; simp; done)) | (focus (refine Or.inr ?_; simp; omega)) | (focus (refine Or.inr ?_; omega)))); done)
            · simp only [nth]
              first | (unfold Is; rfl) | (unfold Any; exact trivial) | exact IsSl.new _ _ _ _ | assumption
          · intro ac wx hf hbs hs hp K hK
            simp only [waits, holdsA, nth, Is, Any, List.filter_cons, List.filter_nil, List.map_cons, List.map_nil, Region.binds, if_true, true_and, and_true, Nat.reduceAdd, List.getElem?_cons_zero, List.getElem?_cons_succ, Option.bind_some, Array.getD_eq_getD_getElem?] at hp
            clear hs
            clear hbs
            obtain ⟨h43, h51⟩ := hp
            clear hf
            (try simp only [h43, h51])
            go_simp
            try dsimp only
            refine hK.out _ _ ?_ ?_
            · change Fr [] _ _
              ((repeat (first | (with_reducible exact Fr.refl _ _) | (with_reducible assumption) | (with_reducible refine Fr.drew ?_) | (with_reducible refine Fr.drewN ?_ _) | (with_reducible refine Fr.alloc ?_ _) | (with_reducible refine Fr.setL ?_ _ _ _ ?_) | (focus (refine Or.inl ?_; simp; done)) | (focus (refine Or.inr ?_; simp; done)) | (focus (refine Or.inr ?_; simp; omega)) | (focus (refine Or.inr ?_; omega)))); done)
            · simp only [nth]
              first | (unfold Is; rfl) | (unfold Any; exact trivial) | exact IsSl.new _ _ _ _ | assumption
        case hD =>
          intro xv wx hf hp
          simp only [List.take_succ_cons, List.take_zero, List.drop_succ_cons, List.drop_zero, fill, List.setIfInBounds_toArray, List.set_cons_zero, List.set_cons_succ, Nat.reduceAdd, Act.put]
          rw [show live 53 (deadC [none, none, none, none, none, none, none, none, none, none, none, none, none, none, none, none, none, none, none, none, none, none, none, none, none, none, none, none, none, none, none, none, none, none, none, none, none, none, none, none, none, none, none, none, none, none, none, none, none, none, none, none, none]) = [0, 1, 2, 3, 4, 5, 6, 7, 8, 9, 10, 11, 12, 13, 14, 15, 16, 17, 18, 19, 20, 21, 22, 23, 24, 25, 26, 27, 28, 29, 30, 31, 32, 33, 34, 35, 36, 37, 38, 39, 40, 41, 42, 43, 44, 45, 46, 47, 48, 49, 50, 51, 52] from by decide] at hp
          simp only [holds, nth, Is, Any, true_and, and_true] at hp
          obtain ⟨p0, p1, p2, p3, p4, p5, p6, p7, p8, p9, p10, p11, p12, p13, p14, p15, p16, p17, p18, p19, p20, p21, p22, p23, p24, p25, p26, p27, p28, p29, p30, p31, p32, p33, p34, p35, p36, p37, p38, p39, p40, p41, p42, p43, p44, p45, p46, p47, p48, p49, p50, p51, p52⟩ := hp
          have F13 := F10.out.tr hf
          simp only [p52]
          clear p0 p1 p2 p3 p4 p5 p6 p7 p8 p9 p10 p11 p12 p13 p14 p15 p16 p17 p18 p19 p20 p21 p22 p23 p24 p25 p26 p27 p28 p29 p30 p31 p32 p33 p34 p35 p36 p37 p38 p39 p40 p41 p42 p43 p44 p45 p46 p47 p48 p49 p50 p51 kx0 kx1 kx2 kx3 kx4 kx5 kx6 kx7 kx8 kx9 ky1 ka2 hf hl0
          go_wp2
          go_roundw
          case rel => exact ⟨k + 1, by go_num, by omega, F13⟩
          case measure => simp [intOf]; omega

end Go.Proofs.Ytgmpikaibeenmaa

