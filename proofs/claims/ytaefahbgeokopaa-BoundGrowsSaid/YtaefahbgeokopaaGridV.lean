/- Package grid: laying rows of lists that were just made; the two closures. -/
import Derived.Test.YtaefahbgeokopaaGridU
namespace Go.Proofs.Ytaefahbgeokopaa
open Go.RowKit Go.Shelf
set_option linter.unusedVariables false
set_option linter.unusedSimpArgs false

def okI (l : List Int) : Bool := l.all fun x => (Lit.int .i64 x).wf
theorem okI.of {l : List Int} (h : okI l = true) : ∀ x ∈ l, (Lit.int .i64 x).wf = true := by simpa [okI] using h
abbrev arr (l : List Int) : Array Value := (l.map (Value.int .i64)).toArray

theorem Ints.newAt {w w' : World} {b n : Nat} {l : List Int} {t : TypeId} (hb : Blk w b (arr l) t) (hw : okI l = true) (hn : n = l.length) (f : Fr [] w w') : Ints .i64 w' (.slice (some ⟨b, 0, none⟩) n n) l := by
  subst hn; exact (Ints.blk hb (okI.of hw)).fr f
theorem RowI.newAt {w w' : World} {b : Nat} {l : List Int} {t : TypeId} (hb : Blk w b (arr l) t) (f : Fr [] w w') : RowI w' b l := fun i hi => f.cell (hb.cell i (by simp [hi])) (by simp)

def layI (s e next : Int) (l : List Int) (T : Tb) : Tb := layM s.toNat e.toNat next l T

/-- A table, and what became of the rest. -/
structure Tab (w0 w : World) (g : Nat) (bs : Nat → Nat) (T : Tb) : Prop where
  is : IsT w g bs T
  fr : Fr (tbL bs) w0 w
theorem Tab.step {w0 w w1 w' : World} {g : Nat} {bs : Nat → Nat} {T T' : Tb} (h : Tab w0 w g bs T) (f : Fr [] w w1) (h' : IsT w' g bs T') (f' : Fr (tbL bs) w1 w') : Tab w0 w' g bs T' := ⟨h', (h.fr.tr0 f).tr f'⟩

theorem lay_new {w0 w w1 : World} {g cap b n : Nat} {bs : Nat → Nat} {T : Tb} {s e next : Int} (l : List Int) {t : TypeId} (h : Tab w0 w g bs T) (f : Fr [] w w1) (hs0 : 0 ≤ s) (hs : s < 14) (he0 : 0 ≤ e) (he : e < 34) (hb : Blk w1 b (arr l) t) (hbw : w.heap.size ≤ b) (hw : okI l = true) (hn : n = l.length) :
    Calls Try.prog 44 #[.slice (some ⟨g, 0, none⟩) 14 cap, .int .i64 s, .int .i64 e, .int .i64 next, .slice (some ⟨b, 0, none⟩) n n] w1 fun r w' =>
      r = .returned (.tuple #[]) ∧ Tab w0 w' g bs (layI s e next l T) ∧ Fr (tbL bs) w1 w' := by
  refine (grid_lay w1 g cap bs T s e next l _ _ _ (h.is.fr f) hs0 hs he0 he (Ints.newAt hb hw hn (Fr.refl _ _)) (fun B n' c' e hB => ?_)).mono ?_
  · cases e; have := h.is.lt _ hB; simp at this; omega
  · rintro r w' ⟨rfl, h1, f1⟩
    exact ⟨rfl, h.step f h1 f1, f1⟩

def okS (l : List Int) : Bool := decide (l.length ≤ 100) && l.all fun x => decide (0 ≤ x) && decide (x < 14)
def okE (l : List Int) : Bool := decide (l.length ≤ 100) && l.all fun x => decide (0 ≤ x) && decide (x < 34)
theorem okS.of {l : List Int} (h : okS l = true) : l.length ≤ 100 ∧ ∀ x ∈ l, 0 ≤ x ∧ x < 14 := by simpa [okS] using h
theorem okE.of {l : List Int} (h : okE l = true) : l.length ≤ 100 ∧ ∀ x ∈ l, 0 ≤ x ∧ x < 34 := by simpa [okE] using h

theorem each_new {w0 w w1 : World} {g cap bi ni ci be ne b n : Nat} {bs : Nat → Nat} {T : Tb} {next : Int} (ins evs l : List Int) {t u : TypeId} (h : Tab w0 w g bs T) (f : Fr [] w w1) (hi : RowI w1 bi ins) (hi1 : bi ∉ tbL bs) (hi2 : okS ins = true) (hni : ni = ins.length)
    (he : Blk w1 be (arr evs) u) (he1 : w.heap.size ≤ be) (he2 : okE evs = true) (hne : ne = evs.length) (hb : Blk w1 b (arr l) t) (hbw : w.heap.size ≤ b) (hw : okI l = true) (hn : n = l.length) (hll : l.length ≤ 1000) :
    Calls Try.prog 45 #[.slice (some ⟨g, 0, none⟩) 14 cap, .slice (some ⟨bi, 0, none⟩) ni ci, .slice (some ⟨be, 0, none⟩) ne ne, .int .i64 next, .slice (some ⟨b, 0, none⟩) n n] w1 fun r w' =>
      r = .returned (.tuple #[]) ∧ Tab w0 w' g bs (eachM ins evs next l T) ∧ Fr (tbL bs) w1 w' := by
  subst hni hne
  have young : ∀ {b}, w.heap.size ≤ b → b ∉ tbL bs := fun hb hm => by have := h.is.lt _ hm; omega
  refine (grid_each w1 g cap bs T bi ci be evs.length ins evs next l _ _ _ (h.is.fr f) hi hi1 (okS.of hi2).2 (RowI.newAt he (Fr.refl _ _)) (young he1) (okE.of he2).2 (okS.of hi2).1 (okE.of he2).1 hll (Ints.newAt hb hw hn (Fr.refl _ _)) (fun B n' c' e hB => ?_)).mono ?_
  · cases e; exact young hbw hB
  · rintro r w' ⟨rfl, h1, f1⟩
    exact ⟨rfl, h.step f h1 f1, f1⟩

/-- A slice of these numbers, outside of the blocks X. -/
def IsN (X : List Nat) (l : List Int) : World → Value → Prop := fun w v => ∃ s : Sl, v = .slice s.A s.n s.c ∧ Ints .i64 w s.v l ∧ ∀ A n c, s.v = .slice (some A) n c → A.block ∉ X
theorem IsN.keeps (X : List Nat) (l : List Int) : Keeps [] (IsN X l) := fun _ _ _ hf ⟨s, e, h, y⟩ => ⟨s, e, h.fr hf, y⟩
/-- A slice of such slices. -/
def IsSS (ls : List (List Int)) : World → Value → Prop := fun w v => ∃ b, ∃ ss : List Sl, v = .slice (some ⟨b, 0, none⟩) ss.length ss.length ∧ ∃ hl : ss.length ≤ ls.length, ls.length ≤ ss.length ∧ (∀ i (h : i < ss.length), w.cell? ⟨b, i, none⟩ = some (.slice ss[i].A ss[i].n ss[i].c)) ∧ ∀ i (h : i < ss.length), Ints .i64 w ss[i].v (ls[i]'(by omega))
theorem IsSS.keeps (ls : List (List Int)) : Keeps [] (IsSS ls) := fun _ _ _ hf ⟨b, ss, e, h1, h2, h3, h4⟩ => ⟨b, ss, e, h1, h2, fun i h => hf.cell (h3 i h) (by simp), fun i h => (h4 i h).fr hf⟩
theorem IsSS.two {w : World} {b : Nat} {s1 s2 : Sl} {l1 l2 : List Int} {t : TypeId} (hb : Blk w b #[.slice s1.A s1.n s1.c, .slice s2.A s2.n s2.c] t) (h1 : Ints .i64 w s1.v l1) (h2 : Ints .i64 w s2.v l2) : IsSS [l1, l2] w (.slice (some ⟨b, 0, none⟩) 2 2) := by
  refine ⟨b, [s1, s2], rfl, by simp, by simp, fun i h => ?_, fun i h => ?_⟩
  · match i, h with
    | 0, _ => exact hb.cell 0 rfl
    | 1, _ => exact hb.cell 1 rfl
    | i + 2, h => exact absurd h (by simp)
  · match i, h with
    | 0, _ => exact h1
    | 1, _ => exact h2
    | i + 2, h => exact absurd h (by simp)
theorem IsSS.three {w : World} {b : Nat} {s1 s2 s3 : Sl} {l1 l2 l3 : List Int} {t : TypeId} (hb : Blk w b #[.slice s1.A s1.n s1.c, .slice s2.A s2.n s2.c, .slice s3.A s3.n s3.c] t) (h1 : Ints .i64 w s1.v l1) (h2 : Ints .i64 w s2.v l2) (h3 : Ints .i64 w s3.v l3) : IsSS [l1, l2, l3] w (.slice (some ⟨b, 0, none⟩) 3 3) := by
  refine ⟨b, [s1, s2, s3], rfl, by simp, by simp, fun i h => ?_, fun i h => ?_⟩
  · match i, h with
    | 0, _ => exact hb.cell 0 rfl
    | 1, _ => exact hb.cell 1 rfl
    | 2, _ => exact hb.cell 2 rfl
    | i + 3, h => exact absurd h (by simp)
  · match i, h with
    | 0, _ => exact h1
    | 1, _ => exact h2
    | 2, _ => exact h3
    | i + 3, h => exact absurd h (by simp)
theorem IsSS.concat {w wx : World} {X : List Nat} {v : Value} {ls : List (List Int)} (h : IsSS ls wx v) (hn : ls.length ≤ 8) (hS : ∀ l ∈ ls, l.length ≤ 1000) (hX : ∀ b ∈ X, b < w.heap.size) (f : Fr [] w wx) :
    Calls Try.prog 48 #[v] wx fun e w' => ∃ v', e = .returned v' ∧ IsN X ls.flatten w' v' ∧ Fr [] wx w' := by
  obtain ⟨b, ss, rfl, h1, h2, h3, h4⟩ := h
  refine (slices_Concat wx b ss ls h3 h1 h2 (by omega) h4 hS).mono ?_
  rintro e w' ⟨s, rfl, hI, hy, f1⟩
  exact ⟨_, rfl, ⟨s, rfl, hI, fun A n c e hm => by have := hy A n c e; have := hX _ hm; have := f.size; omega⟩, f1⟩

set_option maxHeartbeats 2000000 in
set_option maxRecDepth 100000 in
theorem grid_answers1 (w0 w : World) (g cap : Nat) (bs : Nat → Nat) (T : Tb) (b2 b3 : Nat) (p0 p1 p2 asked p4 : Int) (s e : Int) (hd tl : Sl) (lh lt : List Int) (h : Tab w0 w g bs T) (h2 : Blk w b2 #[.slice (some ⟨g, 0, none⟩) 14 cap] 91) (h3 : Blk w b3 #[.int .i64 p0, .int .i64 p1, .int .i64 p2, .int .i64 asked, .int .i64 p4] 96)
    (h2n : b2 ∉ tbL bs) (h3n : b3 ∉ tbL bs) (hs0 : 0 ≤ s) (hs : s < 14) (he0 : 0 ≤ e) (he : e < 33) (hh : Ints .i64 w hd.v lh) (ht : Ints .i64 w tl.v lt) (hhn : ∀ A n c, hd.v = .slice (some A) n c → A.block ∉ tbL bs) (htn : ∀ A n c, tl.v = .slice (some A) n c → A.block ∉ tbL bs) (hlh : lh.length ≤ 100) (hlt : lt.length ≤ 100) (hwa : okI [asked] = true) :
    Calls Try.prog 47 #[.int .i64 s, .int .i64 e, .slice hd.A hd.n hd.c, .slice tl.A tl.n tl.c, .pointer (some ⟨b2, 0, none⟩), .pointer (some ⟨b3, 0, none⟩)] w fun r w' =>
      r = .returned (.tuple #[]) ∧ Tab w0 w' g bs (layI s (e + 1) (-1) [lh, [asked], lt].flatten (layI s e (-1) [lh, lt].flatten T)) ∧ Fr (tbL bs) w w' := by
  have c2 := h2.cell 0 rfl
  have hw : IntKind.i64.wrap (e + 1) = e + 1 := IntWalk.i64_in _ (by omega)
  go_enter Try.func47, Try.ntmps47
  go_wp2
  have k2 : ∀ wx, Fr [] w wx → wx.cell? ⟨b2, 0, none⟩ = some (.slice (some ⟨g, 0, none⟩) 14 cap) := fun wx hf => hf.cell (h2.cell 0 rfl) (by simp)
  refine wp_region_keepsL [] [Is (.slice (some ⟨g, 0, none⟩) 14 cap), Is (.int .i64 s), Is (.int .i64 e), Is (.slice hd.A hd.n hd.c), Is (.slice tl.A tl.n tl.c), IsSS [lh, lt], IsN (tbL bs) [lh, lt].flatten] 7 rfl rfl (by kernel_rfl) (by kernel_rfl) (by kernel_rfl) (by kernel_rfl) (by kernel_rfl) ?hV ?hS ?hD
  case hV =>
    repeat (first | exact trivial | exact Is.keeps _ | exact Any.keeps | exact IsSl.keeps _ _ _ | exact IsSS.keeps _ | exact  IsN.keeps _ _ | refine And.intro ?_ ?_)
  case hS =>
    (repeat' (first | exact trivial | refine And.intro ?_ ?_))
    · intro ac wx hf hs hp K hK
      simp only [waits, holdsA, nth, Is, Any, List.filter_cons, List.filter_nil, List.map_cons, List.map_nil, Region.binds, if_true, true_and, and_true, Nat.reduceAdd, List.getElem?_cons_zero, List.getElem?_cons_succ, Option.bind_some, Array.getD_eq_getD_getElem?] at hp
      have hs4 := hs 4 (by kernel_rfl)
      simp only [Array.getD_eq_getD_getElem?, List.getElem?_toArray, List.getElem?_cons_succ, List.getElem?_cons_zero, Option.getD_some] at hs4
      clear hs
      have cx := k2 wx hf
      clear hf
      (try simp only [hp])
      go_simp
      try dsimp only
      refine hK.out _ _ ?_ ?_
      · ((repeat (first | (with_reducible exact Fr.refl _ _) | (with_reducible assumption) | (with_reducible refine Fr.drew ?_) | (with_reducible refine Fr.drewN ?_ _) | (with_reducible refine Fr.alloc ?_ _) | (with_reducible refine Fr.setL ?_ _ _ _ ?_) | (focus (refine Or.inl ?_; simp; done)) | (focus (refine Or.inr ?_; simp; done)) | (focus (refine Or.inr ?_; simp; omega)) | (focus (refine Or.inr ?_; omega)))); done)
      · simp only [nth]
        first | (unfold Is; rfl) | (unfold Any; exact trivial) | exact IsSl.new _ _ _ _ | assumption
    · intro ac wx hf hs hp K hK
      simp only [waits, holdsA, nth, Is, Any, List.filter_cons, List.filter_nil, List.map_cons, List.map_nil, Region.binds, if_true, true_and, and_true, Nat.reduceAdd, List.getElem?_cons_zero, List.getElem?_cons_succ, Option.bind_some, Array.getD_eq_getD_getElem?] at hp
      have hs0 := hs 0 (by kernel_rfl)
      simp only [Array.getD_eq_getD_getElem?, List.getElem?_toArray, List.getElem?_cons_succ, List.getElem?_cons_zero, Option.getD_some] at hs0
      clear hs
      clear hf
      (try simp only [hp])
      go_simp
      try dsimp only
      refine hK.out _ _ ?_ ?_
      · ((repeat (first | (with_reducible exact Fr.refl _ _) | (with_reducible assumption) | (with_reducible refine Fr.drew ?_) | (with_reducible refine Fr.drewN ?_ _) | (with_reducible refine Fr.alloc ?_ _) | (with_reducible refine Fr.setL ?_ _ _ _ ?_) | (focus (refine Or.inl ?_; simp; done)) | (focus (refine Or.inr ?_; simp; done)) | (focus (refine Or.inr ?_; simp; omega)) | (focus (refine Or.inr ?_; omega)))); done)
      · simp only [nth]
        first | (unfold Is; rfl) | (unfold Any; exact trivial) | exact IsSl.new _ _ _ _ | assumption
    · intro ac wx hf hs hp K hK
      simp only [waits, holdsA, nth, Is, Any, List.filter_cons, List.filter_nil, List.map_cons, List.map_nil, Region.binds, if_true, true_and, and_true, Nat.reduceAdd, List.getElem?_cons_zero, List.getElem?_cons_succ, Option.bind_some, Array.getD_eq_getD_getElem?] at hp
      have hs1 := hs 1 (by kernel_rfl)
      simp only [Array.getD_eq_getD_getElem?, List.getElem?_toArray, List.getElem?_cons_succ, List.getElem?_cons_zero, Option.getD_some] at hs1
      clear hs
      clear hf
      (try simp only [hp])
      go_simp
      try dsimp only
      refine hK.out _ _ ?_ ?_
      · ((repeat (first | (with_reducible exact Fr.refl _ _) | (with_reducible assumption) | (with_reducible refine Fr.drew ?_) | (with_reducible refine Fr.drewN ?_ _) | (with_reducible refine Fr.alloc ?_ _) | (with_reducible refine Fr.setL ?_ _ _ _ ?_) | (focus (refine Or.inl ?_; simp; done)) | (focus (refine Or.inr ?_; simp; done)) | (focus (refine Or.inr ?_; simp; omega)) | (focus (refine Or.inr ?_; omega)))); done)
      · simp only [nth]
        first | (unfold Is; rfl) | (unfold Any; exact trivial) | exact IsSl.new _ _ _ _ | assumption
    · intro ac wx hf hs hp K hK
      simp only [waits, holdsA, nth, Is, Any, List.filter_cons, List.filter_nil, List.map_cons, List.map_nil, Region.binds, if_true, true_and, and_true, Nat.reduceAdd, List.getElem?_cons_zero, List.getElem?_cons_succ, Option.bind_some, Array.getD_eq_getD_getElem?] at hp
      have hs2 := hs 2 (by kernel_rfl)
      simp only [Array.getD_eq_getD_getElem?, List.getElem?_toArray, List.getElem?_cons_succ, List.getElem?_cons_zero, Option.getD_some] at hs2
      clear hs
      clear hf
      (try simp only [hp])
      go_simp
      try dsimp only
      refine hK.out _ _ ?_ ?_
      · ((repeat (first | (with_reducible exact Fr.refl _ _) | (with_reducible assumption) | (with_reducible refine Fr.drew ?_) | (with_reducible refine Fr.drewN ?_ _) | (with_reducible refine Fr.alloc ?_ _) | (with_reducible refine Fr.setL ?_ _ _ _ ?_) | (focus (refine Or.inl ?_; simp; done)) | (focus (refine Or.inr ?_; simp; done)) | (focus (refine Or.inr ?_; simp; omega)) | (focus (refine Or.inr ?_; omega)))); done)
      · simp only [nth]
        first | (unfold Is; rfl) | (unfold Any; exact trivial) | exact IsSl.new _ _ _ _ | assumption
    · intro ac wx hf hs hp K hK
      simp only [waits, holdsA, nth, Is, Any, List.filter_cons, List.filter_nil, List.map_cons, List.map_nil, Region.binds, if_true, true_and, and_true, Nat.reduceAdd, List.getElem?_cons_zero, List.getElem?_cons_succ, Option.bind_some, Array.getD_eq_getD_getElem?] at hp
      have hs3 := hs 3 (by kernel_rfl)
      simp only [Array.getD_eq_getD_getElem?, List.getElem?_toArray, List.getElem?_cons_succ, List.getElem?_cons_zero, Option.getD_some] at hs3
      clear hs
      clear hf
      (try simp only [hp])
      go_simp
      try dsimp only
      refine hK.out _ _ ?_ ?_
      · ((repeat (first | (with_reducible exact Fr.refl _ _) | (with_reducible assumption) | (with_reducible refine Fr.drew ?_) | (with_reducible refine Fr.drewN ?_ _) | (with_reducible refine Fr.alloc ?_ _) | (with_reducible refine Fr.setL ?_ _ _ _ ?_) | (focus (refine Or.inl ?_; simp; done)) | (focus (refine Or.inr ?_; simp; done)) | (focus (refine Or.inr ?_; simp; omega)) | (focus (refine Or.inr ?_; omega)))); done)
      · simp only [nth]
        first | (unfold Is; rfl) | (unfold Any; exact trivial) | exact IsSl.new _ _ _ _ | assumption
    · intro ac wx hf hs hp K hK
      simp only [waits, holdsA, nth, Is, Any, List.filter_cons, List.filter_nil, List.map_cons, List.map_nil, Region.binds, if_true, true_and, and_true, Nat.reduceAdd, List.getElem?_cons_zero, List.getElem?_cons_succ, Option.bind_some, Array.getD_eq_getD_getElem?] at hp
      clear hs
      simp only [hp]
      go_simp
      refine hK.out _ _ ((Fr.refl _ _).alloc _) ?_
      exact IsSS.two (Blk.new _ _ _) ((hh.fr hf).fr ((Fr.refl _ _).alloc _)) ((ht.fr hf).fr ((Fr.refl _ _).alloc _))
    · intro ac wx hf hs hp K hK
      simp only [waits, holdsA, nth, Is, Any, List.filter_cons, List.filter_nil, List.map_cons, List.map_nil, Region.binds, if_true, true_and, and_true, Nat.reduceAdd, List.getElem?_cons_zero, List.getElem?_cons_succ, Option.bind_some, Array.getD_eq_getD_getElem?] at hp
      clear hs
      go_simp
      go_at_call 48
      refine (IsSS.concat (X := tbL bs) hp (by simp) (by simp; omega) h.is.lt hf).mono ?_
      rintro e w' ⟨v', rfl, hN, f1⟩
      exact hK.out _ _ f1 hN
  case hD =>
    intro x wx hf hp
    simp only [fill, List.setIfInBounds_toArray, List.set_cons_zero, List.set_cons_succ, Nat.reduceAdd, Act.put]
    simp only [List.length_cons, List.length_nil, Nat.reduceAdd, List.range_eq_range', List.range'_succ, List.range'_zero, Nat.zero_add, Nat.add_zero, holds, nth, Is, Any, true_and, and_true] at hp
    obtain ⟨x0, x1, x2, x3, x4, -, s1, x6, hI, hn⟩ := hp
    simp only [x0, x1, x2, x3, x4, x6]
    clear x0 x1 x2 x3 x4 x6
    go_simp
    go_at_call 44
    refine (grid_lay wx g cap bs T s e (-1) _ s1.A s1.n s1.c (h.is.fr hf) hs0 hs he0 (by omega) hI hn).mono ?_
    rintro r w1 ⟨rfl, hT1, f1⟩
    have hh1 := (hh.fr hf).frL f1 hhn
    have ht1 := (ht.fr hf).frL f1 htn
    have h1 := h.step hf hT1 f1
    have fw : Fr (tbL bs) w w1 := ((Fr.refl _ _).tr0 hf).tr f1
    have h21 := (h2.fr hf (by simp)).fr f1 h2n
    have h31 := (h3.fr hf (by simp)).fr f1 h3n
    clear h h2 h3 hh ht hf k2 c2 hI hn hT1 f1
    go_wp2
    have k2 : ∀ wx, Fr [] w1 wx → wx.cell? ⟨b2, 0, none⟩ = some (.slice (some ⟨g, 0, none⟩) 14 cap) := fun wx hf => hf.cell (h21.cell 0 rfl) (by simp)
    have k3 : ∀ wx, Fr [] w1 wx → wx.cell? ⟨b3, 3, none⟩ = some (.int .i64 asked) := fun wx hf => hf.cell (h31.cell 3 rfl) (by simp)
    refine wp_region_keepsL [] [Is (.slice (some ⟨g, 0, none⟩) 14 cap), Is (.int .i64 s), Is (.int .i64 e), Is (.int .i64 (e + 1)), Is (.slice hd.A hd.n hd.c), Is (.pointer (some ⟨b3, 3, none⟩)), Is (.int .i64 asked), IsN (tbL bs) [asked], IsN (tbL bs) [asked], Is (.slice tl.A tl.n tl.c), IsSS [lh, [asked], lt], IsN (tbL bs) [lh, [asked], lt].flatten] 12 rfl rfl (by kernel_rfl) (by kernel_rfl) (by kernel_rfl) (by kernel_rfl) (by kernel_rfl) ?hV ?hS ?hD
    case hV =>
      repeat (first | exact trivial | exact Is.keeps _ | exact Any.keeps | exact IsSl.keeps _ _ _ | exact IsSS.keeps _ | exact  IsN.keeps _ _ | refine And.intro ?_ ?_)
    case hS =>
      (repeat' (first | exact trivial | refine And.intro ?_ ?_))
      · intro ac wx hf hs hp K hK
        simp only [waits, holdsA, nth, Is, Any, List.filter_cons, List.filter_nil, List.map_cons, List.map_nil, Region.binds, if_true, true_and, and_true, Nat.reduceAdd, List.getElem?_cons_zero, List.getElem?_cons_succ, Option.bind_some, Array.getD_eq_getD_getElem?] at hp
        have hs4 := hs 4 (by kernel_rfl)
        simp only [Array.getD_eq_getD_getElem?, List.getElem?_toArray, List.getElem?_cons_succ, List.getElem?_cons_zero, Option.getD_some] at hs4
        clear hs
        have cx := k2 wx hf
        clear hf
        (try simp only [hp])
        go_simp
        try dsimp only
        refine hK.out _ _ ?_ ?_
        · ((repeat (first | (with_reducible exact Fr.refl _ _) | (with_reducible assumption) | (with_reducible refine Fr.drew ?_) | (with_reducible refine Fr.drewN ?_ _) | (with_reducible refine Fr.alloc ?_ _) | (with_reducible refine Fr.setL ?_ _ _ _ ?_) | (focus (refine Or.inl ?_; simp; done)) | (focus (refine Or.inr ?_; simp; done)) | (focus (refine Or.inr ?_; simp; omega)) | (focus (refine Or.inr ?_; omega)))); done)
        · simp only [nth]
          first | (unfold Is; rfl) | (unfold Any; exact trivial) | exact IsSl.new _ _ _ _ | assumption
      · intro ac wx hf hs hp K hK
        simp only [waits, holdsA, nth, Is, Any, List.filter_cons, List.filter_nil, List.map_cons, List.map_nil, Region.binds, if_true, true_and, and_true, Nat.reduceAdd, List.getElem?_cons_zero, List.getElem?_cons_succ, Option.bind_some, Array.getD_eq_getD_getElem?] at hp
        have hs0 := hs 0 (by kernel_rfl)
        simp only [Array.getD_eq_getD_getElem?, List.getElem?_toArray, List.getElem?_cons_succ, List.getElem?_cons_zero, Option.getD_some] at hs0
        clear hs
        clear hf
        (try simp only [hp])
        go_simp
        try dsimp only
        refine hK.out _ _ ?_ ?_
        · ((repeat (first | (with_reducible exact Fr.refl _ _) | (with_reducible assumption) | (with_reducible refine Fr.drew ?_) | (with_reducible refine Fr.drewN ?_ _) | (with_reducible refine Fr.alloc ?_ _) | (with_reducible refine Fr.setL ?_ _ _ _ ?_) | (focus (refine Or.inl ?_; simp; done)) | (focus (refine Or.inr ?_; simp; done)) | (focus (refine Or.inr ?_; simp; omega)) | (focus (refine Or.inr ?_; omega)))); done)
        · simp only [nth]
          first | (unfold Is; rfl) | (unfold Any; exact trivial) | exact IsSl.new _ _ _ _ | assumption
      · intro ac wx hf hs hp K hK
        simp only [waits, holdsA, nth, Is, Any, List.filter_cons, List.filter_nil, List.map_cons, List.map_nil, Region.binds, if_true, true_and, and_true, Nat.reduceAdd, List.getElem?_cons_zero, List.getElem?_cons_succ, Option.bind_some, Array.getD_eq_getD_getElem?] at hp
        have hs1 := hs 1 (by kernel_rfl)
        simp only [Array.getD_eq_getD_getElem?, List.getElem?_toArray, List.getElem?_cons_succ, List.getElem?_cons_zero, Option.getD_some] at hs1
        clear hs
        clear hf
        (try simp only [hp])
        go_simp
        try dsimp only
        refine hK.out _ _ ?_ ?_
        · ((repeat (first | (with_reducible exact Fr.refl _ _) | (with_reducible assumption) | (with_reducible refine Fr.drew ?_) | (with_reducible refine Fr.drewN ?_ _) | (with_reducible refine Fr.alloc ?_ _) | (with_reducible refine Fr.setL ?_ _ _ _ ?_) | (focus (refine Or.inl ?_; simp; done)) | (focus (refine Or.inr ?_; simp; done)) | (focus (refine Or.inr ?_; simp; omega)) | (focus (refine Or.inr ?_; omega)))); done)
        · simp only [nth]
          first | (unfold Is; rfl) | (unfold Any; exact trivial) | exact IsSl.new _ _ _ _ | assumption
      · intro ac wx hf hs hp K hK
        simp only [waits, holdsA, nth, Is, Any, List.filter_cons, List.filter_nil, List.map_cons, List.map_nil, Region.binds, if_true, true_and, and_true, Nat.reduceAdd, List.getElem?_cons_zero, List.getElem?_cons_succ, Option.bind_some, Array.getD_eq_getD_getElem?] at hp
        clear hs
        clear hf
        (try simp only [hp])
        go_simp
        try dsimp only
        refine hK.out _ _ ?_ ?_
        · ((repeat (first | (with_reducible exact Fr.refl _ _) | (with_reducible assumption) | (with_reducible refine Fr.drew ?_) | (with_reducible refine Fr.drewN ?_ _) | (with_reducible refine Fr.alloc ?_ _) | (with_reducible refine Fr.setL ?_ _ _ _ ?_) | (focus (refine Or.inl ?_; simp; done)) | (focus (refine Or.inr ?_; simp; done)) | (focus (refine Or.inr ?_; simp; omega)) | (focus (refine Or.inr ?_; omega)))); done)
        · simp only [nth]
          first | (unfold Is; rfl) | (unfold Any; exact trivial) | exact IsSl.new _ _ _ _ | assumption
      · intro ac wx hf hs hp K hK
        simp only [waits, holdsA, nth, Is, Any, List.filter_cons, List.filter_nil, List.map_cons, List.map_nil, Region.binds, if_true, true_and, and_true, Nat.reduceAdd, List.getElem?_cons_zero, List.getElem?_cons_succ, Option.bind_some, Array.getD_eq_getD_getElem?] at hp
        have hs2 := hs 2 (by kernel_rfl)
        simp only [Array.getD_eq_getD_getElem?, List.getElem?_toArray, List.getElem?_cons_succ, List.getElem?_cons_zero, Option.getD_some] at hs2
        clear hs
        clear hf
        (try simp only [hp])
        go_simp
        try dsimp only
        refine hK.out _ _ ?_ ?_
        · ((repeat (first | (with_reducible exact Fr.refl _ _) | (with_reducible assumption) | (with_reducible refine Fr.drew ?_) | (with_reducible refine Fr.drewN ?_ _) | (with_reducible refine Fr.alloc ?_ _) | (with_reducible refine Fr.setL ?_ _ _ _ ?_) | (focus (refine Or.inl ?_; simp; done)) | (focus (refine Or.inr ?_; simp; done)) | (focus (refine Or.inr ?_; simp; omega)) | (focus (refine Or.inr ?_; omega)))); done)
        · simp only [nth]
          first | (unfold Is; rfl) | (unfold Any; exact trivial) | exact IsSl.new _ _ _ _ | assumption
      · intro ac wx hf hs hp K hK
        simp only [waits, holdsA, nth, Is, Any, List.filter_cons, List.filter_nil, List.map_cons, List.map_nil, Region.binds, if_true, true_and, and_true, Nat.reduceAdd, List.getElem?_cons_zero, List.getElem?_cons_succ, Option.bind_some, Array.getD_eq_getD_getElem?] at hp
        have hs5 := hs 5 (by kernel_rfl)
        simp only [Array.getD_eq_getD_getElem?, List.getElem?_toArray, List.getElem?_cons_succ, List.getElem?_cons_zero, Option.getD_some] at hs5
        clear hs
        clear hf
        (try simp only [hp])
        go_simp
        try dsimp only
        refine hK.out _ _ ?_ ?_
        · ((repeat (first | (with_reducible exact Fr.refl _ _) | (with_reducible assumption) | (with_reducible refine Fr.drew ?_) | (with_reducible refine Fr.drewN ?_ _) | (with_reducible refine Fr.alloc ?_ _) | (with_reducible refine Fr.setL ?_ _ _ _ ?_) | (focus (refine Or.inl ?_; simp; done)) | (focus (refine Or.inr ?_; simp; done)) | (focus (refine Or.inr ?_; simp; omega)) | (focus (refine Or.inr ?_; omega)))); done)
        · simp only [nth]
          first | (unfold Is; rfl) | (unfold Any; exact trivial) | exact IsSl.new _ _ _ _ | assumption
      · intro ac wx hf hs hp K hK
        simp only [waits, holdsA, nth, Is, Any, List.filter_cons, List.filter_nil, List.map_cons, List.map_nil, Region.binds, if_true, true_and, and_true, Nat.reduceAdd, List.getElem?_cons_zero, List.getElem?_cons_succ, Option.bind_some, Array.getD_eq_getD_getElem?] at hp
        clear hs
        have cx := k3 wx hf
        clear hf
        (try simp only [hp])
        go_simp
        try dsimp only
        refine hK.out _ _ ?_ ?_
        · ((repeat (first | (with_reducible exact Fr.refl _ _) | (with_reducible assumption) | (with_reducible refine Fr.drew ?_) | (with_reducible refine Fr.drewN ?_ _) | (with_reducible refine Fr.alloc ?_ _) | (with_reducible refine Fr.setL ?_ _ _ _ ?_) | (focus (refine Or.inl ?_; simp; done)) | (focus (refine Or.inr ?_; simp; done)) | (focus (refine Or.inr ?_; simp; omega)) | (focus (refine Or.inr ?_; omega)))); done)
        · simp only [nth]
          first | (unfold Is; rfl) | (unfold Any; exact trivial) | exact IsSl.new _ _ _ _ | assumption
      · intro ac wx hf hs hp K hK
        simp only [waits, holdsA, nth, Is, Any, List.filter_cons, List.filter_nil, List.map_cons, List.map_nil, Region.binds, if_true, true_and, and_true, Nat.reduceAdd, List.getElem?_cons_zero, List.getElem?_cons_succ, Option.bind_some, Array.getD_eq_getD_getElem?] at hp
        clear hs
        simp only [hp]
        go_simp
        refine hK.out _ _ ((Fr.refl _ _).alloc _) ?_
        exact ⟨⟨_, 1, 1⟩, rfl, Ints.newAt (l := [asked]) (Blk.new _ _ _) hwa rfl (Fr.refl _ _), fun A n c e hm => by cases e; have h9 : wx.heap.size < _ := h1.is.lt _ hm; have := hf.size; omega⟩
      · intro ac wx hf hs hp K hK
        simp only [waits, holdsA, nth, Is, Any, List.filter_cons, List.filter_nil, List.map_cons, List.map_nil, Region.binds, if_true, true_and, and_true, Nat.reduceAdd, List.getElem?_cons_zero, List.getElem?_cons_succ, Option.bind_some, Array.getD_eq_getD_getElem?] at hp
        clear hs
        obtain ⟨s2, e2, h2, h2'⟩ := hp
        go_simp
        go_at_call 46
        refine (grid_some _ _).mono ?_
        rintro e w' ⟨rfl, rfl⟩
        exact hK.out _ _ (Fr.refl _ _) ⟨s2, rfl, h2, h2'⟩
      · intro ac wx hf hs hp K hK
        simp only [waits, holdsA, nth, Is, Any, List.filter_cons, List.filter_nil, List.map_cons, List.map_nil, Region.binds, if_true, true_and, and_true, Nat.reduceAdd, List.getElem?_cons_zero, List.getElem?_cons_succ, Option.bind_some, Array.getD_eq_getD_getElem?] at hp
        have hs3 := hs 3 (by kernel_rfl)
        simp only [Array.getD_eq_getD_getElem?, List.getElem?_toArray, List.getElem?_cons_succ, List.getElem?_cons_zero, Option.getD_some] at hs3
        clear hs
        clear hf
        (try simp only [hp])
        go_simp
        try dsimp only
        refine hK.out _ _ ?_ ?_
        · ((repeat (first | (with_reducible exact Fr.refl _ _) | (with_reducible assumption) | (with_reducible refine Fr.drew ?_) | (with_reducible refine Fr.drewN ?_ _) | (with_reducible refine Fr.alloc ?_ _) | (with_reducible refine Fr.setL ?_ _ _ _ ?_) | (focus (refine Or.inl ?_; simp; done)) | (focus (refine Or.inr ?_; simp; done)) | (focus (refine Or.inr ?_; simp; omega)) | (focus (refine Or.inr ?_; omega)))); done)
        · simp only [nth]
          first | (unfold Is; rfl) | (unfold Any; exact trivial) | exact IsSl.new _ _ _ _ | assumption
      · intro ac wx hf hs hp K hK
        simp only [waits, holdsA, nth, Is, Any, List.filter_cons, List.filter_nil, List.map_cons, List.map_nil, Region.binds, if_true, true_and, and_true, Nat.reduceAdd, List.getElem?_cons_zero, List.getElem?_cons_succ, Option.bind_some, Array.getD_eq_getD_getElem?] at hp
        clear hs
        obtain ⟨h22, ⟨s2, h26, hI2, -⟩, h27⟩ := hp
        go_simp
        refine hK.out _ _ ((Fr.refl _ _).alloc _) ?_
        exact IsSS.three (Blk.new _ _ _) ((hh1.fr hf).fr ((Fr.refl _ _).alloc _)) (hI2.fr ((Fr.refl _ _).alloc _)) ((ht1.fr hf).fr ((Fr.refl _ _).alloc _))
      · intro ac wx hf hs hp K hK
        simp only [waits, holdsA, nth, Is, Any, List.filter_cons, List.filter_nil, List.map_cons, List.map_nil, Region.binds, if_true, true_and, and_true, Nat.reduceAdd, List.getElem?_cons_zero, List.getElem?_cons_succ, Option.bind_some, Array.getD_eq_getD_getElem?] at hp
        clear hs
        go_simp
        go_at_call 48
        refine (IsSS.concat (X := tbL bs) hp.1 (by simp) (by simp; omega) h1.is.lt hf).mono ?_
        rintro e w' ⟨v', rfl, hN, f1⟩
        exact hK.out _ _ f1 hN
    case hD =>
      intro x wx hf hp
      simp only [fill, List.setIfInBounds_toArray, List.set_cons_zero, List.set_cons_succ, Nat.reduceAdd, Act.put]
      simp only [List.length_cons, List.length_nil, Nat.reduceAdd, List.range_eq_range', List.range'_succ, List.range'_zero, Nat.zero_add, Nat.add_zero, holds, nth, Is, Any, true_and, and_true] at hp
      obtain ⟨x0, x1, x2, x3, x4, x5, x6, -, -, x9, -, s2, x11, hI, hn⟩ := hp
      simp only [x0, x1, x2, x3, x4, x5, x6, x9, x11]
      clear x0 x1 x2 x3 x4 x5 x6 x9 x11
      go_simp
      go_at_call 44
      refine (grid_lay wx g cap bs _ s (e + 1) (-1) _ s2.A s2.n s2.c (h1.is.fr hf) hs0 hs (by omega) (by omega) hI hn).mono ?_
      rintro r w2 ⟨rfl, hT2, f2⟩
      go_wp2
      go_end0
      exact ⟨rfl, h1.step hf hT2 f2, (fw.tr0 hf).tr f2⟩

set_option maxHeartbeats 2000000 in
set_option maxRecDepth 100000 in
theorem grid_infos1 (w0 w : World) (g cap : Nat) (bs : Nat → Nat) (T : Tb) (b2 : Nat) (said asked s e next : Int) (hd tl : Sl) (lh lt : List Int) (h : Tab w0 w g bs T) (h2 : Blk w b2 #[.slice (some ⟨g, 0, none⟩) 14 cap] 91)
    (h2n : b2 ∉ tbL bs) (hs0 : 0 ≤ s) (hs : s < 14) (he0 : 0 ≤ e) (he : e < 33) (hh : Ints .i64 w hd.v lh) (ht : Ints .i64 w tl.v lt) (hhn : ∀ A n c, hd.v = .slice (some A) n c → A.block ∉ tbL bs) (htn : ∀ A n c, tl.v = .slice (some A) n c → A.block ∉ tbL bs) (hlh : lh.length ≤ 100) (hlt : lt.length ≤ 100) (hws : okI [said] = true) (hwa : okI [asked] = true) :
    Calls Try.prog 49 #[.int .i64 s, .int .i64 e, .int .i64 next, .int .i64 said, .int .i64 asked, .slice hd.A hd.n hd.c, .slice tl.A tl.n tl.c, .pointer (some ⟨b2, 0, none⟩)] w fun r w' =>
      r = .returned (.tuple #[]) ∧ Tab w0 w' g bs (layI s (e + 1) next [lh, [asked], lt].flatten (layI s e next [lh, [said], lt].flatten T)) ∧ Fr (tbL bs) w w' := by
  have hw : IntKind.i64.wrap (e + 1) = e + 1 := IntWalk.i64_in _ (by omega)
  go_enter Try.func49, Try.ntmps49
  go_wp2
  have k2 : ∀ wx, Fr [] w wx → wx.cell? ⟨b2, 0, none⟩ = some (.slice (some ⟨g, 0, none⟩) 14 cap) := fun wx hf => hf.cell (h2.cell 0 rfl) (by simp)
  refine wp_region_keepsL [] [Is (.slice (some ⟨g, 0, none⟩) 14 cap), Is (.int .i64 s), Is (.int .i64 e), Is (.int .i64 next), Is (.slice hd.A hd.n hd.c), Is (.int .i64 said), IsN (tbL bs) [said], IsN (tbL bs) [said], Is (.slice tl.A tl.n tl.c), IsSS [lh, [said], lt], IsN (tbL bs) [lh, [said], lt].flatten] 11 rfl rfl (by kernel_rfl) (by kernel_rfl) (by kernel_rfl) (by kernel_rfl) (by kernel_rfl) ?hV ?hS ?hD
  case hV =>
    repeat (first | exact trivial | exact Is.keeps _ | exact Any.keeps | exact IsSl.keeps _ _ _ | exact IsSS.keeps _ | exact  IsN.keeps _ _ | refine And.intro ?_ ?_)
  case hS =>
    (repeat' (first | exact trivial | refine And.intro ?_ ?_))
    · intro ac wx hf hs hp K hK
      simp only [waits, holdsA, nth, Is, Any, List.filter_cons, List.filter_nil, List.map_cons, List.map_nil, Region.binds, if_true, true_and, and_true, Nat.reduceAdd, List.getElem?_cons_zero, List.getElem?_cons_succ, Option.bind_some, Array.getD_eq_getD_getElem?] at hp
      have hs7 := hs 7 (by kernel_rfl)
      simp only [Array.getD_eq_getD_getElem?, List.getElem?_toArray, List.getElem?_cons_succ, List.getElem?_cons_zero, Option.getD_some] at hs7
      clear hs
      have cx := k2 wx hf
      clear hf
      (try simp only [hp])
      go_simp
      try dsimp only
      refine hK.out _ _ ?_ ?_
      · ((repeat (first | (with_reducible exact Fr.refl _ _) | (with_reducible assumption) | (with_reducible refine Fr.drew ?_) | (with_reducible refine Fr.drewN ?_ _) | (with_reducible refine Fr.alloc ?_ _) | (with_reducible refine Fr.setL ?_ _ _ _ ?_) | (focus (refine Or.inl ?_; simp; done)) | (focus (refine Or.inr ?_; simp; done)) | (focus (refine Or.inr ?_; simp; omega)) | (focus (refine Or.inr ?_; omega)))); done)
      · simp only [nth]
        first | (unfold Is; rfl) | (unfold Any; exact trivial) | exact IsSl.new _ _ _ _ | assumption
    · intro ac wx hf hs hp K hK
      simp only [waits, holdsA, nth, Is, Any, List.filter_cons, List.filter_nil, List.map_cons, List.map_nil, Region.binds, if_true, true_and, and_true, Nat.reduceAdd, List.getElem?_cons_zero, List.getElem?_cons_succ, Option.bind_some, Array.getD_eq_getD_getElem?] at hp
      have hs0 := hs 0 (by kernel_rfl)
      simp only [Array.getD_eq_getD_getElem?, List.getElem?_toArray, List.getElem?_cons_succ, List.getElem?_cons_zero, Option.getD_some] at hs0
      clear hs
      clear hf
      (try simp only [hp])
      go_simp
      try dsimp only
      refine hK.out _ _ ?_ ?_
      · ((repeat (first | (with_reducible exact Fr.refl _ _) | (with_reducible assumption) | (with_reducible refine Fr.drew ?_) | (with_reducible refine Fr.drewN ?_ _) | (with_reducible refine Fr.alloc ?_ _) | (with_reducible refine Fr.setL ?_ _ _ _ ?_) | (focus (refine Or.inl ?_; simp; done)) | (focus (refine Or.inr ?_; simp; done)) | (focus (refine Or.inr ?_; simp; omega)) | (focus (refine Or.inr ?_; omega)))); done)
      · simp only [nth]
        first | (unfold Is; rfl) | (unfold Any; exact trivial) | exact IsSl.new _ _ _ _ | assumption
    · intro ac wx hf hs hp K hK
      simp only [waits, holdsA, nth, Is, Any, List.filter_cons, List.filter_nil, List.map_cons, List.map_nil, Region.binds, if_true, true_and, and_true, Nat.reduceAdd, List.getElem?_cons_zero, List.getElem?_cons_succ, Option.bind_some, Array.getD_eq_getD_getElem?] at hp
      have hs1 := hs 1 (by kernel_rfl)
      simp only [Array.getD_eq_getD_getElem?, List.getElem?_toArray, List.getElem?_cons_succ, List.getElem?_cons_zero, Option.getD_some] at hs1
      clear hs
      clear hf
      (try simp only [hp])
      go_simp
      try dsimp only
      refine hK.out _ _ ?_ ?_
      · ((repeat (first | (with_reducible exact Fr.refl _ _) | (with_reducible assumption) | (with_reducible refine Fr.drew ?_) | (with_reducible refine Fr.drewN ?_ _) | (with_reducible refine Fr.alloc ?_ _) | (with_reducible refine Fr.setL ?_ _ _ _ ?_) | (focus (refine Or.inl ?_; simp; done)) | (focus (refine Or.inr ?_; simp; done)) | (focus (refine Or.inr ?_; simp; omega)) | (focus (refine Or.inr ?_; omega)))); done)
      · simp only [nth]
        first | (unfold Is; rfl) | (unfold Any; exact trivial) | exact IsSl.new _ _ _ _ | assumption
    · intro ac wx hf hs hp K hK
      simp only [waits, holdsA, nth, Is, Any, List.filter_cons, List.filter_nil, List.map_cons, List.map_nil, Region.binds, if_true, true_and, and_true, Nat.reduceAdd, List.getElem?_cons_zero, List.getElem?_cons_succ, Option.bind_some, Array.getD_eq_getD_getElem?] at hp
      have hs2 := hs 2 (by kernel_rfl)
      simp only [Array.getD_eq_getD_getElem?, List.getElem?_toArray, List.getElem?_cons_succ, List.getElem?_cons_zero, Option.getD_some] at hs2
      clear hs
      clear hf
      (try simp only [hp])
      go_simp
      try dsimp only
      refine hK.out _ _ ?_ ?_
      · ((repeat (first | (with_reducible exact Fr.refl _ _) | (with_reducible assumption) | (with_reducible refine Fr.drew ?_) | (with_reducible refine Fr.drewN ?_ _) | (with_reducible refine Fr.alloc ?_ _) | (with_reducible refine Fr.setL ?_ _ _ _ ?_) | (focus (refine Or.inl ?_; simp; done)) | (focus (refine Or.inr ?_; simp; done)) | (focus (refine Or.inr ?_; simp; omega)) | (focus (refine Or.inr ?_; omega)))); done)
      · simp only [nth]
        first | (unfold Is; rfl) | (unfold Any; exact trivial) | exact IsSl.new _ _ _ _ | assumption
    · intro ac wx hf hs hp K hK
      simp only [waits, holdsA, nth, Is, Any, List.filter_cons, List.filter_nil, List.map_cons, List.map_nil, Region.binds, if_true, true_and, and_true, Nat.reduceAdd, List.getElem?_cons_zero, List.getElem?_cons_succ, Option.bind_some, Array.getD_eq_getD_getElem?] at hp
      have hs5 := hs 5 (by kernel_rfl)
      simp only [Array.getD_eq_getD_getElem?, List.getElem?_toArray, List.getElem?_cons_succ, List.getElem?_cons_zero, Option.getD_some] at hs5
      clear hs
      clear hf
      (try simp only [hp])
      go_simp
      try dsimp only
      refine hK.out _ _ ?_ ?_
      · ((repeat (first | (with_reducible exact Fr.refl _ _) | (with_reducible assumption) | (with_reducible refine Fr.drew ?_) | (with_reducible refine Fr.drewN ?_ _) | (with_reducible refine Fr.alloc ?_ _) | (with_reducible refine Fr.setL ?_ _ _ _ ?_) | (focus (refine Or.inl ?_; simp; done)) | (focus (refine Or.inr ?_; simp; done)) | (focus (refine Or.inr ?_; simp; omega)) | (focus (refine Or.inr ?_; omega)))); done)
      · simp only [nth]
        first | (unfold Is; rfl) | (unfold Any; exact trivial) | exact IsSl.new _ _ _ _ | assumption
    · intro ac wx hf hs hp K hK
      simp only [waits, holdsA, nth, Is, Any, List.filter_cons, List.filter_nil, List.map_cons, List.map_nil, Region.binds, if_true, true_and, and_true, Nat.reduceAdd, List.getElem?_cons_zero, List.getElem?_cons_succ, Option.bind_some, Array.getD_eq_getD_getElem?] at hp
      have hs3 := hs 3 (by kernel_rfl)
      simp only [Array.getD_eq_getD_getElem?, List.getElem?_toArray, List.getElem?_cons_succ, List.getElem?_cons_zero, Option.getD_some] at hs3
      clear hs
      clear hf
      (try simp only [hp])
      go_simp
      try dsimp only
      refine hK.out _ _ ?_ ?_
      · ((repeat (first | (with_reducible exact Fr.refl _ _) | (with_reducible assumption) | (with_reducible refine Fr.drew ?_) | (with_reducible refine Fr.drewN ?_ _) | (with_reducible refine Fr.alloc ?_ _) | (with_reducible refine Fr.setL ?_ _ _ _ ?_) | (focus (refine Or.inl ?_; simp; done)) | (focus (refine Or.inr ?_; simp; done)) | (focus (refine Or.inr ?_; simp; omega)) | (focus (refine Or.inr ?_; omega)))); done)
      · simp only [nth]
        first | (unfold Is; rfl) | (unfold Any; exact trivial) | exact IsSl.new _ _ _ _ | assumption
    · intro ac wx hf hs hp K hK
      simp only [waits, holdsA, nth, Is, Any, List.filter_cons, List.filter_nil, List.map_cons, List.map_nil, Region.binds, if_true, true_and, and_true, Nat.reduceAdd, List.getElem?_cons_zero, List.getElem?_cons_succ, Option.bind_some, Array.getD_eq_getD_getElem?] at hp
      clear hs
      simp only [hp]
      go_simp
      refine hK.out _ _ ((Fr.refl _ _).alloc _) ?_
      exact ⟨⟨_, 1, 1⟩, rfl, Ints.newAt (l := [said]) (Blk.new _ _ _) hws rfl (Fr.refl _ _), fun A n c e hm => by cases e; have h9 : wx.heap.size < _ := h.is.lt _ hm; have := hf.size; omega⟩
    · intro ac wx hf hs hp K hK
      simp only [waits, holdsA, nth, Is, Any, List.filter_cons, List.filter_nil, List.map_cons, List.map_nil, Region.binds, if_true, true_and, and_true, Nat.reduceAdd, List.getElem?_cons_zero, List.getElem?_cons_succ, Option.bind_some, Array.getD_eq_getD_getElem?] at hp
      clear hs
      obtain ⟨s2, e2, h2, h2'⟩ := hp
      go_simp
      go_at_call 46
      refine (grid_some _ _).mono ?_
      rintro e w' ⟨rfl, rfl⟩
      exact hK.out _ _ (Fr.refl _ _) ⟨s2, rfl, h2, h2'⟩
    · intro ac wx hf hs hp K hK
      simp only [waits, holdsA, nth, Is, Any, List.filter_cons, List.filter_nil, List.map_cons, List.map_nil, Region.binds, if_true, true_and, and_true, Nat.reduceAdd, List.getElem?_cons_zero, List.getElem?_cons_succ, Option.bind_some, Array.getD_eq_getD_getElem?] at hp
      have hs6 := hs 6 (by kernel_rfl)
      simp only [Array.getD_eq_getD_getElem?, List.getElem?_toArray, List.getElem?_cons_succ, List.getElem?_cons_zero, Option.getD_some] at hs6
      clear hs
      clear hf
      (try simp only [hp])
      go_simp
      try dsimp only
      refine hK.out _ _ ?_ ?_
      · ((repeat (first | (with_reducible exact Fr.refl _ _) | (with_reducible assumption) | (with_reducible refine Fr.drew ?_) | (with_reducible refine Fr.drewN ?_ _) | (with_reducible refine Fr.alloc ?_ _) | (with_reducible refine Fr.setL ?_ _ _ _ ?_) | (focus (refine Or.inl ?_; simp; done)) | (focus (refine Or.inr ?_; simp; done)) | (focus (refine Or.inr ?_; simp; omega)) | (focus (refine Or.inr ?_; omega)))); done)
      · simp only [nth]
        first | (unfold Is; rfl) | (unfold Any; exact trivial) | exact IsSl.new _ _ _ _ | assumption
    · intro ac wx hf hs hp K hK
      simp only [waits, holdsA, nth, Is, Any, List.filter_cons, List.filter_nil, List.map_cons, List.map_nil, Region.binds, if_true, true_and, and_true, Nat.reduceAdd, List.getElem?_cons_zero, List.getElem?_cons_succ, Option.bind_some, Array.getD_eq_getD_getElem?] at hp
      clear hs
      obtain ⟨h22, ⟨s2, h26, hI2, -⟩, h27⟩ := hp
      go_simp
      refine hK.out _ _ ((Fr.refl _ _).alloc _) ?_
      exact IsSS.three (Blk.new _ _ _) ((hh.fr hf).fr ((Fr.refl _ _).alloc _)) (hI2.fr ((Fr.refl _ _).alloc _)) ((ht.fr hf).fr ((Fr.refl _ _).alloc _))
    · intro ac wx hf hs hp K hK
      simp only [waits, holdsA, nth, Is, Any, List.filter_cons, List.filter_nil, List.map_cons, List.map_nil, Region.binds, if_true, true_and, and_true, Nat.reduceAdd, List.getElem?_cons_zero, List.getElem?_cons_succ, Option.bind_some, Array.getD_eq_getD_getElem?] at hp
      clear hs
      go_simp
      go_at_call 48
      refine (IsSS.concat (X := tbL bs) hp.1 (by simp) (by simp; omega) h.is.lt hf).mono ?_
      rintro e w' ⟨v', rfl, hN, f1⟩
      exact hK.out _ _ f1 hN
  case hD =>
    intro x wx hf hp
    simp only [fill, List.setIfInBounds_toArray, List.set_cons_zero, List.set_cons_succ, Nat.reduceAdd, Act.put]
    simp only [List.length_cons, List.length_nil, Nat.reduceAdd, List.range_eq_range', List.range'_succ, List.range'_zero, Nat.zero_add, Nat.add_zero, holds, nth, Is, Any, true_and, and_true] at hp
    obtain ⟨x0, x1, x2, x3, x4, x5, -, -, x8, -, s1, x10, hI, hn⟩ := hp
    simp only [x0, x1, x2, x3, x4, x5, x8, x10]
    clear x0 x1 x2 x3 x4 x5 x8 x10
    go_simp
    go_at_call 44
    refine (grid_lay wx g cap bs T s e next _ s1.A s1.n s1.c (h.is.fr hf) hs0 hs he0 (by omega) hI hn).mono ?_
    rintro r w1 ⟨rfl, hT1, f1⟩
    have hh1 := (hh.fr hf).frL f1 hhn
    have ht1 := (ht.fr hf).frL f1 htn
    have h1 := h.step hf hT1 f1
    have fw : Fr (tbL bs) w w1 := ((Fr.refl _ _).tr0 hf).tr f1
    have h21 := (h2.fr hf (by simp)).fr f1 h2n
    clear h h2 hh ht hf k2 hI hn hT1 f1
    go_wp2
    have k2 : ∀ wx, Fr [] w1 wx → wx.cell? ⟨b2, 0, none⟩ = some (.slice (some ⟨g, 0, none⟩) 14 cap) := fun wx hf => hf.cell (h21.cell 0 rfl) (by simp)
    refine wp_region_keepsL [] [Is (.slice (some ⟨g, 0, none⟩) 14 cap), Is (.int .i64 s), Is (.int .i64 e), Is (.int .i64 (e + 1)), Is (.int .i64 next), Is (.slice hd.A hd.n hd.c), Is (.int .i64 asked), IsN (tbL bs) [asked], IsN (tbL bs) [asked], Is (.slice tl.A tl.n tl.c), IsSS [lh, [asked], lt], IsN (tbL bs) [lh, [asked], lt].flatten] 12 rfl rfl (by kernel_rfl) (by kernel_rfl) (by kernel_rfl) (by kernel_rfl) (by kernel_rfl) ?hV ?hS ?hD
    case hV =>
      repeat (first | exact trivial | exact Is.keeps _ | exact Any.keeps | exact IsSl.keeps _ _ _ | exact IsSS.keeps _ | exact  IsN.keeps _ _ | refine And.intro ?_ ?_)
    case hS =>
      (repeat' (first | exact trivial | refine And.intro ?_ ?_))
      · intro ac wx hf hs hp K hK
        simp only [waits, holdsA, nth, Is, Any, List.filter_cons, List.filter_nil, List.map_cons, List.map_nil, Region.binds, if_true, true_and, and_true, Nat.reduceAdd, List.getElem?_cons_zero, List.getElem?_cons_succ, Option.bind_some, Array.getD_eq_getD_getElem?] at hp
        have hs7 := hs 7 (by kernel_rfl)
        simp only [Array.getD_eq_getD_getElem?, List.getElem?_toArray, List.getElem?_cons_succ, List.getElem?_cons_zero, Option.getD_some] at hs7
        clear hs
        have cx := k2 wx hf
        clear hf
        (try simp only [hp])
        go_simp
        try dsimp only
        refine hK.out _ _ ?_ ?_
        · ((repeat (first | (with_reducible exact Fr.refl _ _) | (with_reducible assumption) | (with_reducible refine Fr.drew ?_) | (with_reducible refine Fr.drewN ?_ _) | (with_reducible refine Fr.alloc ?_ _) | (with_reducible refine Fr.setL ?_ _ _ _ ?_) | (focus (refine Or.inl ?_; simp; done)) | (focus (refine Or.inr ?_; simp; done)) | (focus (refine Or.inr ?_; simp; omega)) | (focus (refine Or.inr ?_; omega)))); done)
        · simp only [nth]
          first | (unfold Is; rfl) | (unfold Any; exact trivial) | exact IsSl.new _ _ _ _ | assumption
      · intro ac wx hf hs hp K hK
        simp only [waits, holdsA, nth, Is, Any, List.filter_cons, List.filter_nil, List.map_cons, List.map_nil, Region.binds, if_true, true_and, and_true, Nat.reduceAdd, List.getElem?_cons_zero, List.getElem?_cons_succ, Option.bind_some, Array.getD_eq_getD_getElem?] at hp
        have hs0 := hs 0 (by kernel_rfl)
        simp only [Array.getD_eq_getD_getElem?, List.getElem?_toArray, List.getElem?_cons_succ, List.getElem?_cons_zero, Option.getD_some] at hs0
        clear hs
        clear hf
        (try simp only [hp])
        go_simp
        try dsimp only
        refine hK.out _ _ ?_ ?_
        · ((repeat (first | (with_reducible exact Fr.refl _ _) | (with_reducible assumption) | (with_reducible refine Fr.drew ?_) | (with_reducible refine Fr.drewN ?_ _) | (with_reducible refine Fr.alloc ?_ _) | (with_reducible refine Fr.setL ?_ _ _ _ ?_) | (focus (refine Or.inl ?_; simp; done)) | (focus (refine Or.inr ?_; simp; done)) | (focus (refine Or.inr ?_; simp; omega)) | (focus (refine Or.inr ?_; omega)))); done)
        · simp only [nth]
          first | (unfold Is; rfl) | (unfold Any; exact trivial) | exact IsSl.new _ _ _ _ | assumption
      · intro ac wx hf hs hp K hK
        simp only [waits, holdsA, nth, Is, Any, List.filter_cons, List.filter_nil, List.map_cons, List.map_nil, Region.binds, if_true, true_and, and_true, Nat.reduceAdd, List.getElem?_cons_zero, List.getElem?_cons_succ, Option.bind_some, Array.getD_eq_getD_getElem?] at hp
        have hs1 := hs 1 (by kernel_rfl)
        simp only [Array.getD_eq_getD_getElem?, List.getElem?_toArray, List.getElem?_cons_succ, List.getElem?_cons_zero, Option.getD_some] at hs1
        clear hs
        clear hf
        (try simp only [hp])
        go_simp
        try dsimp only
        refine hK.out _ _ ?_ ?_
        · ((repeat (first | (with_reducible exact Fr.refl _ _) | (with_reducible assumption) | (with_reducible refine Fr.drew ?_) | (with_reducible refine Fr.drewN ?_ _) | (with_reducible refine Fr.alloc ?_ _) | (with_reducible refine Fr.setL ?_ _ _ _ ?_) | (focus (refine Or.inl ?_; simp; done)) | (focus (refine Or.inr ?_; simp; done)) | (focus (refine Or.inr ?_; simp; omega)) | (focus (refine Or.inr ?_; omega)))); done)
        · simp only [nth]
          first | (unfold Is; rfl) | (unfold Any; exact trivial) | exact IsSl.new _ _ _ _ | assumption
      · intro ac wx hf hs hp K hK
        simp only [waits, holdsA, nth, Is, Any, List.filter_cons, List.filter_nil, List.map_cons, List.map_nil, Region.binds, if_true, true_and, and_true, Nat.reduceAdd, List.getElem?_cons_zero, List.getElem?_cons_succ, Option.bind_some, Array.getD_eq_getD_getElem?] at hp
        clear hs
        clear hf
        (try simp only [hp])
        go_simp
        try dsimp only
        refine hK.out _ _ ?_ ?_
        · ((repeat (first | (with_reducible exact Fr.refl _ _) | (with_reducible assumption) | (with_reducible refine Fr.drew ?_) | (with_reducible refine Fr.drewN ?_ _) | (with_reducible refine Fr.alloc ?_ _) | (with_reducible refine Fr.setL ?_ _ _ _ ?_) | (focus (refine Or.inl ?_; simp; done)) | (focus (refine Or.inr ?_; simp; done)) | (focus (refine Or.inr ?_; simp; omega)) | (focus (refine Or.inr ?_; omega)))); done)
        · simp only [nth]
          first | (unfold Is; rfl) | (unfold Any; exact trivial) | exact IsSl.new _ _ _ _ | assumption
      · intro ac wx hf hs hp K hK
        simp only [waits, holdsA, nth, Is, Any, List.filter_cons, List.filter_nil, List.map_cons, List.map_nil, Region.binds, if_true, true_and, and_true, Nat.reduceAdd, List.getElem?_cons_zero, List.getElem?_cons_succ, Option.bind_some, Array.getD_eq_getD_getElem?] at hp
        have hs2 := hs 2 (by kernel_rfl)
        simp only [Array.getD_eq_getD_getElem?, List.getElem?_toArray, List.getElem?_cons_succ, List.getElem?_cons_zero, Option.getD_some] at hs2
        clear hs
        clear hf
        (try simp only [hp])
        go_simp
        try dsimp only
        refine hK.out _ _ ?_ ?_
        · ((repeat (first | (with_reducible exact Fr.refl _ _) | (with_reducible assumption) | (with_reducible refine Fr.drew ?_) | (with_reducible refine Fr.drewN ?_ _) | (with_reducible refine Fr.alloc ?_ _) | (with_reducible refine Fr.setL ?_ _ _ _ ?_) | (focus (refine Or.inl ?_; simp; done)) | (focus (refine Or.inr ?_; simp; done)) | (focus (refine Or.inr ?_; simp; omega)) | (focus (refine Or.inr ?_; omega)))); done)
        · simp only [nth]
          first | (unfold Is; rfl) | (unfold Any; exact trivial) | exact IsSl.new _ _ _ _ | assumption
      · intro ac wx hf hs hp K hK
        simp only [waits, holdsA, nth, Is, Any, List.filter_cons, List.filter_nil, List.map_cons, List.map_nil, Region.binds, if_true, true_and, and_true, Nat.reduceAdd, List.getElem?_cons_zero, List.getElem?_cons_succ, Option.bind_some, Array.getD_eq_getD_getElem?] at hp
        have hs5 := hs 5 (by kernel_rfl)
        simp only [Array.getD_eq_getD_getElem?, List.getElem?_toArray, List.getElem?_cons_succ, List.getElem?_cons_zero, Option.getD_some] at hs5
        clear hs
        clear hf
        (try simp only [hp])
        go_simp
        try dsimp only
        refine hK.out _ _ ?_ ?_
        · ((repeat (first | (with_reducible exact Fr.refl _ _) | (with_reducible assumption) | (with_reducible refine Fr.drew ?_) | (with_reducible refine Fr.drewN ?_ _) | (with_reducible refine Fr.alloc ?_ _) | (with_reducible refine Fr.setL ?_ _ _ _ ?_) | (focus (refine Or.inl ?_; simp; done)) | (focus (refine Or.inr ?_; simp; done)) | (focus (refine Or.inr ?_; simp; omega)) | (focus (refine Or.inr ?_; omega)))); done)
        · simp only [nth]
          first | (unfold Is; rfl) | (unfold Any; exact trivial) | exact IsSl.new _ _ _ _ | assumption
      · intro ac wx hf hs hp K hK
        simp only [waits, holdsA, nth, Is, Any, List.filter_cons, List.filter_nil, List.map_cons, List.map_nil, Region.binds, if_true, true_and, and_true, Nat.reduceAdd, List.getElem?_cons_zero, List.getElem?_cons_succ, Option.bind_some, Array.getD_eq_getD_getElem?] at hp
        have hs4 := hs 4 (by kernel_rfl)
        simp only [Array.getD_eq_getD_getElem?, List.getElem?_toArray, List.getElem?_cons_succ, List.getElem?_cons_zero, Option.getD_some] at hs4
        clear hs
        clear hf
        (try simp only [hp])
        go_simp
        try dsimp only
        refine hK.out _ _ ?_ ?_
        · ((repeat (first | (with_reducible exact Fr.refl _ _) | (with_reducible assumption) | (with_reducible refine Fr.drew ?_) | (with_reducible refine Fr.drewN ?_ _) | (with_reducible refine Fr.alloc ?_ _) | (with_reducible refine Fr.setL ?_ _ _ _ ?_) | (focus (refine Or.inl ?_; simp; done)) | (focus (refine Or.inr ?_; simp; done)) | (focus (refine Or.inr ?_; simp; omega)) | (focus (refine Or.inr ?_; omega)))); done)
        · simp only [nth]
          first | (unfold Is; rfl) | (unfold Any; exact trivial) | exact IsSl.new _ _ _ _ | assumption
      · intro ac wx hf hs hp K hK
        simp only [waits, holdsA, nth, Is, Any, List.filter_cons, List.filter_nil, List.map_cons, List.map_nil, Region.binds, if_true, true_and, and_true, Nat.reduceAdd, List.getElem?_cons_zero, List.getElem?_cons_succ, Option.bind_some, Array.getD_eq_getD_getElem?] at hp
        clear hs
        simp only [hp]
        go_simp
        refine hK.out _ _ ((Fr.refl _ _).alloc _) ?_
        exact ⟨⟨_, 1, 1⟩, rfl, Ints.newAt (l := [asked]) (Blk.new _ _ _) hwa rfl (Fr.refl _ _), fun A n c e hm => by cases e; have h9 : wx.heap.size < _ := h1.is.lt _ hm; have := hf.size; omega⟩
      · intro ac wx hf hs hp K hK
        simp only [waits, holdsA, nth, Is, Any, List.filter_cons, List.filter_nil, List.map_cons, List.map_nil, Region.binds, if_true, true_and, and_true, Nat.reduceAdd, List.getElem?_cons_zero, List.getElem?_cons_succ, Option.bind_some, Array.getD_eq_getD_getElem?] at hp
        clear hs
        obtain ⟨s2, e2, h2, h2'⟩ := hp
        go_simp
        go_at_call 46
        refine (grid_some _ _).mono ?_
        rintro e w' ⟨rfl, rfl⟩
        exact hK.out _ _ (Fr.refl _ _) ⟨s2, rfl, h2, h2'⟩
      · intro ac wx hf hs hp K hK
        simp only [waits, holdsA, nth, Is, Any, List.filter_cons, List.filter_nil, List.map_cons, List.map_nil, Region.binds, if_true, true_and, and_true, Nat.reduceAdd, List.getElem?_cons_zero, List.getElem?_cons_succ, Option.bind_some, Array.getD_eq_getD_getElem?] at hp
        have hs6 := hs 6 (by kernel_rfl)
        simp only [Array.getD_eq_getD_getElem?, List.getElem?_toArray, List.getElem?_cons_succ, List.getElem?_cons_zero, Option.getD_some] at hs6
        clear hs
        clear hf
        (try simp only [hp])
        go_simp
        try dsimp only
        refine hK.out _ _ ?_ ?_
        · ((repeat (first | (with_reducible exact Fr.refl _ _) | (with_reducible assumption) | (with_reducible refine Fr.drew ?_) | (with_reducible refine Fr.drewN ?_ _) | (with_reducible refine Fr.alloc ?_ _) | (with_reducible refine Fr.setL ?_ _ _ _ ?_) | (focus (refine Or.inl ?_; simp; done)) | (focus (refine Or.inr ?_; simp; done)) | (focus (refine Or.inr ?_; simp; omega)) | (focus (refine Or.inr ?_; omega)))); done)
        · simp only [nth]
          first | (unfold Is; rfl) | (unfold Any; exact trivial) | exact IsSl.new _ _ _ _ | assumption
      · intro ac wx hf hs hp K hK
        simp only [waits, holdsA, nth, Is, Any, List.filter_cons, List.filter_nil, List.map_cons, List.map_nil, Region.binds, if_true, true_and, and_true, Nat.reduceAdd, List.getElem?_cons_zero, List.getElem?_cons_succ, Option.bind_some, Array.getD_eq_getD_getElem?] at hp
        clear hs
        obtain ⟨h22, ⟨s2, h26, hI2, -⟩, h27⟩ := hp
        go_simp
        refine hK.out _ _ ((Fr.refl _ _).alloc _) ?_
        exact IsSS.three (Blk.new _ _ _) ((hh1.fr hf).fr ((Fr.refl _ _).alloc _)) (hI2.fr ((Fr.refl _ _).alloc _)) ((ht1.fr hf).fr ((Fr.refl _ _).alloc _))
      · intro ac wx hf hs hp K hK
        simp only [waits, holdsA, nth, Is, Any, List.filter_cons, List.filter_nil, List.map_cons, List.map_nil, Region.binds, if_true, true_and, and_true, Nat.reduceAdd, List.getElem?_cons_zero, List.getElem?_cons_succ, Option.bind_some, Array.getD_eq_getD_getElem?] at hp
        clear hs
        go_simp
        go_at_call 48
        refine (IsSS.concat (X := tbL bs) hp.1 (by simp) (by simp; omega) h1.is.lt hf).mono ?_
        rintro e w' ⟨v', rfl, hN, f1⟩
        exact hK.out _ _ f1 hN
    case hD =>
      intro x wx hf hp
      simp only [fill, List.setIfInBounds_toArray, List.set_cons_zero, List.set_cons_succ, Nat.reduceAdd, Act.put]
      simp only [List.length_cons, List.length_nil, Nat.reduceAdd, List.range_eq_range', List.range'_succ, List.range'_zero, Nat.zero_add, Nat.add_zero, holds, nth, Is, Any, true_and, and_true] at hp
      obtain ⟨x0, x1, x2, x3, x4, x5, x6, -, -, x9, -, s2, x11, hI, hn⟩ := hp
      simp only [x0, x1, x2, x3, x4, x5, x6, x9, x11]
      clear x0 x1 x2 x3 x4 x5 x6 x9 x11
      go_simp
      go_at_call 44
      refine (grid_lay wx g cap bs _ s (e + 1) next _ s2.A s2.n s2.c (h1.is.fr hf) hs0 hs (by omega) (by omega) hI hn).mono ?_
      rintro r w2 ⟨rfl, hT2, f2⟩
      go_wp2
      go_end0
      exact ⟨rfl, h1.step hf hT2 f2, (fw.tr0 hf).tr f2⟩
end Go.Proofs.Ytaefahbgeokopaa
