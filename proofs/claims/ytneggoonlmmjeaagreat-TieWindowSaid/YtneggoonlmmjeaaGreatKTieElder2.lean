/- Lemmas: TieF, TieG, TieQ, GridS, GridT, GridU, GridV, GridG, GridI, GridR. No condition. -/
import Derived.Test.YtneggoonlmmjeaaGreatKTieElder1
import Derived.Test.YtneggoonlmmjeaaGreatProg
import Derived.WalkLawsBesides
import Derived.WalkSpells
import Derived.OwnWalk
import Derived.Outline
import Derived.Lib.Hide
import Derived.Lib.AppendZeros
import Derived.Laws.AppendOwnNone
namespace Go.Proofs.YtneggoonlmmjeaaGreat
open Go.RowKit Go.Shelf
set_option linter.unusedVariables false
set_option linter.unusedSimpArgs false
set_option maxRecDepth 100000

theorem ClkTo.lenle {l : TL} {k : Int} : (tstop l k).length ≤ l.length := by
  unfold tstop
  split
  · rw [List.length_eraseIdx]; split <;> omega
  · exact Nat.le_refl _
/-- Another row is a clock's. -/
theorem IsClk.reset {w w' : World} {b : Nat} {s s' : Sl} {most now : Int} {l l' : TL} {v : Value} (h : IsClk w b s most now l) (hp : Pushed w w' 158 2 s s' l'.length (tflat l')) : IsClk (w'.setCell ⟨b, 2, none⟩ (.slice s'.A s'.n s'.c)) b s' most now l' ∧ Fr (b :: s.blk) w (w'.setCell ⟨b, 2, none⟩ (.slice s'.A s'.n s'.c)) := by
  obtain ⟨h1, h2, h3⟩ := hp
  have hh := h.head.fr h2 h.off
  have hoff : b ∉ s'.blk := fun hm => by
    rcases h3 b hm with h4 | h4
    · exact h.off h4
    · have := h.head.lt; omega
  refine ⟨⟨Blk.set hh 2 _ rfl, ⟨h1.1, h1.2.imp id ?_⟩, hoff⟩, (h2.mono (M := b :: s.blk) (fun x hx => .inl (List.mem_cons_of_mem _ hx))).setCell _ (.inl (by simp))⟩
  rintro ⟨g', cap', cur', e', hg', hb', r'⟩
  have hne : g' ≠ b := fun e => hoff (e ▸ blk_mem e')
  exact ⟨g', cap', cur', e', hg', (Blk.far (t := 158) hb' (p := ⟨b, 2, none⟩) hne _ : Blk _ _ _ _), r'⟩

set_option maxHeartbeats 2000000 in
theorem clk_Start (w : World) (b : Nat) (s : Sl) (most now : Int) (l : TL) (k ticks : Int) (h : IsClk w b s most now l) (hl : l.length ≤ 1000) (ht1 : 1 ≤ ticks) (ht2 : ticks ≤ 10000) (hroom : tidx l k < 0 → (l.length : Int) < most) :
    Calls Tryz.prog 200 #[.pointer (some ⟨b, 0, none⟩), .int .i64 k, .int .i64 ticks] w fun e w' => e = .returned (.bool true) ∧ ClkTo w w' b s most now (tstop l k ++ [(k, ticks)]) := by
  obtain ⟨i0, hi0, hz0, hz1, hz2⟩ := tim_info
  have hun : Tryz.prog.underlying 151 = some (.slice 158) := Tryz.underlying151
  have d1 : decide (ticks < 1) = false := by simp; omega
  have d2 : decide (10000 < ticks) = false := by simp; omega
  have hpl := fun w1 h1 => clk_place w1 b s most now l k h1 hl
  have hst := fun w1 h1 => clk_Stop w1 b s most now l k h1 hl
  have hn := h.n_
  obtain ⟨j, hj⟩ : ∃ j, tidx l k = j := ⟨_, rfl⟩
  rw [hj] at hroom
  have hpl0 : ∀ w1, IsClk w1 b s most now l → Calls Tryz.prog 231 #[.pointer (some ⟨b, 0, none⟩), .int .i64 k] w1 fun e w' => e = .returned (.int .i64 j) ∧ Fr [] w1 w' := fun w1 h1 => by rw [← hj]; exact hpl w1 h1
  have c0 := h.head.cell 0 rfl
  have c2 := h.head.cell 2 rfl
  simp only [List.getElem_toArray, List.getElem_cons_zero, List.getElem_cons_succ] at c0 c2
  rw [hn] at c2
  have H := Lib.hid h
  have HST := Lib.hid hst
  have HPL := Lib.hid hpl0
  have HL : Hid ((tstop l k).length ≤ 1000) := Lib.hid (Nat.le_trans ClkTo.lenle hl)
  have hcs : ((j < 0 ∧ (l.length : Int) < most) ∨ ¬ j < 0) := by by_cases h0 : j < 0; exact .inl ⟨h0, hroom h0⟩; exact .inr h0
  clear hroom hj h hst hn hpl hpl0
  rcases hcs with ⟨h0, h1⟩ | h0
  · have e1 : decide (j < 0) = true := by simpa using h0
    have e2 : decide (most ≤ (l.length : Int)) = false := by simp; omega
    clear h0 h1
    go_enter Tryz.func200, Tryz.ntmps200
    go_wp2
    have k0 : ∀ wx, Fr [] w wx → wx.cell? ⟨b, 0, none⟩ = some (.int .i64 most) := fun wx hf => hf.cell c0 (by simp)
    have k2 : ∀ wx, Fr [] w wx → wx.cell? ⟨b, 2, none⟩ = some (.slice s.A l.length s.c) := fun wx hf => hf.cell c2 (by simp)
    refine wp_region_keepsC [] [false, false, false, false, false, false, false, false, false, false, false, false, false, false, false, false, false, false, false, false, false, false, false, false, false, false, false, false] [none, none, none, none, none, none, none, none, none, none, none, none, none, none, none, none, none, none, none, none, none, none, none, none, none, none, none, none] (fun _ => True) [Is (.pointer (some ⟨b, 0, none⟩)), Is (.bool false), Is (.bool false), Is (.int .i64 ticks), Is (.bool false), Is (.bool false), Is (.bool false), Is (.int .i64 ticks), Is (.bool false), Is (.bool false), Is (.bool false), Is (.pointer (some ⟨b, 0, none⟩)), Is (.int .i64 k), Is (.int .i64 j), Is (.bool true), Is (.bool true), Is (.pointer (some ⟨b, 0, none⟩)), Is (.pointer (some ⟨b, 0, none⟩)), Is (.pointer (some ⟨b, 2, none⟩)), Is (.slice s.A l.length s.c), Is (.int .i64 l.length), Is (.pointer (some ⟨b, 0, none⟩)), Is (.pointer (some ⟨b, 0, none⟩)), Is (.pointer (some ⟨b, 0, none⟩)), Is (.int .i64 most), Is (.bool false), Is (.bool false), Is (.bool false)] 28 (by kernel_rfl) (by kernel_rfl) (by kernel_rfl) (by kernel_rfl) (by kernel_rfl) (by kernel_rfl) (by kernel_rfl) (by kernel_rfl) ?hV (fun _ _ _ h => h) trivial ?hS ?hD
    case hV =>
      repeat (first | exact trivial | exact Is.keepsN _ | exact Any.keepsN | refine And.intro ?_ ?_)
    case hS =>
      (repeat' (first | exact trivial | refine And.intro ?_ ?_))
      · intro ac wx hf hbs hs hp K hK
        simp only [zA, Region.binds, Nat.reduceAdd] at hp
        have hs0 := hs 0 (by kernel_rfl)
        simp only [Array.getD_eq_getD_getElem?, List.getElem?_toArray, List.getElem?_cons_succ, List.getElem?_cons_zero, Option.getD_some] at hs0
        clear hs
        clear hbs
        clear hp
        clear hf
        go_simp
        try dsimp only
        refine hK.out _ _ ?_ ?_
        · change Fr [] _ _
          (repeat (first | with_reducible (first | exact Fr.refl _ _ | assumption | refine Fr.drew ?_ | refine Fr.drewN ?_ _ | refine Fr.alloc ?_ _ | refine Fr.setL ?_ _ _ _ ?_) | (left; simp; done) | (right; first | (simp; done) | (simp; omega) | omega)); done)
        · simp only [nth]
          first | (unfold Is; rfl) | (unfold Any; exact trivial) | exact IsSl.new _ _ _ _ | assumption
      · intro ac wx hf hbs hs hp K hK
        simp only [zA, Region.binds, Nat.reduceAdd] at hp
        clear hs
        clear hbs
        have h0 := hp
        clear hp
        clear hf
        (try simp only [h0])
        go_simp
        try dsimp only
        refine hK.out _ _ ?_ ?_
        · change Fr [] _ _
          (repeat (first | with_reducible (first | exact Fr.refl _ _ | assumption | refine Fr.drew ?_ | refine Fr.drewN ?_ _ | refine Fr.alloc ?_ _ | refine Fr.setL ?_ _ _ _ ?_) | (left; simp; done) | (right; first | (simp; done) | (simp; omega) | omega)); done)
        · simp only [nth]
          first | (unfold Is; rfl) | (unfold Any; exact trivial) | exact IsSl.new _ _ _ _ | assumption
      · intro ac wx hf hbs hs hp K hK
        simp only [zA, Region.binds, Nat.reduceAdd] at hp
        clear hs
        clear hbs
        have h1 := hp
        clear hp
        clear hf
        (try simp only [h1])
        go_simp
        try dsimp only
        refine hK.out _ _ ?_ ?_
        · change Fr [] _ _
          (repeat (first | with_reducible (first | exact Fr.refl _ _ | assumption | refine Fr.drew ?_ | refine Fr.drewN ?_ _ | refine Fr.alloc ?_ _ | refine Fr.setL ?_ _ _ _ ?_) | (left; simp; done) | (right; first | (simp; done) | (simp; omega) | omega)); done)
        · simp only [nth]
          first | (unfold Is; rfl) | (unfold Any; exact trivial) | exact IsSl.new _ _ _ _ | assumption
      · intro ac wx hf hbs hs hp K hK
        simp only [zA, Region.binds, Nat.reduceAdd] at hp
        have hs2 := hs 2 (by kernel_rfl)
        simp only [Array.getD_eq_getD_getElem?, List.getElem?_toArray, List.getElem?_cons_succ, List.getElem?_cons_zero, Option.getD_some] at hs2
        clear hs
        clear hbs
        have h2 := hp
        clear hp
        have hg2 := (getD_bool _ _).1 h2
        clear hf
        (try simp only [h2, hg2])
        go_simp
        try dsimp only
        refine hK.out _ _ ?_ ?_
        · change Fr [] _ _
          (repeat (first | with_reducible (first | exact Fr.refl _ _ | assumption | refine Fr.drew ?_ | refine Fr.drewN ?_ _ | refine Fr.alloc ?_ _ | refine Fr.setL ?_ _ _ _ ?_) | (left; simp; done) | (right; first | (simp; done) | (simp; omega) | omega)); done)
        · simp only [nth]
          first | (unfold Is; rfl) | (unfold Any; exact trivial) | exact IsSl.new _ _ _ _ | assumption
      · intro ac wx hf hbs hs hp K hK
        simp only [zA, Region.binds, Nat.reduceAdd] at hp
        clear hs
        clear hbs
        obtain ⟨h3, h2⟩ := hp
        have hg2 := (getD_bool _ _).1 h2
        clear hf
        (try simp only [h3, h2, hg2])
        go_simp
        try dsimp only
        refine hK.out _ _ ?_ ?_
        · change Fr [] _ _
          (repeat (first | with_reducible (first | exact Fr.refl _ _ | assumption | refine Fr.drew ?_ | refine Fr.drewN ?_ _ | refine Fr.alloc ?_ _ | refine Fr.setL ?_ _ _ _ ?_) | (left; simp; done) | (right; first | (simp; done) | (simp; omega) | omega)); done)
        · simp only [nth]
          first | (unfold Is; rfl) | (unfold Any; exact trivial) | exact IsSl.new _ _ _ _ | assumption
      · intro ac wx hf hbs hs hp K hK
        simp only [zA, Region.binds, Nat.reduceAdd] at hp
        clear hs
        clear hbs
        obtain ⟨h2, h4⟩ := hp
        clear hf
        (try simp only [h2, h4])
        go_simp
        try dsimp only
        refine hK.out _ _ ?_ ?_
        · change Fr [] _ _
          (repeat (first | with_reducible (first | exact Fr.refl _ _ | assumption | refine Fr.drew ?_ | refine Fr.drewN ?_ _ | refine Fr.alloc ?_ _ | refine Fr.setL ?_ _ _ _ ?_) | (left; simp; done) | (right; first | (simp; done) | (simp; omega) | omega)); done)
        · simp only [nth]
          first | (unfold Is; rfl) | (unfold Any; exact trivial) | exact IsSl.new _ _ _ _ | assumption
      · intro ac wx hf hbs hs hp K hK
        simp only [zA, Region.binds, Nat.reduceAdd] at hp
        clear hs
        clear hbs
        obtain ⟨h5, h2⟩ := hp
        clear hf
        (try simp only [h5, h2])
        go_simp
        try dsimp only
        refine hK.out _ _ ?_ ?_
        · change Fr [] _ _
          (repeat (first | with_reducible (first | exact Fr.refl _ _ | assumption | refine Fr.drew ?_ | refine Fr.drewN ?_ _ | refine Fr.alloc ?_ _ | refine Fr.setL ?_ _ _ _ ?_) | (left; simp; done) | (right; first | (simp; done) | (simp; omega) | omega)); done)
        · simp only [nth]
          first | (unfold Is; rfl) | (unfold Any; exact trivial) | exact IsSl.new _ _ _ _ | assumption
      · intro ac wx hf hbs hs hp K hK
        simp only [zA, Region.binds, Nat.reduceAdd] at hp
        have hs2 := hs 2 (by kernel_rfl)
        simp only [Array.getD_eq_getD_getElem?, List.getElem?_toArray, List.getElem?_cons_succ, List.getElem?_cons_zero, Option.getD_some] at hs2
        clear hs
        clear hbs
        have h6 := hp
        clear hp
        have hg6 := (getD_bool _ _).1 h6
        clear hf
        (try simp only [h6, hg6])
        go_simp
        try dsimp only
        refine hK.out _ _ ?_ ?_
        · change Fr [] _ _
          (repeat (first | with_reducible (first | exact Fr.refl _ _ | assumption | refine Fr.drew ?_ | refine Fr.drewN ?_ _ | refine Fr.alloc ?_ _ | refine Fr.setL ?_ _ _ _ ?_) | (left; simp; done) | (right; first | (simp; done) | (simp; omega) | omega)); done)
        · simp only [nth]
          first | (unfold Is; rfl) | (unfold Any; exact trivial) | exact IsSl.new _ _ _ _ | assumption
      · intro ac wx hf hbs hs hp K hK
        simp only [zA, Region.binds, Nat.reduceAdd] at hp
        clear hs
        clear hbs
        obtain ⟨h7, h6⟩ := hp
        have hg6 := (getD_bool _ _).1 h6
        clear hf
        (try simp only [h7, h6, hg6])
        go_simp
        try dsimp only
        refine hK.out _ _ ?_ ?_
        · change Fr [] _ _
          (repeat (first | with_reducible (first | exact Fr.refl _ _ | assumption | refine Fr.drew ?_ | refine Fr.drewN ?_ _ | refine Fr.alloc ?_ _ | refine Fr.setL ?_ _ _ _ ?_) | (left; simp; done) | (right; first | (simp; done) | (simp; omega) | omega)); done)
        · simp only [nth]
          first | (unfold Is; rfl) | (unfold Any; exact trivial) | exact IsSl.new _ _ _ _ | assumption
      · intro ac wx hf hbs hs hp K hK
        simp only [zA, Region.binds, Nat.reduceAdd] at hp
        clear hs
        clear hbs
        obtain ⟨h6, h8⟩ := hp
        clear hf
        (try simp only [h6, h8])
        go_simp
        try dsimp only
        refine hK.out _ _ ?_ ?_
        · change Fr [] _ _
          (repeat (first | with_reducible (first | exact Fr.refl _ _ | assumption | refine Fr.drew ?_ | refine Fr.drewN ?_ _ | refine Fr.alloc ?_ _ | refine Fr.setL ?_ _ _ _ ?_) | (left; simp; done) | (right; first | (simp; done) | (simp; omega) | omega)); done)
        · simp only [nth]
          first | (unfold Is; rfl) | (unfold Any; exact trivial) | exact IsSl.new _ _ _ _ | assumption
      · intro ac wx hf hbs hs hp K hK
        simp only [zA, Region.binds, Nat.reduceAdd] at hp
        clear hs
        clear hbs
        obtain ⟨h9, h6⟩ := hp
        clear hf
        (try simp only [h9, h6])
        go_simp
        try dsimp only
        refine hK.out _ _ ?_ ?_
        · change Fr [] _ _
          (repeat (first | with_reducible (first | exact Fr.refl _ _ | assumption | refine Fr.drew ?_ | refine Fr.drewN ?_ _ | refine Fr.alloc ?_ _ | refine Fr.setL ?_ _ _ _ ?_) | (left; simp; done) | (right; first | (simp; done) | (simp; omega) | omega)); done)
        · simp only [nth]
          first | (unfold Is; rfl) | (unfold Any; exact trivial) | exact IsSl.new _ _ _ _ | assumption
      · intro ac wx hf hbs hs hp K hK
        simp only [zA, Region.binds, Nat.reduceAdd] at hp
        have hs0 := hs 0 (by kernel_rfl)
        simp only [Array.getD_eq_getD_getElem?, List.getElem?_toArray, List.getElem?_cons_succ, List.getElem?_cons_zero, Option.getD_some] at hs0
        clear hs
        clear hbs
        have h10 := hp
        clear hp
        have hg10 := (getD_bool _ _).1 h10
        clear hf
        (try simp only [h10, hg10])
        go_simp
        try dsimp only
        refine hK.out _ _ ?_ ?_
        · change Fr [] _ _
          (repeat (first | with_reducible (first | exact Fr.refl _ _ | assumption | refine Fr.drew ?_ | refine Fr.drewN ?_ _ | refine Fr.alloc ?_ _ | refine Fr.setL ?_ _ _ _ ?_) | (left; simp; done) | (right; first | (simp; done) | (simp; omega) | omega)); done)
        · simp only [nth]
          first | (unfold Is; rfl) | (unfold Any; exact trivial) | exact IsSl.new _ _ _ _ | assumption
      · intro ac wx hf hbs hs hp K hK
        simp only [zA, Region.binds, Nat.reduceAdd] at hp
        have hs1 := hs 1 (by kernel_rfl)
        simp only [Array.getD_eq_getD_getElem?, List.getElem?_toArray, List.getElem?_cons_succ, List.getElem?_cons_zero, Option.getD_some] at hs1
        clear hs
        clear hbs
        have h10 := hp
        clear hp
        have hg10 := (getD_bool _ _).1 h10
        clear hf
        (try simp only [h10, hg10])
        go_simp
        try dsimp only
        refine hK.out _ _ ?_ ?_
        · change Fr [] _ _
          (repeat (first | with_reducible (first | exact Fr.refl _ _ | assumption | refine Fr.drew ?_ | refine Fr.drewN ?_ _ | refine Fr.alloc ?_ _ | refine Fr.setL ?_ _ _ _ ?_) | (left; simp; done) | (right; first | (simp; done) | (simp; omega) | omega)); done)
        · simp only [nth]
          first | (unfold Is; rfl) | (unfold Any; exact trivial) | exact IsSl.new _ _ _ _ | assumption
      · intro ac wx hf hbs hs hp K hK
        simp only [zA, Region.binds, Nat.reduceAdd] at hp
        clear hs
        clear hbs
        obtain ⟨h11, h12, h10, h10_2⟩ := hp
        have hg10 := (getD_bool _ _).1 h10
        (try simp only [h11, h12, h10, hg10])
        go_simp
        go_at_call 231
        refine (HPL.out _ (H.out.fr hf (by simp))).mono ?_
        rintro e w' ⟨rfl, fz⟩
        exact hK.out _ _ fz rfl
      · intro ac wx hf hbs hs hp K hK
        simp only [zA, Region.binds, Nat.reduceAdd] at hp
        clear hs
        clear hbs
        obtain ⟨h13, h10⟩ := hp
        have hg10 := (getD_bool _ _).1 h10
        clear hf
        (try simp only [h13, h10, hg10])
        go_simp
        try dsimp only
        refine hK.out _ _ ?_ ?_
        · change Fr [] _ _
          (repeat (first | with_reducible (first | exact Fr.refl _ _ | assumption | refine Fr.drew ?_ | refine Fr.drewN ?_ _ | refine Fr.alloc ?_ _ | refine Fr.setL ?_ _ _ _ ?_) | (left; simp; done) | (right; first | (simp; done) | (simp; omega) | omega)); done)
        · simp only [nth]
          first | (unfold Is; rfl) | (unfold Any; exact trivial) | exact IsSl.new _ _ _ _ | assumption
      · intro ac wx hf hbs hs hp K hK
        simp only [zA, Region.binds, Nat.reduceAdd] at hp
        clear hs
        clear hbs
        obtain ⟨h14, h13, h10⟩ := hp
        have hg10 := (getD_bool _ _).1 h10
        clear hf
        (try simp only [h14, h13, h10, hg10])
        go_simp
        try dsimp only
        refine hK.out _ _ ?_ ?_
        · change Fr [] _ _
          (repeat (first | with_reducible (first | exact Fr.refl _ _ | assumption | refine Fr.drew ?_ | refine Fr.drewN ?_ _ | refine Fr.alloc ?_ _ | refine Fr.setL ?_ _ _ _ ?_) | (left; simp; done) | (right; first | (simp; done) | (simp; omega) | omega)); done)
        · simp only [nth]
          first | (unfold Is; rfl) | (unfold Any; exact trivial) | exact IsSl.new _ _ _ _ | assumption
      · intro ac wx hf hbs hs hp K hK
        simp only [zA, Region.binds, Nat.reduceAdd] at hp
        have hs0 := hs 0 (by kernel_rfl)
        simp only [Array.getD_eq_getD_getElem?, List.getElem?_toArray, List.getElem?_cons_succ, List.getElem?_cons_zero, Option.getD_some] at hs0
        clear hs
        clear hbs
        have h15 := hp
        clear hp
        have hg15 := (getD_bool _ _).1 h15
        clear hf
        (try simp only [h15, hg15])
        go_simp
        try dsimp only
        refine hK.out _ _ ?_ ?_
        · change Fr [] _ _
          (repeat (first | with_reducible (first | exact Fr.refl _ _ | assumption | refine Fr.drew ?_ | refine Fr.drewN ?_ _ | refine Fr.alloc ?_ _ | refine Fr.setL ?_ _ _ _ ?_) | (left; simp; done) | (right; first | (simp; done) | (simp; omega) | omega)); done)
        · simp only [nth]
          first | (unfold Is; rfl) | (unfold Any; exact trivial) | exact IsSl.new _ _ _ _ | assumption
      · intro ac wx hf hbs hs hp K hK
        simp only [zA, Region.binds, Nat.reduceAdd] at hp
        clear hs
        clear hbs
        obtain ⟨h16, h15⟩ := hp
        have hg15 := (getD_bool _ _).1 h15
        clear hf
        (try simp only [h16, h15, hg15])
        go_simp
        try dsimp only
        refine hK.out _ _ ?_ ?_
        · change Fr [] _ _
          (repeat (first | with_reducible (first | exact Fr.refl _ _ | assumption | refine Fr.drew ?_ | refine Fr.drewN ?_ _ | refine Fr.alloc ?_ _ | refine Fr.setL ?_ _ _ _ ?_) | (left; simp; done) | (right; first | (simp; done) | (simp; omega) | omega)); done)
        · simp only [nth]
          first | (unfold Is; rfl) | (unfold Any; exact trivial) | exact IsSl.new _ _ _ _ | assumption
      · intro ac wx hf hbs hs hp K hK
        simp only [zA, Region.binds, Nat.reduceAdd] at hp
        clear hs
        clear hbs
        obtain ⟨h17, h15⟩ := hp
        have hg15 := (getD_bool _ _).1 h15
        clear hf
        (try simp only [h17, h15, hg15])
        go_simp
        try dsimp only
        refine hK.out _ _ ?_ ?_
        · change Fr [] _ _
          (repeat (first | with_reducible (first | exact Fr.refl _ _ | assumption | refine Fr.drew ?_ | refine Fr.drewN ?_ _ | refine Fr.alloc ?_ _ | refine Fr.setL ?_ _ _ _ ?_) | (left; simp; done) | (right; first | (simp; done) | (simp; omega) | omega)); done)
        · simp only [nth]
          first | (unfold Is; rfl) | (unfold Any; exact trivial) | exact IsSl.new _ _ _ _ | assumption
      · intro ac wx hf hbs hs hp K hK
        simp only [zA, Region.binds, Nat.reduceAdd] at hp
        clear hs
        clear hbs
        obtain ⟨h18, h15⟩ := hp
        have hg15 := (getD_bool _ _).1 h15
        have cx := k2 wx hf
        clear hf
        (try simp only [h18, h15, hg15])
        go_simp
        try dsimp only
        refine hK.out _ _ ?_ ?_
        · change Fr [] _ _
          (repeat (first | with_reducible (first | exact Fr.refl _ _ | assumption | refine Fr.drew ?_ | refine Fr.drewN ?_ _ | refine Fr.alloc ?_ _ | refine Fr.setL ?_ _ _ _ ?_) | (left; simp; done) | (right; first | (simp; done) | (simp; omega) | omega)); done)
        · simp only [nth]
          first | (unfold Is; rfl) | (unfold Any; exact trivial) | exact IsSl.new _ _ _ _ | assumption
      · intro ac wx hf hbs hs hp K hK
        simp only [zA, Region.binds, Nat.reduceAdd] at hp
        clear hs
        clear hbs
        obtain ⟨h19, h15⟩ := hp
        have hg15 := (getD_bool _ _).1 h15
        clear hf
        (try simp only [h19, h15, hg15])
        go_simp
        try dsimp only
        refine hK.out _ _ ?_ ?_
        · change Fr [] _ _
          (repeat (first | with_reducible (first | exact Fr.refl _ _ | assumption | refine Fr.drew ?_ | refine Fr.drewN ?_ _ | refine Fr.alloc ?_ _ | refine Fr.setL ?_ _ _ _ ?_) | (left; simp; done) | (right; first | (simp; done) | (simp; omega) | omega)); done)
        · simp only [nth]
          first | (unfold Is; rfl) | (unfold Any; exact trivial) | exact IsSl.new _ _ _ _ | assumption
      · intro ac wx hf hbs hs hp K hK
        simp only [zA, Region.binds, Nat.reduceAdd] at hp
        have hs0 := hs 0 (by kernel_rfl)
        simp only [Array.getD_eq_getD_getElem?, List.getElem?_toArray, List.getElem?_cons_succ, List.getElem?_cons_zero, Option.getD_some] at hs0
        clear hs
        clear hbs
        have h15 := hp
        clear hp
        have hg15 := (getD_bool _ _).1 h15
        clear hf
        (try simp only [h15, hg15])
        go_simp
        try dsimp only
        refine hK.out _ _ ?_ ?_
        · change Fr [] _ _
          (repeat (first | with_reducible (first | exact Fr.refl _ _ | assumption | refine Fr.drew ?_ | refine Fr.drewN ?_ _ | refine Fr.alloc ?_ _ | refine Fr.setL ?_ _ _ _ ?_) | (left; simp; done) | (right; first | (simp; done) | (simp; omega) | omega)); done)
        · simp only [nth]
          first | (unfold Is; rfl) | (unfold Any; exact trivial) | exact IsSl.new _ _ _ _ | assumption
      · intro ac wx hf hbs hs hp K hK
        simp only [zA, Region.binds, Nat.reduceAdd] at hp
        clear hs
        clear hbs
        obtain ⟨h21, h15⟩ := hp
        have hg15 := (getD_bool _ _).1 h15
        clear hf
        (try simp only [h21, h15, hg15])
        go_simp
        try dsimp only
        refine hK.out _ _ ?_ ?_
        · change Fr [] _ _
          (repeat (first | with_reducible (first | exact Fr.refl _ _ | assumption | refine Fr.drew ?_ | refine Fr.drewN ?_ _ | refine Fr.alloc ?_ _ | refine Fr.setL ?_ _ _ _ ?_) | (left; simp; done) | (right; first | (simp; done) | (simp; omega) | omega)); done)
        · simp only [nth]
          first | (unfold Is; rfl) | (unfold Any; exact trivial) | exact IsSl.new _ _ _ _ | assumption
      · intro ac wx hf hbs hs hp K hK
        simp only [zA, Region.binds, Nat.reduceAdd] at hp
        clear hs
        clear hbs
        obtain ⟨h22, h15⟩ := hp
        have hg15 := (getD_bool _ _).1 h15
        clear hf
        (try simp only [h22, h15, hg15])
        go_simp
        try dsimp only
        refine hK.out _ _ ?_ ?_
        · change Fr [] _ _
          (repeat (first | with_reducible (first | exact Fr.refl _ _ | assumption | refine Fr.drew ?_ | refine Fr.drewN ?_ _ | refine Fr.alloc ?_ _ | refine Fr.setL ?_ _ _ _ ?_) | (left; simp; done) | (right; first | (simp; done) | (simp; omega) | omega)); done)
        · simp only [nth]
          first | (unfold Is; rfl) | (unfold Any; exact trivial) | exact IsSl.new _ _ _ _ | assumption
      · intro ac wx hf hbs hs hp K hK
        simp only [zA, Region.binds, Nat.reduceAdd] at hp
        clear hs
        clear hbs
        obtain ⟨h23, h15⟩ := hp
        have hg15 := (getD_bool _ _).1 h15
        have cx := k0 wx hf
        clear hf
        (try simp only [h23, h15, hg15])
        go_simp
        try dsimp only
        refine hK.out _ _ ?_ ?_
        · change Fr [] _ _
          (repeat (first | with_reducible (first | exact Fr.refl _ _ | assumption | refine Fr.drew ?_ | refine Fr.drewN ?_ _ | refine Fr.alloc ?_ _ | refine Fr.setL ?_ _ _ _ ?_) | (left; simp; done) | (right; first | (simp; done) | (simp; omega) | omega)); done)
        · simp only [nth]
          first | (unfold Is; rfl) | (unfold Any; exact trivial) | exact IsSl.new _ _ _ _ | assumption
      · intro ac wx hf hbs hs hp K hK
        simp only [zA, Region.binds, Nat.reduceAdd] at hp
        clear hs
        clear hbs
        obtain ⟨h20, h24, h15⟩ := hp
        have hg15 := (getD_bool _ _).1 h15
        clear hf
        (try simp only [h20, h24, h15, hg15])
        go_simp
        try dsimp only
        refine hK.out _ _ ?_ ?_
        · change Fr [] _ _
          (repeat (first | with_reducible (first | exact Fr.refl _ _ | assumption | refine Fr.drew ?_ | refine Fr.drewN ?_ _ | refine Fr.alloc ?_ _ | refine Fr.setL ?_ _ _ _ ?_) | (left; simp; done) | (right; first | (simp; done) | (simp; omega) | omega)); done)
        · simp only [nth]
          first | (unfold Is; rfl) | (unfold Any; exact trivial) | exact IsSl.new _ _ _ _ | assumption
      · intro ac wx hf hbs hs hp K hK
        simp only [zA, Region.binds, Nat.reduceAdd] at hp
        clear hs
        clear hbs
        obtain ⟨h15, h25, h10⟩ := hp
        have hg10 := (getD_bool _ _).1 h10
        clear hf
        (try simp only [h15, h25, h10, hg10])
        go_simp
        try dsimp only
        refine hK.out _ _ ?_ ?_
        · change Fr [] _ _
          (repeat (first | with_reducible (first | exact Fr.refl _ _ | assumption | refine Fr.drew ?_ | refine Fr.drewN ?_ _ | refine Fr.alloc ?_ _ | refine Fr.setL ?_ _ _ _ ?_) | (left; simp; done) | (right; first | (simp; done) | (simp; omega) | omega)); done)
        · simp only [nth]
          first | (unfold Is; rfl) | (unfold Any; exact trivial) | exact IsSl.new _ _ _ _ | assumption
      · intro ac wx hf hbs hs hp K hK
        simp only [zA, Region.binds, Nat.reduceAdd] at hp
        clear hs
        clear hbs
        obtain ⟨h10, h26⟩ := hp
        clear hf
        (try simp only [h10, h26])
        go_simp
        try dsimp only
        refine hK.out _ _ ?_ ?_
        · change Fr [] _ _
          (repeat (first | with_reducible (first | exact Fr.refl _ _ | assumption | refine Fr.drew ?_ | refine Fr.drewN ?_ _ | refine Fr.alloc ?_ _ | refine Fr.setL ?_ _ _ _ ?_) | (left; simp; done) | (right; first | (simp; done) | (simp; omega) | omega)); done)
        · simp only [nth]
          first | (unfold Is; rfl) | (unfold Any; exact trivial) | exact IsSl.new _ _ _ _ | assumption
    case hD =>
      intro xv wx hf hp
      simp only [List.take_succ_cons, List.take_zero, List.drop_succ_cons, List.drop_zero, fill, List.setIfInBounds_toArray, List.set_cons_zero, List.set_cons_succ, Nat.reduceAdd, Act.put]
      rw [show live 28 (deadC [none, none, none, none, none, none, none, none, none, none, none, none, none, none, none, none, none, none, none, none, none, none, none, none, none, none, none, none]) = [0, 1, 2, 3, 4, 5, 6, 7, 8, 9, 10, 11, 12, 13, 14, 15, 16, 17, 18, 19, 20, 21, 22, 23, 24, 25, 26, 27] from by decide] at hp
      simp only [holds, nth, Is, Any, true_and, and_true] at hp
      obtain ⟨p0, p1, p2, p3, p4, p5, p6, p7, p8, p9, p10, p11, p12, p13, p14, p15, p16, p17, p18, p19, p20, p21, p22, p23, p24, p25, p26, p27⟩ := hp
      have h1 := H.out.fr hf (by simp)
      have F1 := Lib.hid hf
      simp only [p27]
      clear p0 p1 p2 p3 p4 p5 p6 p7 p8 p9 p10 p11 p12 p13 p14 p15 p16 p17 p18 p19 p20 p21 p22 p23 p24 p25 p26 k0 k2 c0 c2 hf
      go_wp2_with fail
      refine (HST.out wx h1).mono ?_
      rintro e w2 ⟨rfl, s2, hC2, f2, n2⟩
      have c2 := hC2.head.cell 2 rfl
      have fz := hC2.head.free 2
      simp only [List.getElem_toArray, List.getElem_cons_zero, List.getElem_cons_succ] at c2
      have c2' := ((Fr.refl [] w2).alloc (.cells #[.int .i64 k, .int .i64 ticks] 158)).cell c2 (by simp)
      have HC2 := Lib.hid hC2
      have HF2 := Lib.hid (And.intro f2 n2)
      clear h1 f2 n2
      have HLt := HL.out
      go_wp2_with (at_builtin; refine wpList_push rfl _ _ 151 rfl 158 i0 (.agg #[.int .i64 0, .int .i64 0]) 2 16 hun hi0 hz0 hz1 hz2 rfl (by decide) s2 (tstop l k).length (tflat (tstop l k)) rfl (own_fr hC2.own ((Fr.refl [] w2).alloc (.cells #[.int .i64 k, .int .i64 ticks] 158))) _ 1 _ rfl Src.one (by simp) (by intro u hu; simp at hu; rcases hu with rfl | rfl <;> rfl) (by unfold maxLen; omega) (by omega) ?_)
      intro s3 w3 hp
      have hp' : Pushed (w2.alloc (.cells #[.int .i64 k, .int .i64 ticks] 158)) w3 158 2 s2 s3 (tstop l k ++ [(k, ticks)]).length (tflat (tstop l k ++ [(k, ticks)])) := by
        have := hp
        rw [tflat_append, List.length_append]
        exact this
      have hC3 := HC2.out.fr ((Fr.refl [] w2).alloc (.cells #[.int .i64 k, .int .i64 ticks] 158)) (by simp)
      obtain ⟨r1, r2⟩ := hC3.reset (v := .bool true) hp'
      have hh := hC3.head.fr hp.2.1 hC3.off
      have c3 := hh.cell 2 rfl
      have fz3 := hh.free 2
      simp only [List.getElem_toArray, List.getElem_cons_zero, List.getElem_cons_succ] at c3
      have hsz := ((Fr.refl [] w2).alloc (.cells #[.int .i64 k, .int .i64 ticks] 158)).size
      have n3 := hp.2.2
      have fA := ((Fr.refl (b :: s2.blk) w2).alloc (.cells #[.int .i64 k, .int .i64 ticks] 158)).trans r2 (fun x hx => .inl hx)
      obtain ⟨f2, n2⟩ := HF2.out
      have fB : Fr (b :: s.blk) w (w3.setCell ⟨b, 2, none⟩ (.slice s3.A s3.n s3.c)) := ((F1.out.mono (M := b :: s.blk) (by simp)).tr f2).trans fA (fun x hx => by
        rcases List.mem_cons.1 hx with rfl | hx
        · exact .inl (by simp)
        · rcases n2 x hx with h1 | h1
          · exact .inl (List.mem_cons_of_mem _ h1)
          · exact .inr (Nat.le_trans F1.out.size h1))
      have nB : ∀ x ∈ s3.blk, x ∈ s.blk ∨ w.heap.size ≤ x := fun x hx => by
        rcases n3 x hx with h1 | h1
        · rcases n2 x h1 with h1 | h1
          · exact .inl h1
          · exact .inr (Nat.le_trans F1.out.size h1)
        · exact .inr (by have := F1.out.size; have := f2.size; omega)
      have HFIN := Lib.hid (And.intro r1 (And.intro fB nB))
      clear c2 c2' fz hC2 hC3 hp hp' r1 r2 hh hsz n3 fA f2 n2 fB nB
      go_wp2
      go_ret
      exact ⟨rfl, s3, HFIN.out.1, HFIN.out.2.1, HFIN.out.2.2⟩
  · have e1 : decide (j < 0) = false := by simpa using h0
    clear h0
    go_enter Tryz.func200, Tryz.ntmps200
    go_wp2
    have k0 : ∀ wx, Fr [] w wx → wx.cell? ⟨b, 0, none⟩ = some (.int .i64 most) := fun wx hf => hf.cell c0 (by simp)
    have k2 : ∀ wx, Fr [] w wx → wx.cell? ⟨b, 2, none⟩ = some (.slice s.A l.length s.c) := fun wx hf => hf.cell c2 (by simp)
    refine wp_region_keepsC [] [false, false, false, false, false, false, false, false, false, false, false, false, false, false, false, false, false, false, false, false, false, false, false, false, false, false, false, false] [none, none, none, none, none, none, none, none, none, none, none, none, none, none, none, none, none, none, none, none, none, none, none, none, none, none, none, none] (fun _ => True) [Is (.pointer (some ⟨b, 0, none⟩)), Is (.bool false), Is (.bool false), Is (.int .i64 ticks), Is (.bool false), Is (.bool false), Is (.bool false), Is (.int .i64 ticks), Is (.bool false), Is (.bool false), Is (.bool false), Is (.pointer (some ⟨b, 0, none⟩)), Is (.int .i64 k), Is (.int .i64 j), Is (.bool false), Is (.bool false), Any, Any, Any, Any, Any, Any, Any, Any, Any, Any, Is (.bool false), Is (.bool false)] 28 (by kernel_rfl) (by kernel_rfl) (by kernel_rfl) (by kernel_rfl) (by kernel_rfl) (by kernel_rfl) (by kernel_rfl) (by kernel_rfl) ?hV (fun _ _ _ h => h) trivial ?hS ?hD
    case hV =>
      repeat (first | exact trivial | exact Is.keepsN _ | exact Any.keepsN | refine And.intro ?_ ?_)
    case hS =>
      (repeat' (first | exact trivial | refine And.intro ?_ ?_))
      · intro ac wx hf hbs hs hp K hK
        simp only [zA, Region.binds, Nat.reduceAdd] at hp
        have hs0 := hs 0 (by kernel_rfl)
        simp only [Array.getD_eq_getD_getElem?, List.getElem?_toArray, List.getElem?_cons_succ, List.getElem?_cons_zero, Option.getD_some] at hs0
        clear hs
        clear hbs
        clear hp
        clear hf
        go_simp
        try dsimp only
        refine hK.out _ _ ?_ ?_
        · change Fr [] _ _
          (repeat (first | with_reducible (first | exact Fr.refl _ _ | assumption | refine Fr.drew ?_ | refine Fr.drewN ?_ _ | refine Fr.alloc ?_ _ | refine Fr.setL ?_ _ _ _ ?_) | (left; simp; done) | (right; first | (simp; done) | (simp; omega) | omega)); done)
        · simp only [nth]
          first | (unfold Is; rfl) | (unfold Any; exact trivial) | exact IsSl.new _ _ _ _ | assumption
      · intro ac wx hf hbs hs hp K hK
        simp only [zA, Region.binds, Nat.reduceAdd] at hp
        clear hs
        clear hbs
        have h0 := hp
        clear hp
        clear hf
        (try simp only [h0])
        go_simp
        try dsimp only
        refine hK.out _ _ ?_ ?_
        · change Fr [] _ _
          (repeat (first | with_reducible (first | exact Fr.refl _ _ | assumption | refine Fr.drew ?_ | refine Fr.drewN ?_ _ | refine Fr.alloc ?_ _ | refine Fr.setL ?_ _ _ _ ?_) | (left; simp; done) | (right; first | (simp; done) | (simp; omega) | omega)); done)
        · simp only [nth]
          first | (unfold Is; rfl) | (unfold Any; exact trivial) | exact IsSl.new _ _ _ _ | assumption
      · intro ac wx hf hbs hs hp K hK
        simp only [zA, Region.binds, Nat.reduceAdd] at hp
        clear hs
        clear hbs
        have h1 := hp
        clear hp
        clear hf
        (try simp only [h1])
        go_simp
        try dsimp only
        refine hK.out _ _ ?_ ?_
        · change Fr [] _ _
          (repeat (first | with_reducible (first | exact Fr.refl _ _ | assumption | refine Fr.drew ?_ | refine Fr.drewN ?_ _ | refine Fr.alloc ?_ _ | refine Fr.setL ?_ _ _ _ ?_) | (left; simp; done) | (right; first | (simp; done) | (simp; omega) | omega)); done)
        · simp only [nth]
          first | (unfold Is; rfl) | (unfold Any; exact trivial) | exact IsSl.new _ _ _ _ | assumption
      · intro ac wx hf hbs hs hp K hK
        simp only [zA, Region.binds, Nat.reduceAdd] at hp
        have hs2 := hs 2 (by kernel_rfl)
        simp only [Array.getD_eq_getD_getElem?, List.getElem?_toArray, List.getElem?_cons_succ, List.getElem?_cons_zero, Option.getD_some] at hs2
        clear hs
        clear hbs
        have h2 := hp
        clear hp
        have hg2 := (getD_bool _ _).1 h2
        clear hf
        (try simp only [h2, hg2])
        go_simp
        try dsimp only
        refine hK.out _ _ ?_ ?_
        · change Fr [] _ _
          (repeat (first | with_reducible (first | exact Fr.refl _ _ | assumption | refine Fr.drew ?_ | refine Fr.drewN ?_ _ | refine Fr.alloc ?_ _ | refine Fr.setL ?_ _ _ _ ?_) | (left; simp; done) | (right; first | (simp; done) | (simp; omega) | omega)); done)
        · simp only [nth]
          first | (unfold Is; rfl) | (unfold Any; exact trivial) | exact IsSl.new _ _ _ _ | assumption
      · intro ac wx hf hbs hs hp K hK
        simp only [zA, Region.binds, Nat.reduceAdd] at hp
        clear hs
        clear hbs
        obtain ⟨h3, h2⟩ := hp
        have hg2 := (getD_bool _ _).1 h2
        clear hf
        (try simp only [h3, h2, hg2])
        go_simp
        try dsimp only
        refine hK.out _ _ ?_ ?_
        · change Fr [] _ _
          (repeat (first | with_reducible (first | exact Fr.refl _ _ | assumption | refine Fr.drew ?_ | refine Fr.drewN ?_ _ | refine Fr.alloc ?_ _ | refine Fr.setL ?_ _ _ _ ?_) | (left; simp; done) | (right; first | (simp; done) | (simp; omega) | omega)); done)
        · simp only [nth]
          first | (unfold Is; rfl) | (unfold Any; exact trivial) | exact IsSl.new _ _ _ _ | assumption
      · intro ac wx hf hbs hs hp K hK
        simp only [zA, Region.binds, Nat.reduceAdd] at hp
        clear hs
        clear hbs
        obtain ⟨h2, h4⟩ := hp
        clear hf
        (try simp only [h2, h4])
        go_simp
        try dsimp only
        refine hK.out _ _ ?_ ?_
        · change Fr [] _ _
          (repeat (first | with_reducible (first | exact Fr.refl _ _ | assumption | refine Fr.drew ?_ | refine Fr.drewN ?_ _ | refine Fr.alloc ?_ _ | refine Fr.setL ?_ _ _ _ ?_) | (left; simp; done) | (right; first | (simp; done) | (simp; omega) | omega)); done)
        · simp only [nth]
          first | (unfold Is; rfl) | (unfold Any; exact trivial) | exact IsSl.new _ _ _ _ | assumption
      · intro ac wx hf hbs hs hp K hK
        simp only [zA, Region.binds, Nat.reduceAdd] at hp
        clear hs
        clear hbs
        obtain ⟨h5, h2⟩ := hp
        clear hf
        (try simp only [h5, h2])
        go_simp
        try dsimp only
        refine hK.out _ _ ?_ ?_
        · change Fr [] _ _
          (repeat (first | with_reducible (first | exact Fr.refl _ _ | assumption | refine Fr.drew ?_ | refine Fr.drewN ?_ _ | refine Fr.alloc ?_ _ | refine Fr.setL ?_ _ _ _ ?_) | (left; simp; done) | (right; first | (simp; done) | (simp; omega) | omega)); done)
        · simp only [nth]
          first | (unfold Is; rfl) | (unfold Any; exact trivial) | exact IsSl.new _ _ _ _ | assumption
      · intro ac wx hf hbs hs hp K hK
        simp only [zA, Region.binds, Nat.reduceAdd] at hp
        have hs2 := hs 2 (by kernel_rfl)
        simp only [Array.getD_eq_getD_getElem?, List.getElem?_toArray, List.getElem?_cons_succ, List.getElem?_cons_zero, Option.getD_some] at hs2
        clear hs
        clear hbs
        have h6 := hp
        clear hp
        have hg6 := (getD_bool _ _).1 h6
        clear hf
        (try simp only [h6, hg6])
        go_simp
        try dsimp only
        refine hK.out _ _ ?_ ?_
        · change Fr [] _ _
          (repeat (first | with_reducible (first | exact Fr.refl _ _ | assumption | refine Fr.drew ?_ | refine Fr.drewN ?_ _ | refine Fr.alloc ?_ _ | refine Fr.setL ?_ _ _ _ ?_) | (left; simp; done) | (right; first | (simp; done) | (simp; omega) | omega)); done)
        · simp only [nth]
          first | (unfold Is; rfl) | (unfold Any; exact trivial) | exact IsSl.new _ _ _ _ | assumption
      · intro ac wx hf hbs hs hp K hK
        simp only [zA, Region.binds, Nat.reduceAdd] at hp
        clear hs
        clear hbs
        obtain ⟨h7, h6⟩ := hp
        have hg6 := (getD_bool _ _).1 h6
        clear hf
        (try simp only [h7, h6, hg6])
        go_simp
        try dsimp only
        refine hK.out _ _ ?_ ?_
        · change Fr [] _ _
          (repeat (first | with_reducible (first | exact Fr.refl _ _ | assumption | refine Fr.drew ?_ | refine Fr.drewN ?_ _ | refine Fr.alloc ?_ _ | refine Fr.setL ?_ _ _ _ ?_) | (left; simp; done) | (right; first | (simp; done) | (simp; omega) | omega)); done)
        · simp only [nth]
          first | (unfold Is; rfl) | (unfold Any; exact trivial) | exact IsSl.new _ _ _ _ | assumption
      · intro ac wx hf hbs hs hp K hK
        simp only [zA, Region.binds, Nat.reduceAdd] at hp
        clear hs
        clear hbs
        obtain ⟨h6, h8⟩ := hp
        clear hf
        (try simp only [h6, h8])
        go_simp
        try dsimp only
        refine hK.out _ _ ?_ ?_
        · change Fr [] _ _
          (repeat (first | with_reducible (first | exact Fr.refl _ _ | assumption | refine Fr.drew ?_ | refine Fr.drewN ?_ _ | refine Fr.alloc ?_ _ | refine Fr.setL ?_ _ _ _ ?_) | (left; simp; done) | (right; first | (simp; done) | (simp; omega) | omega)); done)
        · simp only [nth]
          first | (unfold Is; rfl) | (unfold Any; exact trivial) | exact IsSl.new _ _ _ _ | assumption
      · intro ac wx hf hbs hs hp K hK
        simp only [zA, Region.binds, Nat.reduceAdd] at hp
        clear hs
        clear hbs
        obtain ⟨h9, h6⟩ := hp
        clear hf
        (try simp only [h9, h6])
        go_simp
        try dsimp only
        refine hK.out _ _ ?_ ?_
        · change Fr [] _ _
          (repeat (first | with_reducible (first | exact Fr.refl _ _ | assumption | refine Fr.drew ?_ | refine Fr.drewN ?_ _ | refine Fr.alloc ?_ _ | refine Fr.setL ?_ _ _ _ ?_) | (left; simp; done) | (right; first | (simp; done) | (simp; omega) | omega)); done)
        · simp only [nth]
          first | (unfold Is; rfl) | (unfold Any; exact trivial) | exact IsSl.new _ _ _ _ | assumption
      · intro ac wx hf hbs hs hp K hK
        simp only [zA, Region.binds, Nat.reduceAdd] at hp
        have hs0 := hs 0 (by kernel_rfl)
        simp only [Array.getD_eq_getD_getElem?, List.getElem?_toArray, List.getElem?_cons_succ, List.getElem?_cons_zero, Option.getD_some] at hs0
        clear hs
        clear hbs
        have h10 := hp
        clear hp
        have hg10 := (getD_bool _ _).1 h10
        clear hf
        (try simp only [h10, hg10])
        go_simp
        try dsimp only
        refine hK.out _ _ ?_ ?_
        · change Fr [] _ _
          (repeat (first | with_reducible (first | exact Fr.refl _ _ | assumption | refine Fr.drew ?_ | refine Fr.drewN ?_ _ | refine Fr.alloc ?_ _ | refine Fr.setL ?_ _ _ _ ?_) | (left; simp; done) | (right; first | (simp; done) | (simp; omega) | omega)); done)
        · simp only [nth]
          first | (unfold Is; rfl) | (unfold Any; exact trivial) | exact IsSl.new _ _ _ _ | assumption
      · intro ac wx hf hbs hs hp K hK
        simp only [zA, Region.binds, Nat.reduceAdd] at hp
        have hs1 := hs 1 (by kernel_rfl)
        simp only [Array.getD_eq_getD_getElem?, List.getElem?_toArray, List.getElem?_cons_succ, List.getElem?_cons_zero, Option.getD_some] at hs1
        clear hs
        clear hbs
        have h10 := hp
        clear hp
        have hg10 := (getD_bool _ _).1 h10
        clear hf
        (try simp only [h10, hg10])
        go_simp
        try dsimp only
        refine hK.out _ _ ?_ ?_
        · change Fr [] _ _
          (repeat (first | with_reducible (first | exact Fr.refl _ _ | assumption | refine Fr.drew ?_ | refine Fr.drewN ?_ _ | refine Fr.alloc ?_ _ | refine Fr.setL ?_ _ _ _ ?_) | (left; simp; done) | (right; first | (simp; done) | (simp; omega) | omega)); done)
        · simp only [nth]
          first | (unfold Is; rfl) | (unfold Any; exact trivial) | exact IsSl.new _ _ _ _ | assumption
      · intro ac wx hf hbs hs hp K hK
        simp only [zA, Region.binds, Nat.reduceAdd] at hp
        clear hs
        clear hbs
        obtain ⟨h11, h12, h10, h10_2⟩ := hp
        have hg10 := (getD_bool _ _).1 h10
        (try simp only [h11, h12, h10, hg10])
        go_simp
        go_at_call 231
        refine (HPL.out _ (H.out.fr hf (by simp))).mono ?_
        rintro e w' ⟨rfl, fz⟩
        exact hK.out _ _ fz rfl
      · intro ac wx hf hbs hs hp K hK
        simp only [zA, Region.binds, Nat.reduceAdd] at hp
        clear hs
        clear hbs
        obtain ⟨h13, h10⟩ := hp
        have hg10 := (getD_bool _ _).1 h10
        clear hf
        (try simp only [h13, h10, hg10])
        go_simp
        try dsimp only
        refine hK.out _ _ ?_ ?_
        · change Fr [] _ _
          (repeat (first | with_reducible (first | exact Fr.refl _ _ | assumption | refine Fr.drew ?_ | refine Fr.drewN ?_ _ | refine Fr.alloc ?_ _ | refine Fr.setL ?_ _ _ _ ?_) | (left; simp; done) | (right; first | (simp; done) | (simp; omega) | omega)); done)
        · simp only [nth]
          first | (unfold Is; rfl) | (unfold Any; exact trivial) | exact IsSl.new _ _ _ _ | assumption
      · intro ac wx hf hbs hs hp K hK
        simp only [zA, Region.binds, Nat.reduceAdd] at hp
        clear hs
        clear hbs
        obtain ⟨h14, h13, h10⟩ := hp
        have hg10 := (getD_bool _ _).1 h10
        clear hf
        (try simp only [h14, h13, h10, hg10])
        go_simp
        try dsimp only
        refine hK.out _ _ ?_ ?_
        · change Fr [] _ _
          (repeat (first | with_reducible (first | exact Fr.refl _ _ | assumption | refine Fr.drew ?_ | refine Fr.drewN ?_ _ | refine Fr.alloc ?_ _ | refine Fr.setL ?_ _ _ _ ?_) | (left; simp; done) | (right; first | (simp; done) | (simp; omega) | omega)); done)
        · simp only [nth]
          first | (unfold Is; rfl) | (unfold Any; exact trivial) | exact IsSl.new _ _ _ _ | assumption
      · intro ac wx hf hbs hs hp K hK
        simp only [zA, Region.binds, Nat.reduceAdd] at hp
        have hs0 := hs 0 (by kernel_rfl)
        simp only [Array.getD_eq_getD_getElem?, List.getElem?_toArray, List.getElem?_cons_succ, List.getElem?_cons_zero, Option.getD_some] at hs0
        clear hs
        clear hbs
        have h15 := hp
        clear hp
        have hg15 := (getD_bool _ _).1 h15
        clear hf
        (try simp only [h15, hg15])
        go_simp
        try dsimp only
        refine hK.out _ _ ?_ ?_
        · change Fr [] _ _
          (repeat (first | with_reducible (first | exact Fr.refl _ _ | assumption | refine Fr.drew ?_ | refine Fr.drewN ?_ _ | refine Fr.alloc ?_ _ | refine Fr.setL ?_ _ _ _ ?_) | (left; simp; done) | (right; first | (simp; done) | (simp; omega) | omega)); done)
        · simp only [nth]
          first | (unfold Is; rfl) | (unfold Any; exact trivial) | exact IsSl.new _ _ _ _ | assumption
      · intro ac wx hf hbs hs hp K hK
        simp only [zA, Region.binds, Nat.reduceAdd] at hp
        clear hs
        clear hbs
        have h15 := hp
        clear hp
        have hg15 := (getD_bool _ _).1 h15
        clear hf
        (try simp only [h15, hg15])
        go_simp
        try dsimp only
        refine hK.out _ _ ?_ ?_
        · change Fr [] _ _
          (repeat (first | with_reducible (first | exact Fr.refl _ _ | assumption | refine Fr.drew ?_ | refine Fr.drewN ?_ _ | refine Fr.alloc ?_ _ | refine Fr.setL ?_ _ _ _ ?_) | (left; simp; done) | (right; first | (simp; done) | (simp; omega) | omega)); done)
        · simp only [nth]
          first | (unfold Is; rfl) | (unfold Any; exact trivial) | exact IsSl.new _ _ _ _ | assumption
      · intro ac wx hf hbs hs hp K hK
        simp only [zA, Region.binds, Nat.reduceAdd] at hp
        clear hs
        clear hbs
        have h15 := hp
        clear hp
        have hg15 := (getD_bool _ _).1 h15
        clear hf
        (try simp only [h15, hg15])
        go_simp
        try dsimp only
        refine hK.out _ _ ?_ ?_
        · change Fr [] _ _
          (repeat (first | with_reducible (first | exact Fr.refl _ _ | assumption | refine Fr.drew ?_ | refine Fr.drewN ?_ _ | refine Fr.alloc ?_ _ | refine Fr.setL ?_ _ _ _ ?_) | (left; simp; done) | (right; first | (simp; done) | (simp; omega) | omega)); done)
        · simp only [nth]
          first | (unfold Is; rfl) | (unfold Any; exact trivial) | exact IsSl.new _ _ _ _ | assumption
      · intro ac wx hf hbs hs hp K hK
        simp only [zA, Region.binds, Nat.reduceAdd] at hp
        clear hs
        clear hbs
        have h15 := hp
        clear hp
        have hg15 := (getD_bool _ _).1 h15
        clear hf
        (try simp only [h15, hg15])
        go_simp
        try dsimp only
        refine hK.out _ _ ?_ ?_
        · change Fr [] _ _
          (repeat (first | with_reducible (first | exact Fr.refl _ _ | assumption | refine Fr.drew ?_ | refine Fr.drewN ?_ _ | refine Fr.alloc ?_ _ | refine Fr.setL ?_ _ _ _ ?_) | (left; simp; done) | (right; first | (simp; done) | (simp; omega) | omega)); done)
        · simp only [nth]
          first | (unfold Is; rfl) | (unfold Any; exact trivial) | exact IsSl.new _ _ _ _ | assumption
      · intro ac wx hf hbs hs hp K hK
        simp only [zA, Region.binds, Nat.reduceAdd] at hp
        clear hs
        clear hbs
        have h15 := hp
        clear hp
        have hg15 := (getD_bool _ _).1 h15
        clear hf
        (try simp only [h15, hg15])
        go_simp
        try dsimp only
        refine hK.out _ _ ?_ ?_
        · change Fr [] _ _
          (repeat (first | with_reducible (first | exact Fr.refl _ _ | assumption | refine Fr.drew ?_ | refine Fr.drewN ?_ _ | refine Fr.alloc ?_ _ | refine Fr.setL ?_ _ _ _ ?_) | (left; simp; done) | (right; first | (simp; done) | (simp; omega) | omega)); done)
        · simp only [nth]
          first | (unfold Is; rfl) | (unfold Any; exact trivial) | exact IsSl.new _ _ _ _ | assumption
      · intro ac wx hf hbs hs hp K hK
        simp only [zA, Region.binds, Nat.reduceAdd] at hp
        have hs0 := hs 0 (by kernel_rfl)
        simp only [Array.getD_eq_getD_getElem?, List.getElem?_toArray, List.getElem?_cons_succ, List.getElem?_cons_zero, Option.getD_some] at hs0
        clear hs
        clear hbs
        have h15 := hp
        clear hp
        have hg15 := (getD_bool _ _).1 h15
        clear hf
        (try simp only [h15, hg15])
        go_simp
        try dsimp only
        refine hK.out _ _ ?_ ?_
        · change Fr [] _ _
          (repeat (first | with_reducible (first | exact Fr.refl _ _ | assumption | refine Fr.drew ?_ | refine Fr.drewN ?_ _ | refine Fr.alloc ?_ _ | refine Fr.setL ?_ _ _ _ ?_) | (left; simp; done) | (right; first | (simp; done) | (simp; omega) | omega)); done)
        · simp only [nth]
          first | (unfold Is; rfl) | (unfold Any; exact trivial) | exact IsSl.new _ _ _ _ | assumption
      · intro ac wx hf hbs hs hp K hK
        simp only [zA, Region.binds, Nat.reduceAdd] at hp
        clear hs
        clear hbs
        have h15 := hp
        clear hp
        have hg15 := (getD_bool _ _).1 h15
        clear hf
        (try simp only [h15, hg15])
        go_simp
        try dsimp only
        refine hK.out _ _ ?_ ?_
        · change Fr [] _ _
          (repeat (first | with_reducible (first | exact Fr.refl _ _ | assumption | refine Fr.drew ?_ | refine Fr.drewN ?_ _ | refine Fr.alloc ?_ _ | refine Fr.setL ?_ _ _ _ ?_) | (left; simp; done) | (right; first | (simp; done) | (simp; omega) | omega)); done)
        · simp only [nth]
          first | (unfold Is; rfl) | (unfold Any; exact trivial) | exact IsSl.new _ _ _ _ | assumption
      · intro ac wx hf hbs hs hp K hK
        simp only [zA, Region.binds, Nat.reduceAdd] at hp
        clear hs
        clear hbs
        have h15 := hp
        clear hp
        have hg15 := (getD_bool _ _).1 h15
        clear hf
        (try simp only [h15, hg15])
        go_simp
        try dsimp only
        refine hK.out _ _ ?_ ?_
        · change Fr [] _ _
          (repeat (first | with_reducible (first | exact Fr.refl _ _ | assumption | refine Fr.drew ?_ | refine Fr.drewN ?_ _ | refine Fr.alloc ?_ _ | refine Fr.setL ?_ _ _ _ ?_) | (left; simp; done) | (right; first | (simp; done) | (simp; omega) | omega)); done)
        · simp only [nth]
          first | (unfold Is; rfl) | (unfold Any; exact trivial) | exact IsSl.new _ _ _ _ | assumption
      · intro ac wx hf hbs hs hp K hK
        simp only [zA, Region.binds, Nat.reduceAdd] at hp
        clear hs
        clear hbs
        have h15 := hp
        clear hp
        have hg15 := (getD_bool _ _).1 h15
        clear hf
        (try simp only [h15, hg15])
        go_simp
        try dsimp only
        refine hK.out _ _ ?_ ?_
        · change Fr [] _ _
          (repeat (first | with_reducible (first | exact Fr.refl _ _ | assumption | refine Fr.drew ?_ | refine Fr.drewN ?_ _ | refine Fr.alloc ?_ _ | refine Fr.setL ?_ _ _ _ ?_) | (left; simp; done) | (right; first | (simp; done) | (simp; omega) | omega)); done)
        · simp only [nth]
          first | (unfold Is; rfl) | (unfold Any; exact trivial) | exact IsSl.new _ _ _ _ | assumption
      · intro ac wx hf hbs hs hp K hK
        simp only [zA, Region.binds, Nat.reduceAdd] at hp
        clear hs
        clear hbs
        have h15 := hp
        clear hp
        have hg15 := (getD_bool _ _).1 h15
        clear hf
        (try simp only [h15, hg15])
        go_simp
        try dsimp only
        refine hK.out _ _ ?_ ?_
        · change Fr [] _ _
          (repeat (first | with_reducible (first | exact Fr.refl _ _ | assumption | refine Fr.drew ?_ | refine Fr.drewN ?_ _ | refine Fr.alloc ?_ _ | refine Fr.setL ?_ _ _ _ ?_) | (left; simp; done) | (right; first | (simp; done) | (simp; omega) | omega)); done)
        · simp only [nth]
          first | (unfold Is; rfl) | (unfold Any; exact trivial) | exact IsSl.new _ _ _ _ | assumption
      · intro ac wx hf hbs hs hp K hK
        simp only [zA, Region.binds, Nat.reduceAdd] at hp
        clear hs
        clear hbs
        obtain ⟨h15, h10⟩ := hp
        have hg10 := (getD_bool _ _).1 h10
        clear hf
        (try simp only [h15, h10, hg10])
        go_simp
        try dsimp only
        refine hK.out _ _ ?_ ?_
        · change Fr [] _ _
          (repeat (first | with_reducible (first | exact Fr.refl _ _ | assumption | refine Fr.drew ?_ | refine Fr.drewN ?_ _ | refine Fr.alloc ?_ _ | refine Fr.setL ?_ _ _ _ ?_) | (left; simp; done) | (right; first | (simp; done) | (simp; omega) | omega)); done)
        · simp only [nth]
          first | (unfold Is; rfl) | (unfold Any; exact trivial) | exact IsSl.new _ _ _ _ | assumption
      · intro ac wx hf hbs hs hp K hK
        simp only [zA, Region.binds, Nat.reduceAdd] at hp
        clear hs
        clear hbs
        obtain ⟨h10, h26⟩ := hp
        clear hf
        (try simp only [h10, h26])
        go_simp
        try dsimp only
        refine hK.out _ _ ?_ ?_
        · change Fr [] _ _
          (repeat (first | with_reducible (first | exact Fr.refl _ _ | assumption | refine Fr.drew ?_ | refine Fr.drewN ?_ _ | refine Fr.alloc ?_ _ | refine Fr.setL ?_ _ _ _ ?_) | (left; simp; done) | (right; first | (simp; done) | (simp; omega) | omega)); done)
        · simp only [nth]
          first | (unfold Is; rfl) | (unfold Any; exact trivial) | exact IsSl.new _ _ _ _ | assumption
    case hD =>
      intro xv wx hf hp
      simp only [List.take_succ_cons, List.take_zero, List.drop_succ_cons, List.drop_zero, fill, List.setIfInBounds_toArray, List.set_cons_zero, List.set_cons_succ, Nat.reduceAdd, Act.put]
      rw [show live 28 (deadC [none, none, none, none, none, none, none, none, none, none, none, none, none, none, none, none, none, none, none, none, none, none, none, none, none, none, none, none]) = [0, 1, 2, 3, 4, 5, 6, 7, 8, 9, 10, 11, 12, 13, 14, 15, 16, 17, 18, 19, 20, 21, 22, 23, 24, 25, 26, 27] from by decide] at hp
      simp only [holds, nth, Is, Any, true_and, and_true] at hp
      obtain ⟨p0, p1, p2, p3, p4, p5, p6, p7, p8, p9, p10, p11, p12, p13, p14, p15, p26, p27⟩ := hp
      have h1 := H.out.fr hf (by simp)
      have F1 := Lib.hid hf
      simp only [p27]
      clear p0 p1 p2 p3 p4 p5 p6 p7 p8 p9 p10 p11 p12 p13 p14 p15 p26 k0 k2 c0 c2 hf
      go_wp2_with fail
      refine (HST.out wx h1).mono ?_
      rintro e w2 ⟨rfl, s2, hC2, f2, n2⟩
      have c2 := hC2.head.cell 2 rfl
      have fz := hC2.head.free 2
      simp only [List.getElem_toArray, List.getElem_cons_zero, List.getElem_cons_succ] at c2
      have c2' := ((Fr.refl [] w2).alloc (.cells #[.int .i64 k, .int .i64 ticks] 158)).cell c2 (by simp)
      have HC2 := Lib.hid hC2
      have HF2 := Lib.hid (And.intro f2 n2)
      clear h1 f2 n2
      have HLt := HL.out
      go_wp2_with (at_builtin; refine wpList_push rfl _ _ 151 rfl 158 i0 (.agg #[.int .i64 0, .int .i64 0]) 2 16 hun hi0 hz0 hz1 hz2 rfl (by decide) s2 (tstop l k).length (tflat (tstop l k)) rfl (own_fr hC2.own ((Fr.refl [] w2).alloc (.cells #[.int .i64 k, .int .i64 ticks] 158))) _ 1 _ rfl Src.one (by simp) (by intro u hu; simp at hu; rcases hu with rfl | rfl <;> rfl) (by unfold maxLen; omega) (by omega) ?_)
      intro s3 w3 hp
      have hp' : Pushed (w2.alloc (.cells #[.int .i64 k, .int .i64 ticks] 158)) w3 158 2 s2 s3 (tstop l k ++ [(k, ticks)]).length (tflat (tstop l k ++ [(k, ticks)])) := by
        have := hp
        rw [tflat_append, List.length_append]
        exact this
      have hC3 := HC2.out.fr ((Fr.refl [] w2).alloc (.cells #[.int .i64 k, .int .i64 ticks] 158)) (by simp)
      obtain ⟨r1, r2⟩ := hC3.reset (v := .bool true) hp'
      have hh := hC3.head.fr hp.2.1 hC3.off
      have c3 := hh.cell 2 rfl
      have fz3 := hh.free 2
      simp only [List.getElem_toArray, List.getElem_cons_zero, List.getElem_cons_succ] at c3
      have hsz := ((Fr.refl [] w2).alloc (.cells #[.int .i64 k, .int .i64 ticks] 158)).size
      have n3 := hp.2.2
      have fA := ((Fr.refl (b :: s2.blk) w2).alloc (.cells #[.int .i64 k, .int .i64 ticks] 158)).trans r2 (fun x hx => .inl hx)
      obtain ⟨f2, n2⟩ := HF2.out
      have fB : Fr (b :: s.blk) w (w3.setCell ⟨b, 2, none⟩ (.slice s3.A s3.n s3.c)) := ((F1.out.mono (M := b :: s.blk) (by simp)).tr f2).trans fA (fun x hx => by
        rcases List.mem_cons.1 hx with rfl | hx
        · exact .inl (by simp)
        · rcases n2 x hx with h1 | h1
          · exact .inl (List.mem_cons_of_mem _ h1)
          · exact .inr (Nat.le_trans F1.out.size h1))
      have nB : ∀ x ∈ s3.blk, x ∈ s.blk ∨ w.heap.size ≤ x := fun x hx => by
        rcases n3 x hx with h1 | h1
        · rcases n2 x h1 with h1 | h1
          · exact .inl h1
          · exact .inr (Nat.le_trans F1.out.size h1)
        · exact .inr (by have := F1.out.size; have := f2.size; omega)
      have HFIN := Lib.hid (And.intro r1 (And.intro fB nB))
      clear c2 c2' fz hC2 hC3 hp hp' r1 r2 hh hsz n3 fA f2 n2 fB nB
      go_wp2
      go_ret
      exact ⟨rfl, s3, HFIN.out.1, HFIN.out.2.1, HFIN.out.2.2⟩

end Go.Proofs.YtneggoonlmmjeaaGreat
namespace Go.Proofs.YtneggoonlmmjeaaGreat
open Go.RowKit Go.Shelf
set_option linter.unusedVariables false
set_option linter.unusedSimpArgs false
set_option maxRecDepth 100000

def tover (l : TL) : List Int := (l.filter (·.2 == 1)).map (·.1)
def trest (l : TL) : TL := (l.filter (·.2 != 1)).map fun x => (x.1, x.2 - 1)
theorem tover_take (l : TL) (j : Nat) (hj : j < l.length) : tover (l.take (j + 1)) = tover (l.take j) ++ if l[j].2 = 1 then [l[j].1] else [] := by
  unfold tover
  rw [List.take_succ_eq_append_getElem hj, List.filter_append, List.map_append]
  by_cases h : l[j].2 = 1 <;> simp [h]
theorem trest_take (l : TL) (j : Nat) (hj : j < l.length) : trest (l.take (j + 1)) = trest (l.take j) ++ if l[j].2 = 1 then [] else [(l[j].1, l[j].2 - 1)] := by
  unfold trest
  rw [List.take_succ_eq_append_getElem hj, List.filter_append, List.map_append]
  by_cases h : l[j].2 = 1 <;> simp [h]
theorem tover_len (l : TL) : (tover l).length ≤ l.length := by
  unfold tover
  rw [List.length_map]
  exact List.length_filter_le _ _
theorem trest_len (l : TL) : (trest l).length ≤ l.length := by
  unfold trest
  rw [List.length_map]
  exact List.length_filter_le _ _
theorem Blk.ty {w : World} {b : Nat} {cs : Array Value} {t u : TypeId} (h : Blk w b cs t) {cs' : Array Value} {f : Nat × Nat} (h' : w.heap[b]? = some (.cells cs' u f)) : t = u := by
  rw [Blk, h'] at h
  cases h
  rfl
/-- A row that lies in new blocks. -/
structure NewRow (w0 w : World) (e : TypeId) (z : Nat) (s : Sl) (n : Nat) (xs : List Value) : Prop where
  own : w.ownsRow 0 e z s.v n xs
  new : ∀ x ∈ s.blk, w0.heap.size ≤ x
theorem NewRow.nil (w0 w : World) (e : TypeId) (z : Nat) : NewRow w0 w e z Sl.nil 0 [] := ⟨World.ownsRow_nil _ _ _ _, by simp [Sl.blk, Sl.nil]⟩
theorem NewRow.fr {w0 w w' : World} {e : TypeId} {z : Nat} {s : Sl} {n : Nat} {xs : List Value} (h : NewRow w0 w e z s n xs) (f : Fr [] w w') : NewRow w0 w' e z s n xs := ⟨own_fr h.own f, h.new⟩
/-- Behind an append to another row of another type. -/
theorem NewRow.frP {w0 w w' : World} {e u : TypeId} {z : Nat} {s r : Sl} {n m : Nat} {xs ys : List Value} {y : Nat} (h : NewRow w0 w e z s n xs) (hr : w.ownsRow 0 u y r.v m ys) (hne : e ≠ u) (f : Fr r.blk w w') : NewRow w0 w' e z s n xs := by
  refine ⟨⟨h.own.1, h.own.2.imp id ?_⟩, h.new⟩
  rintro ⟨g, cap, cur, e', hg, hb, q⟩
  refine ⟨g, cap, cur, e', hg, f.keeps hb (fun hm => ?_), q⟩
  obtain ⟨_, cs, e2⟩ := own_blk hr g hm
  rw [hb] at e2
  cases e2
  exact hne rfl
theorem NewRow.push {w0 w w' : World} {e : TypeId} {z : Nat} {s s' : Sl} {n m : Nat} {xs ys : List Value} (h : NewRow w0 w e z s n xs) (f : w0.heap.size ≤ w.heap.size) (hp : Pushed w w' e z s s' m ys) : NewRow w0 w' e z s' m ys :=
  ⟨hp.1, fun x hx => by rcases hp.2.2 x hx with h1 | h1; exact h.new x h1; omega⟩
theorem NewRow.frOf {w0 w w' : World} {e : TypeId} {z : Nat} {s s' : Sl} {n m : Nat} {xs ys : List Value} (h : NewRow w0 w e z s n xs) (f : Fr [] w0 w) (hp : Pushed w w' e z s s' m ys) : Fr [] w0 w' := f.trans hp.2.1 (fun x hx => .inr (h.new x hx))

set_option maxHeartbeats 2000000 in
theorem clk_Tick (w : World) (b : Nat) (s : Sl) (most now : Int) (l : TL) (h : IsClk w b s most now l) (hl : l.length ≤ 1000) (hk : ∀ x ∈ l, 0 ≤ x.1 ∧ x.1 ≤ 100 ∧ 1 ≤ x.2 ∧ x.2 ≤ 10000) :
    Calls Tryz.prog 52 #[.pointer (some ⟨b, 0, none⟩)] w fun e w' => ∃ so s' : Sl, ∃ now', e = .returned (.slice so.A so.n so.c) ∧ NewRow w w' 3 1 so (tover l).length ((tover l).map (Value.int .i64)) ∧ IsClk w' b s' most now' (trest l) ∧ (∀ x ∈ s'.blk, w.heap.size ≤ x) ∧ Fr [b] w w' := by
  obtain ⟨i0, hi0, hz0, hz1, hz2⟩ := tim_info
  have hun : Tryz.prog.underlying 151 = some (.slice 158) := Tryz.underlying151
  obtain ⟨ji, j0, j1, j2, j3⟩ := info_parts (show (Tryz.prog.info? 3).map (fun i => (i.zero, i.size, i.bytes)) = some (some (.int .i64 0), 1, 8) by kernel_rfl)
  have ju : Tryz.prog.underlying 33 = some (.slice 3) := Tryz.underlying33
  have hn := h.n_
  have hoff := h.off
  have c1 := h.head.cell 1 rfl
  have c2 := h.head.cell 2 rfl
  have z1 := h.head.free 1
  simp only [List.getElem_toArray, List.getElem_cons_zero, List.getElem_cons_succ] at c1 c2
  obtain ⟨A, n, c⟩ := s
  simp only at hn c2
  subst hn
  obtain ⟨N, hN⟩ : ∃ N, IntKind.i64.wrap (now + 1) = N := ⟨_, rfl⟩
  have hh : Blk (w.setCell ⟨b, 1, none⟩ (.int .i64 N)) b #[.int .i64 most, .int .i64 N, .slice A l.length c] 153 := Blk.set h.head 1 _ rfl
  have fA : Fr [b] w (w.setCell ⟨b, 1, none⟩ (.int .i64 N)) := (Fr.refl [b] w).setCell _ (.inl (by simp))
  have hA : IsClk (w.setCell ⟨b, 1, none⟩ (.int .i64 N)) b ⟨A, l.length, c⟩ most N l := ⟨hh, ⟨h.own.1, h.own.2.imp id (fun ⟨g, cap, cur, e, hg, hb, q⟩ => ⟨g, cap, cur, e, hg, fA.keeps hb (fun hm => by simp at hm; exact hoff (hm ▸ blk_mem e)), q⟩)⟩, hoff⟩
  have c2' := hh.cell 2 rfl
  simp only [List.getElem_toArray, List.getElem_cons_zero, List.getElem_cons_succ] at c2'
  have HFA := Lib.hid fA
  have HA := Lib.hid hA
  clear h hh fA hA hoff
  go_enter Tryz.func52, Tryz.ntmps52
  go_wp2
  have HSZ : Hid ((w.setCell ⟨b, 1, none⟩ (.int .i64 N)).heap.size = w.heap.size) := Lib.hid (by simp [World.setCell])
  generalize hwA : w.setCell ⟨b, 1, none⟩ (.int .i64 N) = wA at *
  clear hN c1 z1 c2 hwA
  go_loopw [3, 4, 21] (fun ov lv i wr => ∃ j : Nat, ∃ so sl : Sl, ov = .slice so.A so.n so.c ∧ lv = .slice sl.A sl.n sl.c ∧ i = .int .i64 j ∧ j ≤ l.length ∧ Fr [] wA wr ∧ NewRow wA wr 3 1 so (tover (l.take j)).length ((tover (l.take j)).map (Value.int .i64)) ∧ NewRow wA wr 158 2 sl (trest (l.take j)).length (tflat (trest (l.take j)))) (fun _ _ i _ => l.length - (intOf i).toNat)
  case atStart => exact ⟨0, Sl.nil, Sl.nil, rfl, rfl, rfl, by omega, Fr.refl _ _, NewRow.nil _ _ _ _, NewRow.nil _ _ _ _⟩
  case round =>
    obtain ⟨j, so, sl, rfl, rfl, rfl, hj, fr, ho, hs⟩ := hrel
    by_cases hlt : j < l.length
    · have d1 : decide ((j : Int) < (l.length : Int)) = true := by simp; omega
      have d2 : decide (j < l.length) = true := by simp; omega
      obtain ⟨g, hg, q0, q1⟩ := (HA.out.fr fr (by simp)).at_ j hlt
      simp only at hg
      subst hg
      have hto := tover_take l j hlt
      have htr := trest_take l j hlt
      have hkx := hk _ (List.getElem_mem hlt)
      have ho1 := tover_len (l.take j)
      have hs1 := trest_len (l.take j)
      rw [List.length_take] at ho1 hs1
      generalize l[j] = x at *
      obtain ⟨x, y⟩ := x
      simp only at q0 q1 hto htr hkx
      generalize tover (l.take j) = OJ at *
      generalize trest (l.take j) = RJ at *
      by_cases hy : y = 1
      · have e1 : (y == 1) = true := by simp [hy]
        rw [if_pos hy] at hto htr
        rw [List.append_nil] at htr
        have F := Lib.hid fr
        have HO := Lib.hid ho
        have HS := Lib.hid hs
        have HTO := Lib.hid hto
        have HTR := Lib.hid htr
        have HSR : Hid (Src 1 [.int .i64 x] ((wr.alloc (.cells #[.int .i64 x, .int .i64 y] 158)).alloc (.cells #[.int .i64 x] 3)) (.slice (some ⟨wr.heap.size + 1, 0, none⟩) 1 1)) := Lib.hid (by have := Src.one (w := wr.alloc (.cells #[.int .i64 x, .int .i64 y] 158)) (cs := #[.int .i64 x]) (t := 3); rwa [World.size_alloc] at this)
        clear hy fr ho hs hto htr
        go_wp2_with (at_builtin; refine wpList_push rfl _ _ 33 rfl 3 ji (.int .i64 0) 1 8 ju j0 j1 j2 j3 rfl (by decide) so OJ.length (OJ.map (Value.int .i64)) rfl (own_fr HO.out.own (((Fr.refl [] wr).alloc (.cells #[.int .i64 x, .int .i64 y] 158)).alloc (.cells #[.int .i64 x] 3))) (.slice (some ⟨wr.heap.size + 1, 0, none⟩) 1 1) 1 [.int .i64 x] rfl HSR.out rfl (by intro u hu; simp at hu; subst hu; rfl) (by unfold maxLen; omega) (by omega) ?_)
        intro s3 w3 hp
        have f2 : Fr [] wr ((wr.alloc (.cells #[.int .i64 x, .int .i64 y] 158)).alloc (.cells #[.int .i64 x] 3)) := ((Fr.refl [] wr).alloc _).alloc _
        have ho3 := (HO.out.fr f2).push (Nat.le_trans F.out.size f2.size) hp
        have hs3 := (HS.out.fr f2).frP (HO.out.fr f2).own (by decide) hp.2.1
        have F3 := (HO.out.fr f2).frOf (F.out.tr f2) hp
        clear hp f2
        go_wp2
        go_roundw
        case rel => exact ⟨j + 1, s3, sl, rfl, rfl, by go_num, by omega, F3, by rw [HTO.out, List.length_append, List.map_append]; exact ho3, by rw [HTR.out]; exact hs3⟩
        case measure => simp [intOf]; omega
      · have e1 : (y == 1) = false := by simp [hy]
        rw [if_neg hy] at hto htr
        rw [List.append_nil] at hto
        have F := Lib.hid fr
        have HO := Lib.hid ho
        have HS := Lib.hid hs
        have HTO := Lib.hid hto
        have HTR := Lib.hid htr
        have hw : IntKind.i64.wrap (y - 1) = y - 1 := IntWalk.i64_in _ (by omega)
        have HSR : Hid (Src 1 [.int .i64 x, .int .i64 (y - 1)] ((wr.alloc (.cells #[.int .i64 x, .int .i64 y] 158)).alloc (.cells #[.int .i64 x, .int .i64 (y - 1)] 158)) (.slice (some ⟨wr.heap.size + 1, 0, none⟩) 1 1)) := Lib.hid (by have := Src.one (w := wr.alloc (.cells #[.int .i64 x, .int .i64 y] 158)) (cs := #[.int .i64 x, .int .i64 (y - 1)]) (t := 158); rwa [World.size_alloc] at this)
        clear hy fr ho hs hto htr
        go_wp2_with (at_builtin; refine wpList_push rfl _ _ 151 rfl 158 i0 (.agg #[.int .i64 0, .int .i64 0]) 2 16 hun hi0 hz0 hz1 hz2 rfl (by decide) sl RJ.length (tflat RJ) rfl (own_fr HS.out.own (((Fr.refl [] wr).alloc (.cells #[.int .i64 x, .int .i64 y] 158)).alloc (.cells #[.int .i64 x, .int .i64 (y - 1)] 158))) (.slice (some ⟨wr.heap.size + 1, 0, none⟩) 1 1) 1 [.int .i64 x, .int .i64 (y - 1)] rfl HSR.out rfl (by intro u hu; simp at hu; rcases hu with rfl | rfl <;> rfl) (by unfold maxLen; omega) (by omega) ?_)
        intro s3 w3 hp
        have f2 : Fr [] wr ((wr.alloc (.cells #[.int .i64 x, .int .i64 y] 158)).alloc (.cells #[.int .i64 x, .int .i64 (y - 1)] 158)) := ((Fr.refl [] wr).alloc _).alloc _
        have hs3 := (HS.out.fr f2).push (Nat.le_trans F.out.size f2.size) hp
        have ho3 := (HO.out.fr f2).frP (HS.out.fr f2).own (by decide) hp.2.1
        have F3 := (HS.out.fr f2).frOf (F.out.tr f2) hp
        clear hp f2
        go_wp2
        go_roundw
        case rel => exact ⟨j + 1, so, s3, rfl, rfl, by go_num, by omega, F3, by rw [HTO.out]; exact ho3, by rw [HTR.out, List.length_append, tflat_append]; exact hs3⟩
        case measure => simp [intOf]; omega
    · have d1 : decide ((j : Int) < (l.length : Int)) = false := by simp; omega
      have hjl : j = l.length := by omega
      subst hjl
      rw [List.take_length] at ho hs
      have hb : Blk wr b #[.int .i64 most, .int .i64 N, .slice A l.length c] 153 := HA.out.head.fr fr (by simp)
      have c2 := hb.cell 2 rfl
      have z2 := hb.free 2
      simp only [List.getElem_toArray, List.getElem_cons_zero, List.getElem_cons_succ] at c2
      have hset := Blk.set hb 2 (.slice sl.A sl.n sl.c) rfl
      have hwb : w.heap.size ≤ wA.heap.size := HFA.out.size
      have hbw : b < w.heap.size := by
        rcases Nat.lt_or_ge b w.heap.size with h1 | h1
        · exact h1
        · exact absurd (HA.out.head.lt) (by have := HSZ.out; omega)
      have hoff : b ∉ sl.blk := fun hm => by have := hs.new b hm; omega
      have ho' : b ∉ so.blk := fun hm => by have := ho.new b hm; omega
      have hclk : IsClk (wr.setCell ⟨b, 2, none⟩ (.slice sl.A sl.n sl.c)) b sl most N (trest l) := ⟨hset, ⟨hs.own.1, hs.own.2.imp id (fun ⟨g, cap, cur, e, hg, hb', q⟩ => ⟨g, cap, cur, e, hg, (Blk.far (t := 158) hb' (p := ⟨b, 2, none⟩) (fun e' => hoff (by have e2 : g = b := e'; rw [← e2]; exact blk_mem e)) _ : Blk _ _ _ _), q⟩)⟩, hoff⟩
      have hov : NewRow w (wr.setCell ⟨b, 2, none⟩ (.slice sl.A sl.n sl.c)) 3 1 so (tover l).length ((tover l).map (Value.int .i64)) := ⟨⟨ho.own.1, ho.own.2.imp id (fun ⟨g, cap, cur, e, hg, hb', q⟩ => ⟨g, cap, cur, e, hg, (Blk.far (t := 3) hb' (p := ⟨b, 2, none⟩) (fun e' => ho' (by have e2 : g = b := e'; rw [← e2]; exact blk_mem e)) _ : Blk _ _ _ _), q⟩)⟩, fun x hx => Nat.le_trans hwb (ho.new x hx)⟩
      have hF := ((HFA.out.tr0 fr).setCell (p := ⟨b, 2, none⟩) (.slice sl.A sl.n sl.c) (.inl (by simp)))
      have HFIN := Lib.hid (And.intro hov (And.intro hclk (And.intro (fun x hx => Nat.le_trans hwb (hs.new x hx)) hF)))
      clear ho hs hb hset hoff ho' hclk hov hF fr
      go_wp2
      go_ret
      exact ⟨so, sl, N, rfl, HFIN.out.1, HFIN.out.2.1, HFIN.out.2.2.1, HFIN.out.2.2.2⟩

end Go.Proofs.YtneggoonlmmjeaaGreat
namespace Go.Proofs.YtneggoonlmmjeaaGreat
open Go.RowKit Go.Shelf
set_option linter.unusedVariables false
set_option linter.unusedSimpArgs false
set_option maxRecDepth 100000

theorem Bts.fresh {w w' : World} {s : Sl} {l : List Int} (h : Bts w.heap.size w' s l) (hn : ∀ b ∈ s.blk, w.heap.size ≤ b) : Bts 0 w' s l :=
  ⟨h.1, fun hne b hb => by rcases h.2 hne b hb with h1 | h1; have := hn b hb; omega; exact .inr h1⟩
theorem Bts.argN {w : World} {s : Sl} {l : List Int} (h : Ints .u8 w s.v l) : Bts w.heap.size w s l := by
  refine ⟨h, fun hne b hb => .inl ?_⟩
  obtain ⟨A, hA, rfl⟩ := mem_blk hb
  rcases h with ⟨_, e⟩ | ⟨A', cap, e, hi⟩
  · exact absurd e hne
  · cases s
    simp only [Sl.v, Value.slice.injEq] at e
    simp only at hA
    rw [hA] at e
    have e1 : A = A' := by simpa using e.1
    subst e1
    obtain ⟨b, off, x, hA2, hc, _⟩ := hi.at_ 0 (List.length_pos_iff.2 hne)
    cases hA2
    exact World.block_lt_of_cell? _ _ hc
theorem b_Clone (w : World) (s : Sl) (l : List Int) (h : Ints .u8 w s.v l) (hl : l.length ≤ 100000) :
    Calls Tryz.prog 96 #[.slice s.A s.n s.c] w fun e w' => ∃ s' : Sl, e = .returned (.slice s'.A s'.n s'.c) ∧ Bts 0 w' s' l ∧ Fr [] w w' := by
  refine (bytes_Clone w w.heap.size s l (Bts.argN h) hl).mono ?_
  rintro e w' ⟨s', rfl, hb, hn, f⟩
  exact ⟨s', rfl, hb.fresh hn, f⟩

def repB (w : World) (cs : List Value) (l : List Int) : Prop := ∃ s : Sl, cs = [.slice s.A s.n s.c] ∧ Bts 0 w s l
/-- A row of rows of bytes. -/
def BRow (s : Sl) (l : List (List Int)) (w : World) : Prop := RowG 49 1 repB 0 w s l
theorem BRow.fr {s : Sl} {l : List (List Int)} {w w' : World} (f : Fr [] w w') (h : BRow s l w) : BRow s l w' := RowG.fr (fun _ _ ⟨s, e, hb⟩ => ⟨s, e, hb.fr f⟩) h f
theorem BRow.frL {s : Sl} {l : List (List Int)} {w w' : World} {L : List Nat} (h : BRow s l w) (f : Fr L w w') (hL : ∀ x ∈ L, ∀ cs fz, w.heap[x]? ≠ some (.cells cs 5 fz)) (hn : ∀ b ∈ s.blk, b ∉ L) : BRow s l w' :=
  RowG.frL h f hn fun _ _ ⟨s, e, hb⟩ => ⟨s, e, hb.frL f fun x hx => ⟨Nat.zero_le _, hL x hx⟩⟩
theorem BRow.off {s : Sl} {l : List (List Int)} {w : World} (h : BRow s l w) : ∀ x ∈ s.blk, ∀ cs fz, w.heap[x]? ≠ some (.cells cs 5 fz) := by
  intro x hx cs' fz e
  obtain ⟨_, cs, h2⟩ := RowG.blk h x hx
  rw [h2] at e
  cases e
theorem BRow.push {w w' : World} {s s' : Sl} {l : List (List Int)} {xs : List (List Value)} {sx : Sl} {x : List Int} (h2 : All2 (repB w) xs l) (h3 : ∀ x ∈ xs, x.length = 1) (hp : Pushed w w' 49 1 s s' (l.length + 1) (xs.flatten ++ [.slice sx.A sx.n sx.c])) (ho : ∀ x ∈ s.blk, ∀ cs fz, w.heap[x]? ≠ some (.cells cs 5 fz)) (hx : Bts 0 w sx x) : BRow s' (l ++ [x]) w' := by
  have hr : ∀ {t : Sl} {y : List Int}, Bts 0 w t y → Bts 0 w' t y := fun h => h.frL hp.2.1 fun x hx => ⟨Nat.zero_le _, ho x hx⟩
  exact RowG.push h2 h3 hp.1 (fun cs d ⟨t, e, hb⟩ => ⟨t, e, hr hb⟩) rfl ⟨sx, rfl, hr hx⟩

/-- Block q is a queue. -/
structure IsQue (w : World) (q : Nat) (s : Sl) (most : Int) (l : List (List Int)) : Prop where
  head : Blk w q #[.int .i64 most, .slice s.A s.n s.c] 184
  row : BRow s l w
  off : q ∉ s.blk
theorem Blk.noU {w : World} {b : Nat} {cs : Array Value} {t : TypeId} (h : Blk w b cs t) (ht : t ≠ 5) : ∀ cs fz, w.heap[b]? ≠ some (.cells cs 5 fz) := Blk.noB h ht
theorem IsQue.fr {w w' : World} {q : Nat} {s : Sl} {most : Int} {l : List (List Int)} {L : List Nat} (h : IsQue w q s most l) (f : Fr L w w') (hL : ∀ x ∈ q :: s.blk, x ∉ L) (hU : ∀ x ∈ L, ∀ cs fz, w.heap[x]? ≠ some (.cells cs 5 fz)) : IsQue w' q s most l :=
  ⟨h.head.fr f (hL q (by simp)), h.row.frL f hU (fun b hb => hL b (List.mem_cons_of_mem _ hb)), h.off⟩
theorem IsQue.fr0 {w w' : World} {q : Nat} {s : Sl} {most : Int} {l : List (List Int)} (h : IsQue w q s most l) (f : Fr [] w w') : IsQue w' q s most l := h.fr f (by simp) (by simp)
theorem IsQue.n_ {w : World} {q : Nat} {s : Sl} {most : Int} {l : List (List Int)} (h : IsQue w q s most l) : s.n = l.length := RowG.n h.row
theorem IsQue.c1 {w : World} {q : Nat} {s : Sl} {most : Int} {l : List (List Int)} (h : IsQue w q s most l) : w.cell? ⟨q, 1, none⟩ = some (.slice s.A l.length s.c) := by rw [← h.n_]; exact h.head.cell 1 rfl
def QueTo (w w' : World) (q : Nat) (s : Sl) (most : Int) (l : List (List Int)) : Prop := ∃ s' : Sl, IsQue w' q s' most l ∧ Fr (q :: s.blk) w w' ∧ ∀ x ∈ s'.blk, x ∈ s.blk ∨ w.heap.size ≤ x

theorem que_New (w : World) (n : Int) (h0 : 0 ≤ n) (h1 : n ≤ 1000) :
    Calls Tryz.prog 91 #[.int .i64 n] w fun e w' => ∃ b, e = .returned (.pointer (some ⟨b, 0, none⟩)) ∧ IsQue w' b Sl.nil n [] ∧ w.heap.size ≤ b ∧ Fr [] w w' := by
  have hb := Blk.new w #[.int .i64 n, .slice none 0 0] 184
  have hmax : max n 0 = n := by omega
  have F := (Fr.refl [] w).alloc (.cells #[.int .i64 n, .slice none 0 0] 184)
  have H := Lib.hid (And.intro hb F)
  clear hb F
  go_enter Tryz.func91, Tryz.ntmps91
  go_wp2
  go_ret
  exact ⟨_, rfl, ⟨H.out.1, RowG.nil, by simp [Sl.blk, Sl.nil]⟩, Nat.le_refl _, H.out.2⟩

theorem que_items (w : World) (q : Nat) (s : Sl) (most : Int) (l : List (List Int)) (h : IsQue w q s most l) :
    Calls Tryz.prog 171 #[.pointer (some ⟨q, 0, none⟩)] w fun e w' => e = .returned (.slice s.A l.length s.c) ∧ w = w' := by
  have c1 := h.c1
  go_enter Tryz.func171, Tryz.ntmps171
  go_wp2
  go_ret
  exact ⟨rfl, rfl⟩

theorem que_Len (w : World) (q : Nat) (s : Sl) (most : Int) (l : List (List Int)) (h : IsQue w q s most l) :
    Calls Tryz.prog 106 #[.pointer (some ⟨q, 0, none⟩)] w fun e w' => e = .returned (.int .i64 l.length) ∧ w = w' := by
  go_enter Tryz.func106, Tryz.ntmps106
  go_wp2_with fail
  refine (que_items w q s most l h).mono ?_
  rintro e w' ⟨rfl, rfl⟩
  go_wp2
  go_ret
  exact ⟨rfl, rfl⟩

theorem bb_info : ∃ i0 : TypeInfo, Tryz.prog.info? 49 = some i0 ∧ i0.zero = some (.slice none 0 0) ∧ i0.size = 1 ∧ i0.bytes = 24 :=
  info_parts (show (Tryz.prog.info? 49).map (fun i => (i.zero, i.size, i.bytes)) = some (some (.slice none 0 0), 1, 24) by kernel_rfl)

set_option maxHeartbeats 2000000 in
theorem sl_Insert (w : World) (s : Sl) (n : Nat) (xs : List Value) (v : Value) (g : Nat) (hown : w.ownsRow 0 49 1 s.v n xs) (hsrc : Src 1 [v] w (.slice (some ⟨g, 0, none⟩) 1 1)) (hv : v.oneCell' = true) (hn : n ≤ 1000) :
    Calls Tryz.prog 215 #[.slice s.A s.n s.c, .int .i64 n, .slice (some ⟨g, 0, none⟩) 1 1] w fun e w' => ∃ s' : Sl, e = .returned (.slice s'.A s'.n s'.c) ∧ Pushed w w' 49 1 s s' (n + 1) (xs ++ [v]) := by
  obtain ⟨i0, hi0, hz0, hz1, hz2⟩ := bb_info
  have hun : Tryz.prog.underlying 34 = some (.slice 49) := Tryz.underlying34
  have hsn := own_n hown
  obtain ⟨A, n', c⟩ := s
  simp only at hsn
  subst hsn
  have HO := Lib.hid hown
  have hcap : n' ≤ c := by
    obtain ⟨A', c', e, h1⟩ := own_cap hown
    simp only [Sl.v, Value.slice.injEq] at e
    omega
  clear hown
  go_enter Tryz.func215, Tryz.ntmps215
  go_wp2_with (at_builtin; refine wpList_push rfl _ _ 34 rfl 49 i0 (.slice none 0 0) 1 24 hun hi0 hz0 hz1 hz2 rfl (by decide) ⟨A, n', c⟩ n' xs rfl HO.out (.slice (some ⟨g, 0, none⟩) 1 1) 1 [v] rfl hsrc rfl (by intro u hu; simp at hu; subst hu; exact hv) (by unfold maxLen; omega) (by omega) ?_)
  all_goals
    intro s' w' hp
    have HP := Lib.hid hp
    clear hp
    go_wp2
    go_ret
    exact ⟨s', rfl, HP.out⟩

set_option maxHeartbeats 2000000 in
theorem que_Insert (w : World) (q : Nat) (s sx : Sl) (most : Int) (l : List (List Int)) (x : List Int) (h : IsQue w q s most l) (hx : Bts 0 w sx x) (hl : (l.length : Int) < most) (hm : most ≤ 1000) :
    Calls Tryz.prog 165 #[.pointer (some ⟨q, 0, none⟩), .int .i64 l.length, .slice sx.A sx.n sx.c] w fun e w' => e = .returned (.bool true) ∧ QueTo w w' q s most (l ++ [x]) := by
  have c0 := h.head.cell 0 rfl
  have c1 := h.c1
  have hn := h.n_
  simp only [List.getElem_toArray, List.getElem_cons_zero, List.getElem_cons_succ] at c0
  have d1 : decide (most ≤ (l.length : Int)) = false := by simp; omega
  have d2 : decide ((l.length : Int) < 0) = false := by simp
  have H := Lib.hid h
  have HX := Lib.hid hx
  clear h hx
  go_enter Tryz.func165, Tryz.ntmps165
  go_wp2
  go_quiet (fail)
  have HD := Lib.hid (H.out.fr0 ((Fr.refl [] w).drewN nq))
  have HXD := Lib.hid (HX.out.fr ((Fr.refl [] w).drewN nq))
  have FD := Lib.hid ((Fr.refl [] w).drewN nq)
  have c1 := HD.out.c1
  generalize w.drewN nq = w1 at *
  have hb := Blk.new w1 #[.slice sx.A sx.n sx.c] 49
  have f1 := (Fr.refl [] w1).alloc (.cells #[.slice sx.A sx.n sx.c] 49)
  obtain ⟨xs, ho, h2, h3⟩ := (HD.out.fr0 f1).row
  have HR := Lib.hid (And.intro h2 h3)
  rw [← hn] at ho
  have hI := sl_Insert _ s l.length xs.flatten (.slice sx.A sx.n sx.c) w1.heap.size (by rw [← hn]; exact ho) (Src.one (w := w1) (cs := #[.slice sx.A sx.n sx.c]) (t := 49)) rfl (by omega)
  rw [hn] at hI
  clear c0 hb ho h2 h3
  go_wp2_with fail
  refine hI.mono ?_
  rintro e w2 ⟨s', rfl, hp⟩
  have hh := (HD.out.fr0 f1).head.fr hp.2.1 HD.out.off
  have c1' := hh.cell 1 rfl
  have z1 := hh.free 1
  simp only [List.getElem_toArray, List.getElem_cons_zero, List.getElem_cons_succ] at c1'
  have hU := (HD.out.fr0 f1).row.off
  have hrow : BRow s' (l ++ [x]) w2 := BRow.push HR.out.1 HR.out.2 hp hU (HXD.out.fr f1)
  have hqs : q ∉ s'.blk := fun hm => by
    rcases hp.2.2 q hm with h1 | h1
    · exact HD.out.off h1
    · have := HD.out.head.lt; have := f1.size; omega
  have F2 : Fr (q :: s.blk) w (w2.setCell ⟨q, 1, none⟩ (.slice s'.A s'.n s'.c)) := ((((FD.out.tr f1).mono (M := q :: s.blk) (by simp)).trans hp.2.1 (fun y hy => .inl (List.mem_cons_of_mem _ hy))).setCell _ (.inl (by simp)))
  have hN : ∀ y ∈ s'.blk, y ∈ s.blk ∨ w.heap.size ≤ y := fun y hy => by
    rcases hp.2.2 y hy with h1 | h1
    · exact .inl h1
    · exact .inr (by have := FD.out.size; have := f1.size; omega)
  have hF : QueTo w (w2.setCell ⟨q, 1, none⟩ (.slice s'.A s'.n s'.c)) q s most (l ++ [x]) := by
    have fs : Fr [q] w2 (w2.setCell ⟨q, 1, none⟩ (.slice s'.A s'.n s'.c)) := (Fr.refl [q] w2).setCell _ (.inl (by simp))
    exact ⟨s', ⟨Blk.set hh 1 _ rfl, hrow.frL fs (fun y hy => by simp at hy; subst hy; exact Blk.noU hh (by decide)) (fun b hb hm => by simp at hm; subst hm; exact hqs hb), hqs⟩, F2, hN⟩
  have HFIN := Lib.hid hF
  clear hI hp hh hU hrow hqs F2 hN hF f1
  go_wp2
  go_ret
  exact ⟨rfl, HFIN.out⟩

theorem que_Insert_full (w : World) (q : Nat) (s sx : Sl) (most : Int) (l : List (List Int)) (h : IsQue w q s most l) (hl : most ≤ (l.length : Int)) (i : Int) :
    Calls Tryz.prog 165 #[.pointer (some ⟨q, 0, none⟩), .int .i64 i, .slice sx.A sx.n sx.c] w fun e w' => e = .returned (.bool false) ∧ Fr [] w w' := by
  have c0 := h.head.cell 0 rfl
  have c1 := h.c1
  simp only [List.getElem_toArray, List.getElem_cons_zero, List.getElem_cons_succ] at c0
  have d1 : decide (most ≤ (l.length : Int)) = true := by simp; omega
  clear h
  go_enter Tryz.func165, Tryz.ntmps165
  go_wp2
  go_quiet (fail)
  go_wp2
  go_ret
  exact ⟨rfl, (Fr.refl [] w).drewN nq⟩

theorem que_Put (w : World) (q : Nat) (s sx : Sl) (most : Int) (l : List (List Int)) (x : List Int) (h : IsQue w q s most l) (hx : Bts 0 w sx x) (hl : (l.length : Int) < most) (hm : most ≤ 1000) :
    Calls Tryz.prog 95 #[.pointer (some ⟨q, 0, none⟩), .slice sx.A sx.n sx.c] w fun e w' => e = .returned (.bool true) ∧ QueTo w w' q s most (l ++ [x]) := by
  go_enter Tryz.func95, Tryz.ntmps95
  go_wp2_with fail
  refine (que_Len w q s most l h).mono ?_
  rintro e w1 ⟨rfl, rfl⟩
  go_wp2_with fail
  refine (que_Insert w q s sx most l x h hx hl hm).mono ?_
  rintro e w1 ⟨rfl, h1⟩
  go_wp2
  go_ret
  exact ⟨rfl, h1⟩
theorem que_Put_full (w : World) (q : Nat) (s sx : Sl) (most : Int) (l : List (List Int)) (h : IsQue w q s most l) (hl : most ≤ (l.length : Int)) :
    Calls Tryz.prog 95 #[.pointer (some ⟨q, 0, none⟩), .slice sx.A sx.n sx.c] w fun e w' => e = .returned (.bool false) ∧ Fr [] w w' := by
  go_enter Tryz.func95, Tryz.ntmps95
  go_wp2_with fail
  refine (que_Len w q s most l h).mono ?_
  rintro e w1 ⟨rfl, rfl⟩
  go_wp2_with fail
  refine (que_Insert_full w q s sx most l h hl _).mono ?_
  rintro e w1 ⟨rfl, h1⟩
  go_wp2
  go_ret
  exact ⟨rfl, h1⟩

theorem BRow.at_ {w : World} {s : Sl} {l : List (List Int)} (h : BRow s l w) (i : Nat) (hi : i < l.length) : ∃ g sx, s.A = some ⟨g, 0, none⟩ ∧ w.cell? ⟨g, i, none⟩ = some (.slice sx.A sx.n sx.c) ∧ Bts 0 w sx l[i] := by
  obtain ⟨b, x, hA, hz, ⟨sd, rfl, hb⟩, hc⟩ := RowG.get h (List.getElem?_eq_getElem hi)
  exact ⟨b, sd, hA, by have := hc 0 (by omega); simpa using this, hb⟩

theorem que_Peek (w : World) (q : Nat) (s : Sl) (most : Int) (l : List (List Int)) (h : IsQue w q s most l) (i : Nat) (hi : i < l.length) (hl : l.length ≤ 1000) :
    Calls Tryz.prog 235 #[.pointer (some ⟨q, 0, none⟩), .int .i64 i] w fun e w' => ∃ sx : Sl, e = .returned (.tuple #[.slice sx.A sx.n sx.c, .bool true]) ∧ Bts 0 w' sx l[i] ∧ Fr [] w w' := by
  have c1 := h.c1
  obtain ⟨g, sx, hA, cx, hx⟩ := h.row.at_ i hi
  have hn := h.n_
  have d1 : decide ((i : Int) < 0) = false := by simp
  have d2 : decide ((l.length : Int) ≤ (i : Int)) = false := by simp; omega
  have d3 : decide (i < l.length) = true := by simp; omega
  rw [hA] at c1
  have H := Lib.hid h
  have HX := Lib.hid hx
  clear h hx hA hn
  go_enter Tryz.func235, Tryz.ntmps235
  go_wp2_with fail
  refine (que_Len w q s most l H.out).mono ?_
  rintro e w1 ⟨rfl, rfl⟩
  go_wp2
  go_ret2
  exact ⟨sx, rfl, HX.out, Fr.refl _ _⟩
theorem que_Peek_no (w : World) (q : Nat) (s : Sl) (most : Int) (l : List (List Int)) (h : IsQue w q s most l) (i : Nat) (hi : l.length ≤ i) :
    Calls Tryz.prog 235 #[.pointer (some ⟨q, 0, none⟩), .int .i64 i] w fun e w' => e = .returned (.tuple #[.slice none 0 0, .bool false]) ∧ w = w' := by
  have d1 : decide ((i : Int) < 0) = false := by simp
  have d2 : decide ((l.length : Int) ≤ (i : Int)) = true := by simp; omega
  go_enter Tryz.func235, Tryz.ntmps235
  go_wp2_with fail
  refine (que_Len w q s most l h).mono ?_
  rintro e w1 ⟨rfl, rfl⟩
  go_wp2
  go_ret2
  exact ⟨rfl, rfl⟩

theorem que_Cut0 (w : World) (q : Nat) (s : Sl) (most : Int) (h : IsQue w q s most []) :
    Calls Tryz.prog 228 #[.pointer (some ⟨q, 0, none⟩), .int .i64 0] w fun e w' => e = .returned (.int .i64 0) ∧ w = w' := by
  go_enter Tryz.func228, Tryz.ntmps228
  go_wp2_with fail
  refine (que_Len w q s most [] h).mono ?_
  rintro e w1 ⟨rfl, rfl⟩
  go_wp2
  go_ret
  exact ⟨rfl, rfl⟩

/-- Block k is a queue, and how many of it are out. -/
structure IsBack (w : World) (k q : Nat) (s : Sl) (most out : Int) (l : List (List Int)) : Prop where
  back : Blk w k #[.pointer (some ⟨q, 0, none⟩), .int .i64 out] 150
  que : IsQue w q s most l
  kq : k ≠ q
  ks : k ∉ s.blk
theorem IsBack.fr {w w' : World} {k q : Nat} {s : Sl} {most out : Int} {l : List (List Int)} {L : List Nat} (h : IsBack w k q s most out l) (f : Fr L w w') (hL : ∀ x ∈ k :: q :: s.blk, x ∉ L) (hU : ∀ x ∈ L, ∀ cs fz, w.heap[x]? ≠ some (.cells cs 5 fz)) : IsBack w' k q s most out l :=
  ⟨h.back.fr f (hL k (by simp)), h.que.fr f (fun x hx => hL x (List.mem_cons_of_mem _ hx)) hU, h.kq, h.ks⟩
theorem IsBack.fr0 {w w' : World} {k q : Nat} {s : Sl} {most out : Int} {l : List (List Int)} (h : IsBack w k q s most out l) (f : Fr [] w w') : IsBack w' k q s most out l := h.fr f (by simp) (by simp)
theorem IsBack.c0 {w : World} {k q : Nat} {s : Sl} {most out : Int} {l : List (List Int)} (h : IsBack w k q s most out l) : w.cell? ⟨k, 0, none⟩ = some (.pointer (some ⟨q, 0, none⟩)) := h.back.cell 0 rfl
theorem IsBack.c1 {w : World} {k q : Nat} {s : Sl} {most out : Int} {l : List (List Int)} (h : IsBack w k q s most out l) : w.cell? ⟨k, 1, none⟩ = some (.int .i64 out) := h.back.cell 1 rfl
/-- What a queue with what is out turns to. -/
def BackTo (w w' : World) (k q : Nat) (s : Sl) (most out : Int) (l : List (List Int)) : Prop := ∃ s' : Sl, IsBack w' k q s' most out l ∧ Fr (k :: q :: s.blk) w w' ∧ ∀ x ∈ s'.blk, x ∈ s.blk ∨ w.heap.size ≤ x

theorem back_New (w : World) (n : Int) (h0 : 0 ≤ n) (h1 : n ≤ 1000) :
    Calls Tryz.prog 43 #[.int .i64 n] w fun e w' => ∃ k q, e = .returned (.pointer (some ⟨k, 0, none⟩)) ∧ IsBack w' k q Sl.nil n 0 [] ∧ w.heap.size ≤ k ∧ w.heap.size ≤ q ∧ Fr [] w w' := by
  go_enter Tryz.func43, Tryz.ntmps43
  go_wp2_with fail
  refine (que_New w n h0 h1).mono ?_
  rintro e w1 ⟨q, rfl, hq, hqn, f1⟩
  have hb := Blk.new w1 #[.pointer (some ⟨q, 0, none⟩), .int .i64 0] 150
  have f2 := (Fr.refl [] w1).alloc (.cells #[.pointer (some ⟨q, 0, none⟩), .int .i64 0] 150)
  have hql := hq.head.lt
  have hs1 := f1.size
  have HFIN := Lib.hid (And.intro (IsBack.mk hb (hq.fr0 f2) (by omega) (by simp [Sl.blk, Sl.nil])) (f1.tr f2))
  clear hb f2 hq f1
  go_wp2
  go_ret
  exact ⟨_, q, rfl, HFIN.out.1, hs1, hqn, HFIN.out.2⟩

theorem back_row (w : World) (k q : Nat) (s : Sl) (most out : Int) (l : List (List Int)) (h : IsBack w k q s most out l) :
    Calls Tryz.prog 94 #[.pointer (some ⟨k, 0, none⟩)] w fun e w' => e = .returned (.pointer (some ⟨q, 0, none⟩)) ∧ w = w' := by
  have c0 := h.c0
  go_enter Tryz.func94, Tryz.ntmps94
  go_wp2
  go_ret
  exact ⟨rfl, rfl⟩
theorem back_Len (w : World) (k q : Nat) (s : Sl) (most out : Int) (l : List (List Int)) (h : IsBack w k q s most out l) :
    Calls Tryz.prog 65 #[.pointer (some ⟨k, 0, none⟩)] w fun e w' => e = .returned (.int .i64 l.length) ∧ w = w' := by
  go_enter Tryz.func65, Tryz.ntmps65
  go_wp2_with fail
  refine (back_row w k q s most out l h).mono ?_
  rintro e w1 ⟨rfl, rfl⟩
  go_wp2_with fail
  refine (que_Len w q s most l h.que).mono ?_
  rintro e w1 ⟨rfl, rfl⟩
  go_wp2
  go_ret
  exact ⟨rfl, rfl⟩
theorem back_Out (w : World) (k q : Nat) (s : Sl) (most out : Int) (l : List (List Int)) (h : IsBack w k q s most out l) :
    Calls Tryz.prog 66 #[.pointer (some ⟨k, 0, none⟩)] w fun e w' => e = .returned (.int .i64 out) ∧ w = w' := by
  have c1 := h.c1
  go_enter Tryz.func66, Tryz.ntmps66
  go_wp2
  go_ret
  exact ⟨rfl, rfl⟩

theorem back_Put (w : World) (k q : Nat) (s sx : Sl) (most out : Int) (l : List (List Int)) (x : List Int) (h : IsBack w k q s most out l) (hx : Ints .u8 w sx.v x) (hxl : x.length ≤ 100000) (hl : (l.length : Int) < most) (hm : most ≤ 1000) :
    Calls Tryz.prog 57 #[.pointer (some ⟨k, 0, none⟩), .slice sx.A sx.n sx.c] w fun e w' => e = .returned (.bool true) ∧ BackTo w w' k q s most out (l ++ [x]) := by
  go_enter Tryz.func57, Tryz.ntmps57
  go_wp2_with fail
  refine (back_row w k q s most out l h).mono ?_
  rintro e w1 ⟨rfl, rfl⟩
  go_wp2_with fail
  refine (b_Clone w sx x hx hxl).mono ?_
  rintro e w1 ⟨s1, rfl, h1, f1⟩
  have hb1 := h.fr0 f1
  go_wp2_with fail
  refine (que_Put w1 q s s1 most l x hb1.que h1 hl hm).mono ?_
  rintro e w2 ⟨rfl, s2, hq2, f2, n2⟩
  have hk : k ∉ q :: s.blk := fun hm => by rcases List.mem_cons.1 hm with e | hm; exact h.kq e; exact h.ks hm
  have hks : k ∉ s2.blk := fun hm => by
    rcases n2 k hm with h3 | h3
    · exact h.ks h3
    · have := hb1.back.lt; omega
  have HFIN := Lib.hid (And.intro (IsBack.mk (hb1.back.fr f2 hk) hq2 h.kq hks) (And.intro ((f1.mono (M := k :: q :: s.blk) (by simp)).trans f2 (fun y hy => .inl (List.mem_cons_of_mem _ hy))) (fun y hy => show y ∈ s.blk ∨ w.heap.size ≤ y from (n2 y hy).imp id (fun h4 => Nat.le_trans f1.size h4))))
  clear hb1 h1 hq2 f2 n2 f1 hk hks
  go_wp2
  go_ret
  exact ⟨rfl, s2, HFIN.out.1, HFIN.out.2.1, HFIN.out.2.2⟩
theorem back_Put_full (w : World) (k q : Nat) (s sx : Sl) (most out : Int) (l : List (List Int)) (x : List Int) (h : IsBack w k q s most out l) (hx : Ints .u8 w sx.v x) (hxl : x.length ≤ 100000) (hl : most ≤ (l.length : Int)) :
    Calls Tryz.prog 57 #[.pointer (some ⟨k, 0, none⟩), .slice sx.A sx.n sx.c] w fun e w' => e = .returned (.bool false) ∧ Fr [] w w' := by
  go_enter Tryz.func57, Tryz.ntmps57
  go_wp2_with fail
  refine (back_row w k q s most out l h).mono ?_
  rintro e w1 ⟨rfl, rfl⟩
  go_wp2_with fail
  refine (b_Clone w sx x hx hxl).mono ?_
  rintro e w1 ⟨s1, rfl, h1, f1⟩
  go_wp2_with fail
  refine (que_Put_full w1 q s s1 most l (h.fr0 f1).que hl).mono ?_
  rintro e w2 ⟨rfl, f2⟩
  have F := f1.tr f2
  clear h1 f1 f2
  go_wp2
  go_ret
  exact ⟨rfl, F⟩

theorem back_Again (w : World) (k q : Nat) (s : Sl) (most out : Int) (l : List (List Int)) (h : IsBack w k q s most out l) :
    Calls Tryz.prog 209 #[.pointer (some ⟨k, 0, none⟩)] w fun e w' => e = .returned (.int .i64 out) ∧ IsBack w' k q s most 0 l ∧ Fr [k] w w' := by
  have c1 := h.c1
  have z1 := h.back.free 1
  have hk : k ∉ q :: s.blk := fun hm => by rcases List.mem_cons.1 hm with e | hm; exact h.kq e; exact h.ks hm
  have f1 : Fr [k] w (w.setCell ⟨k, 1, none⟩ (.int .i64 0)) := (Fr.refl [k] w).setCell _ (.inl (by simp))
  have HFIN := Lib.hid (And.intro (IsBack.mk (Blk.set h.back 1 (.int .i64 0) rfl) (h.que.fr f1 (fun x hx hm => by simp at hm; subst hm; exact hk hx) (fun y hy => by simp at hy; subst hy; exact Blk.noU h.back (by decide))) h.kq h.ks) f1)
  have H := Lib.hid h
  clear h hk f1
  go_enter Tryz.func209, Tryz.ntmps209
  go_wp2_with fail
  refine (back_Out w k q s most out l H.out).mono ?_
  rintro e w1 ⟨rfl, rfl⟩
  go_wp2
  go_ret
  exact ⟨rfl, HFIN.out.1, HFIN.out.2⟩

theorem back_Clear0 (w : World) (k q : Nat) (s : Sl) (most out : Int) (h : IsBack w k q s most out []) :
    Calls Tryz.prog 195 #[.pointer (some ⟨k, 0, none⟩)] w fun e w' => e = .returned (.int .i64 0) ∧ IsBack w' k q s most 0 [] ∧ Fr [k] w w' := by
  go_enter Tryz.func195, Tryz.ntmps195
  go_wp2_with fail
  refine (back_Again w k q s most out [] h).mono ?_
  rintro e w1 ⟨rfl, h1, f1⟩
  go_wp2_with fail
  refine (back_row w1 k q s most 0 [] h1).mono ?_
  rintro e w2 ⟨rfl, rfl⟩
  go_wp2_with fail
  refine (back_Len w1 k q s most 0 [] h1).mono ?_
  rintro e w2 ⟨rfl, rfl⟩
  go_wp2_with fail
  refine (que_Cut0 w1 q s most h1.que).mono ?_
  rintro e w2 ⟨rfl, rfl⟩
  go_wp2
  go_ret
  exact ⟨rfl, h1, f1⟩

set_option maxHeartbeats 1000000 in
theorem back_Next (w : World) (k q : Nat) (s : Sl) (most : Int) (o : Nat) (l : List (List Int)) (h : IsBack w k q s most o l) (ho : o < l.length) (hl : l.length ≤ 1000) (hx : l[o].length ≤ 100000) :
    Calls Tryz.prog 212 #[.pointer (some ⟨k, 0, none⟩)] w fun e w' => ∃ sx : Sl, e = .returned (.tuple #[.slice sx.A sx.n sx.c, .bool true]) ∧ Bts 0 w' sx l[o] ∧ IsBack w' k q s most ((o : Int) + 1) l ∧ Fr [k] w w' := by
  have ow : IntKind.i64.wrap ((o : Int) + 1) = (o : Int) + 1 := IntWalk.i64_in _ (by omega)
  go_enter Tryz.func212, Tryz.ntmps212
  go_wp2_with fail
  refine (back_row w k q s most o l h).mono ?_
  rintro e w1 ⟨rfl, rfl⟩
  go_wp2_with fail
  refine (back_Out w k q s most o l h).mono ?_
  rintro e w1 ⟨rfl, rfl⟩
  go_wp2_with fail
  refine (que_Peek w q s most l h.que o ho hl).mono ?_
  rintro e w1 ⟨sx, rfl, hb, f1⟩
  have h1 := h.fr0 f1
  have c1 := h1.c1
  have z1 := h1.back.free 1
  have hk : k ∉ q :: s.blk := fun hm => by rcases List.mem_cons.1 hm with e | hm; exact h.kq e; exact h.ks hm
  have f2 : Fr [k] w1 (w1.setCell ⟨k, 1, none⟩ (.int .i64 ((o : Int) + 1))) := (Fr.refl [k] w1).setCell _ (.inl (by simp))
  have hU : ∀ y ∈ [k], ∀ cs fz, w1.heap[y]? ≠ some (.cells cs 5 fz) := fun y hy => by simp at hy; subst hy; exact Blk.noU h1.back (by decide)
  have HFIN := Lib.hid (And.intro (IsBack.mk (Blk.set h1.back 1 (.int .i64 ((o : Int) + 1)) rfl) (h1.que.fr f2 (fun x hx hm => by simp at hm; subst hm; exact hk hx) hU) h.kq h.ks) (And.intro ((f1.mono (M := [k]) (by simp)).tr f2) (hb.frL f2 (fun y hy => ⟨Nat.zero_le _, hU y hy⟩))))
  have H := Lib.hid h
  clear h h1 hk f1 f2 hU hb
  go_wp2_with fail
  refine (b_Clone _ sx l[o] HFIN.out.2.2.1 hx).mono ?_
  rintro e w3 ⟨s3, rfl, hb3, f3⟩
  have HF3 := Lib.hid (And.intro hb3 (And.intro (HFIN.out.1.fr0 f3) (HFIN.out.2.1.tr0 f3)))
  clear hb3 f3 c1 z1
  go_wp2
  go_ret2
  exact ⟨s3, rfl, HF3.out.1, HF3.out.2.1, HF3.out.2.2⟩
theorem back_Next_no (w : World) (k q : Nat) (s : Sl) (most : Int) (l : List (List Int)) (h : IsBack w k q s most (l.length : Int) l) :
    Calls Tryz.prog 212 #[.pointer (some ⟨k, 0, none⟩)] w fun e w' => ∃ sx : Sl, e = .returned (.tuple #[.slice sx.A sx.n sx.c, .bool false]) ∧ Fr [] w w' := by
  go_enter Tryz.func212, Tryz.ntmps212
  go_wp2_with fail
  refine (back_row w k q s most _ l h).mono ?_
  rintro e w1 ⟨rfl, rfl⟩
  go_wp2_with fail
  refine (back_Out w k q s most _ l h).mono ?_
  rintro e w1 ⟨rfl, rfl⟩
  go_wp2_with fail
  refine (que_Peek_no w q s most l h.que l.length (Nat.le_refl _)).mono ?_
  rintro e w1 ⟨rfl, rfl⟩
  go_wp2_with fail
  refine (b_Clone w Sl.nil [] (Ints.nil _ _) (by simp)).mono ?_
  rintro e w3 ⟨s3, rfl, hb3, f3⟩
  clear hb3
  go_wp2
  go_ret2
  exact ⟨s3, rfl, f3⟩

end Go.Proofs.YtneggoonlmmjeaaGreat
namespace Go.Proofs.YtneggoonlmmjeaaGreat
open Go.RowKit Go.Shelf
set_option linter.unusedVariables false
set_option linter.unusedSimpArgs false
set_option maxRecDepth 100000

theorem grid_some (v : Value) (w : World) :
    Calls Tryz.prog 142 #[v] w fun e w' => e = .returned v ∧ w = w' := by
  go_enter Tryz.func142, Tryz.ntmps142
  go_wp2
  go_ret
  exact ⟨rfl, rfl⟩

theorem isnil_i (A : Addr) (n c : Nat) (w : World) : (binOp BinOp.eql 33 (Value.slice (some A) n c) (Value.slice none 0 0)).run Tryz.prog w = .ok (.bool false) w := by kernel_rfl
theorem isnil_i0 (w : World) : (binOp BinOp.eql 33 (Value.slice none 0 0) (Value.slice none 0 0)).run Tryz.prog w = .ok (.bool true) w := by kernel_rfl
attribute [local go_sem] isnil_i isnil_i0

theorem ints_info : ∃ i0 : TypeInfo, Tryz.prog.info? 3 = some i0 ∧ i0.zero = some (.int .i64 0) ∧ i0.size = 1 ∧ i0.bytes = 8 :=
  info_parts (show (Tryz.prog.info? 3).map (fun i => (i.zero, i.size, i.bytes)) = some (some (.int .i64 0), 1, 8) by kernel_rfl)

theorem clone_nil (w : World) :
    Calls Tryz.prog 185 #[.slice none 0 0] w fun e w' => e = .returned (.slice none 0 0) ∧ w = w' := by
  go_enter Tryz.func185, Tryz.ntmps185
  go_wp2
  go_ret
  exact ⟨rfl, rfl⟩

theorem clone_some (w : World) (A : Addr) (cap : Nat) (l : List Int) (h : ArgInts .i64 w (some A) l) (hn : l.length ≤ 1000000000) :
    Calls Tryz.prog 185 #[.slice (some A) l.length cap] w fun e w' => ∃ v, e = .returned v ∧ Ints .i64 w' v l ∧ Young w.heap.size v ∧ Fr [] w w' := by
  go_enter Tryz.func185, Tryz.ntmps185
  obtain ⟨i0, hi, hz0, hz1, hz2⟩ := ints_info
  have hun : Tryz.prog.underlying 33 = some (.slice 3) := Tryz.underlying33
  go_wp2_with (at_builtin; refine wpList_append_own _ rfl _ _ 33 rfl w.heap.size 3 i0 (.int .i64 0) 1 8 hun hi hz0 hz1 hz2 rfl (by decide) _ 0 [] rfl (World.ownsRow_made _ #[] 0 (Nat.le_refl _) (Nat.zero_le _) rfl) A l.length cap (l.map (Value.int .i64)) rfl ?c1 ?c2 ints_one ?c4 ?c5 ?c6 ?_)
  case c1 => simp
  case c2 => exact (h.fr ((Fr.refl [] w).alloc _)).news
  case c4 => unfold maxLen; omega
  case c5 => omega
  case c6 => simp
  intro v' w' hown hgrow _
  go_wp2
  go_ret
  refine ⟨_, rfl, ?_, Young.own hown, ?_⟩
  · exact Ints.own (by simpa using hown) h.1
  · exact ((Fr.refl [] w).alloc _).grown hgrow (fun k hk => by simp [Value.ownBlock] at hk; exact .inr (by omega))

theorem slices_Clone (w : World) (v : Value) (l : List Int) (h : Ints .i64 w v l) (hn : l.length ≤ 1000000000) :
    Calls Tryz.prog 185 #[v] w fun e w' => ∃ s : Sl, e = .returned (.slice s.A s.n s.c) ∧ Ints .i64 w' s.v l ∧ Young w.heap.size s.v ∧ Fr [] w w' := by
  rcases h with ⟨rfl, rfl⟩ | ⟨A, cap, rfl, hA⟩
  · refine (clone_nil w).mono ?_
    rintro e w' ⟨rfl, rfl⟩
    exact ⟨Sl.nil, rfl, Ints.nil _ _, Young.nil _, Fr.refl _ _⟩
  · refine (clone_some w A cap l hA hn).mono ?_
    rintro e w' ⟨v, rfl, hv, hy, f⟩
    obtain ⟨s, rfl⟩ := hv.sl
    exact ⟨s, rfl, hv, hy, f⟩

theorem slices_Grow0 (w : World) :
    Calls Tryz.prog 186 #[.slice none 0 0, .int .i64 0] w fun e w' => e = .returned (.slice none 0 0) ∧ w = w' := by
  go_enter Tryz.func186, Tryz.ntmps186
  go_wp2
  go_ret
  exact ⟨rfl, rfl⟩

theorem slices_Grow (w : World) (n : Nat) (h0 : 0 < n) (hn : n ≤ 1000000000) :
    Calls Tryz.prog 186 #[.slice none 0 0, .int .i64 n] w fun e w' => ∃ v, e = .returned v ∧ w'.ownsRow w.heap.size 3 1 v 0 [] ∧ Fr [] w w' := by
  have d1 : decide ((n : Int) < 0) = false := by simp
  have d2 : decide (0 < (n : Int)) = true := by simp; omega
  obtain ⟨i0, hi, hz0, hz1, hz2⟩ := ints_info
  have hun : Tryz.prog.underlying 33 = some (.slice 3) := Tryz.underlying33
  have hui : Tryz.prog.underlying 3 = some (.int .i64) := Tryz.underlying3
  have hr := fun w => Go.Lib.run_append_nil_zeros (P := Tryz.prog) w 33 3 33 3 i0 (.int .i64 0) .i64 .i64 hun hui hi hz0 n h0 (by omega) (by omega) (by rw [hz2]; omega)
  go_enter Tryz.func186, Tryz.ntmps186
  go_wp2_with (at_builtin; refine Go.Lib.wpList_append_run _ rfl _ _ _ _ rfl _ _ rfl rfl _ _ (hr _) ?_)
  go_ret
  refine ⟨_, rfl, ?_, ((Fr.refl [] w).alloc _).drew⟩
  have hge := grownCap_ge w n 0 3
  have hle := grownCap_le_maxLen w n 0 3 (by unfold maxLen; omega)
  exact World.ownsRow_made w (Builtin.zeroCells #[.int .i64 0] n ++ Builtin.zeroCells #[.int .i64 0] (grownCap w n 0 3 - n)) (grownCap w n 0 3) (Nat.le_refl _) hle (by simp [Builtin.zeroCells]; omega)

theorem slices_Grow_any (w : World) (n : Nat) (hn : n ≤ 1000000000) :
    Calls Tryz.prog 186 #[.slice none 0 0, .int .i64 n] w fun e w' => ∃ v, e = .returned v ∧ w'.ownsRow w.heap.size 3 1 v 0 [] ∧ Fr [] w w' := by
  by_cases h0 : 0 < n
  · exact slices_Grow w n h0 hn
  · obtain rfl : n = 0 := by omega
    refine (slices_Grow0 w).mono ?_
    rintro e w' ⟨rfl, rfl⟩
    exact ⟨_, rfl, World.ownsRow_nil _ _ _ _, Fr.refl _ _⟩

theorem Ints.n {k : IntKind} {w : World} {s : Sl} {l : List Int} (h : Ints k w s.v l) : s.n = l.length := by
  rcases h with ⟨e, rfl⟩ | ⟨A, cap, e, _⟩
  · cases s; simp [Sl.v] at e; simp [e]
  · cases s; simp [Sl.v] at e; simp [e]
theorem Ints.wf {k : IntKind} {w : World} {v : Value} {l : List Int} (h : Ints k w v l) : ∀ x ∈ l, (Lit.int k x).wf = true := by
  rcases h with ⟨e, rfl⟩ | ⟨A, cap, e, h⟩
  · simp
  · exact h.1

def total (ls : List (List Int)) : Nat := ls.flatten.length
theorem total_take (ls : List (List Int)) (k : Nat) (hk : k < ls.length) : total (ls.take (k + 1)) = total (ls.take k) + ls[k].length := by
  unfold total
  rw [← List.take_append_getElem hk, List.flatten_append, List.length_append]
  simp
theorem flat_take (ls : List (List Int)) (k : Nat) (hk : k < ls.length) : (ls.take (k + 1)).flatten = (ls.take k).flatten ++ ls[k] := by
  rw [← List.take_append_getElem hk, List.flatten_append]
  simp
theorem total_le (ls : List (List Int)) (h : ∀ l ∈ ls, l.length ≤ 1000) : total ls ≤ 1000 * ls.length := by
  unfold total
  induction ls with
  | nil => simp
  | cons a r ih =>
    have h1 := h a (by simp)
    have h2 := ih (fun l hl => h l (by simp [hl]))
    simp only [List.flatten_cons, List.length_append, List.length_cons]
    omega

set_option maxRecDepth 100000 in
set_option maxHeartbeats 1000000 in
theorem slices_Concat (w : World) (b : Nat) (ss : List Sl) (ls : List (List Int)) (hc : ∀ i (h : i < ss.length), w.cell? ⟨b, i, none⟩ = some (.slice ss[i].A ss[i].n ss[i].c)) (hl1 : ss.length ≤ ls.length) (hl2 : ls.length ≤ ss.length) (hn : ss.length ≤ 8)
    (hI : ∀ i (h : i < ss.length), Ints .i64 w ss[i].v (ls[i]'(by omega))) (hS : ∀ l ∈ ls, l.length ≤ 1000) :
    Calls Tryz.prog 144 #[.slice (some ⟨b, 0, none⟩) ss.length ss.length] w fun e w' => ∃ s : Sl, e = .returned (.slice s.A s.n s.c) ∧ Ints .i64 w' s.v ls.flatten ∧ Young w.heap.size s.v ∧ Fr [] w w' := by
  have hwf : ∀ x ∈ ls.flatten, (Lit.int .i64 x).wf = true := by
    intro x hx
    obtain ⟨l, hl, hxl⟩ := List.mem_flatten.1 hx
    obtain ⟨i, hi, rfl⟩ := List.mem_iff_getElem.1 hl
    exact (hI i (by omega)).wf x hxl
  have hm : ∀ k, total (ls.take k) ≤ 8000 := fun k => by
    have h1 := total_le (ls.take k) (fun l hl => hS l (List.mem_of_mem_take hl))
    have h2 : (ls.take k).length ≤ 8 := by simp; omega
    omega
  obtain ⟨i0, hi, hz0, hz1, hz2⟩ := ints_info
  have hun : Tryz.prog.underlying 33 = some (.slice 3) := Tryz.underlying33
  go_enter Tryz.func144, Tryz.ntmps144
  go_wp2
  go_loopw [3, 11] (fun s i wr => w = wr ∧ ∃ k : Nat, i = .int .i64 k ∧ k ≤ ss.length ∧ s = .int .i64 (total (ls.take k) : Nat)) (fun s i _ => ss.length - (intOf i).toNat)
  case atStart => exact ⟨rfl, 0, rfl, by omega, by simp [total]⟩
  case round =>
    obtain ⟨rfl, k, rfl, hk, rfl⟩ := hrel
    have hmk := hm k
    have hmk1 := hm (k + 1)
    by_cases hlt : k < ss.length
    · have h1 := hc k hlt
      have h2 := (hI k hlt).n
      have h3 := total_take ls k (by omega)
      have hd : decide ((k : Int) < (ss.length : Int)) = true := by simp; omega
      have hw : IntKind.i64.wrap (((total (ls.take k) : Nat) : Int) + (ss[k].n : Int)) = ((total (ls.take (k + 1)) : Nat) : Int) := by rw [IntWalk.i64_in _ (by omega)]; omega
      have hd2 : decide (((total (ls.take (k + 1)) : Nat) : Int) < 0) = false := by simp
      clear h2 h3
      go_wp2
      go_roundw
      case rel => exact ⟨trivial, k + 1, by simp, by omega, rfl⟩
      case measure => simp [intOf]; omega
    · have hd : decide ((k : Int) < (ss.length : Int)) = false := by simp; omega
      have hkl : ls.take k = ls := List.take_of_length_le (by omega)
      have hm1 : total ls ≤ 8000 := by rw [← hkl]; exact hmk
      clear hmk hmk1
      go_wp2_with fail
      refine (slices_Grow_any _ _ (by omega)).mono ?_
      rintro e w1 ⟨v1, rfl, hown, f1⟩
      clear hd hlt hkl
      go_wp2
      go_loopw [6, 27] (fun v i wz => ∃ j : Nat, i = .int .i64 j ∧ j ≤ ss.length ∧ wz.ownsRow w.heap.size 3 1 v (total (ls.take j)) ((ls.take j).flatten.map (Value.int .i64)) ∧ Fr [] w wz) (fun v i _ => ss.length - (intOf i).toNat)
      case atStart => exact ⟨0, rfl, by omega, by simpa [total] using hown, f1⟩
      case round =>
        obtain ⟨j, rfl, hj, hown2, f2⟩ := hrel
        have hmj := hm j
        have hmj1 := hm (j + 1)
        by_cases hlt : j < ss.length
        · have hcz := f2.cell (hc j hlt) (by simp)
          have hIz := (hI j hlt).fr f2
          have hd : decide ((j : Int) < (ss.length : Int)) = true := by simp; omega
          have hsz := f2.size
          have hjl : j < ls.length := by omega
          rcases hIz with ⟨e, hl⟩ | ⟨A, cap, e, hA⟩
          · have e' : Value.slice ss[j].A ss[j].n ss[j].c = .slice none 0 0 := e
            rw [e'] at hcz
            clear e e'
            go_wp2_with (at_builtin; refine wpList_append_own_none rfl _ _ 33 rfl w.heap.size 3 i0 1 hun hi _ _ _ rfl hown2 rfl ?_)
            go_roundw
            case rel => exact ⟨j + 1, by simp, by omega, by rw [total_take ls j hjl, flat_take ls j hjl, hl]; simpa using hown2, f2⟩
            case measure => simp [intOf]; omega
          · have e' : Value.slice ss[j].A ss[j].n ss[j].c = .slice (some A) ls[j].length cap := e
            rw [e'] at hcz
            clear e e'
            have hlj : ls[j].length ≤ 1000 := hS _ (List.getElem_mem hjl)
            go_wp2_with (at_builtin; refine wpList_append_own _ rfl _ _ 33 rfl w.heap.size 3 i0 (.int .i64 0) 1 8 hun hi hz0 hz1 hz2 rfl (by decide) _ (total (ls.take j)) _ rfl hown2 A ls[j].length cap (ls[j].map (Value.int .i64)) rfl ?c1 ?c2 ints_one ?c4 ?c5 ?c6 ?_)
            case c1 => simp
            case c2 => exact hA.news
            case c4 => unfold maxLen; omega
            case c5 => omega
            case c6 => exact hsz
            intro v' w' hown3 hgrow _
            have f3 : Fr [] w w' := f2.grown hgrow (fun k hk => .inr (hown2.lt k hk).1)
            go_wp2
            go_roundw
            case rel => exact ⟨j + 1, by simp, by omega, by rw [total_take ls j hjl, flat_take ls j hjl, List.map_append]; simpa using hown3, f3⟩
            case measure => simp [intOf]; omega
        · have hd : decide ((j : Int) < (ss.length : Int)) = false := by simp; omega
          have hkl : ls.take j = ls := List.take_of_length_le (by omega)
          rw [hkl] at hown2
          clear hkl
          go_wp2
          go_ret
          have hI2 := Ints.own hown2 hwf
          obtain ⟨s, rfl⟩ := hI2.sl
          exact ⟨s, rfl, hI2, Young.own hown2, f2⟩
end Go.Proofs.YtneggoonlmmjeaaGreat
namespace Go.Proofs.YtneggoonlmmjeaaGreat
open Go.RowKit Go.Shelf
set_option linter.unusedVariables false
set_option linter.unusedSimpArgs false
set_option maxRecDepth 100000

structure RowM where
  doL : List Int
  next : Int
  known : Bool
abbrev Tb := Nat → Nat → RowM
/-- A row in memory: three cells from off on. -/
def RowAt (w : World) (L : List Nat) (b off : Nat) (r : RowM) : Prop :=
  ∃ s : Sl, w.cell? ⟨b, off, none⟩ = some (.slice s.A s.n s.c) ∧ w.cell? ⟨b, off + 1, none⟩ = some (.int .i64 r.next) ∧ w.cell? ⟨b, off + 2, none⟩ = some (.bool r.known) ∧ Ints .i64 w s.v r.doL ∧ ∀ A n c, s.v = .slice (some A) n c → A.block ∉ L
def tbL (bs : Nat → Nat) : List Nat := (List.range 14).map bs
/-- The rows' blocks, and whatever lies below bs 14. -/
def tbX (bs : Nat → Nat) : List Nat := tbL bs ++ List.range (bs 14)
structure IsT (w : World) (g : Nat) (bs : Nat → Nat) (T : Tb) : Prop where
  outer : ∀ s, s < 14 → w.cell? ⟨g, s, none⟩ = some (.slice (some ⟨bs s, 0, none⟩) 34 34)
  row : ∀ s, s < 14 → ∀ e, e < 34 → RowAt w (tbX bs) (bs s) (e * 3) (T s e)
  free : ∀ s, s < 14 → ∀ i, w.frozen? ⟨bs s, i, none⟩ = false
  inj : ∀ s t, s < 14 → t < 14 → bs s = bs t → s = t
  off : g ∉ tbL bs
  low : bs 14 ≤ w.heap.size

theorem tbX_L {bs : Nat → Nat} {b : Nat} (h : b ∉ tbX bs) : b ∉ tbL bs := fun hm => h (List.mem_append.2 (.inl hm))
theorem tbX_low {bs : Nat → Nat} {b : Nat} (h : b ∉ tbX bs) : bs 14 ≤ b := by
  have : b ∉ List.range (bs 14) := fun hm => h (List.mem_append.2 (.inr hm))
  simpa using this
theorem tbL_mem {bs : Nat → Nat} {b : Nat} : b ∈ tbL bs ↔ ∃ s, s < 14 ∧ bs s = b := by
  unfold tbL; simp

theorem RowAt.fr {w w' : World} {L : List Nat} {b off : Nat} {r : RowM} (h : RowAt w L b off r) (f : Fr [] w w') : RowAt w' L b off r := by
  obtain ⟨s, h1, h2, h3, h4, h5⟩ := h
  exact ⟨s, f.cell h1 (by simp), f.cell h2 (by simp), f.cell h3 (by simp), h4.fr f, h5⟩

theorem IsT.fr {w w' : World} {g : Nat} {bs : Nat → Nat} {T : Tb} (h : IsT w g bs T) (f : Fr [] w w') : IsT w' g bs T :=
  ⟨fun s hs => f.cell (h.outer s hs) (by simp), fun s hs e he => (h.row s hs e he).fr f, fun s hs i => by
    obtain ⟨_, h1, _⟩ := h.row s hs 0 (by omega)
    rw [World.frozen?_of_block (w := w) (f.block (bs s) (World.block_lt_of_cell? w _ h1) (by simp))]; exact h.free s hs i, h.inj, h.off, Nat.le_trans h.low f.size⟩

/-- What laying a row does to a table. -/
def layM (s e : Nat) (next : Int) (l : List Int) (T : Tb) : Tb := fun s' e' => if s' = s ∧ e' = e then ⟨l, if next = -1 then (s : Int) else next, true⟩ else T s' e'

theorem IsT.lay {w w' : World} {g : Nat} {bs : Nat → Nat} {T : Tb} (h : IsT w g bs T) {s e : Nat} (hs : s < 14) (he : e < 34) {next : Int} {l : List Int} {sl : Sl} (hl : Ints .i64 w sl.v l) (hn : ∀ A n c, sl.v = .slice (some A) n c → A.block ∉ tbX bs)
    (hw : w' = ((w.setCell ⟨bs s, e * 3, none⟩ (.slice sl.A sl.n sl.c)).setCell ⟨bs s, e * 3 + 1, none⟩ (.int .i64 (if next = -1 then (s : Int) else next))).setCell ⟨bs s, e * 3 + 2, none⟩ (.bool true)) :
    IsT w' g bs (layM s e next l T) ∧ Fr (tbL bs) w w' := by
  have hb : bs s ∈ tbL bs := tbL_mem.2 ⟨s, hs, rfl⟩
  have f : Fr (tbL bs) w w' := by
    rw [hw]
    exact (((Fr.refl (tbL bs) w).setCell _ (.inl hb)).setCell _ (.inl hb)).setCell _ (.inl hb)
  obtain ⟨s0, o0, o1, o2, -, -⟩ := h.row s hs e he
  have ne : ∀ {b c i j : Nat}, (b ≠ c ∨ i ≠ j) → (⟨b, i, none⟩ : Addr) ≠ ⟨c, j, none⟩ := fun h e => by cases e; simp at h
  have far : ∀ b i, (b ≠ bs s ∨ (i ≠ e * 3 ∧ i ≠ e * 3 + 1 ∧ i ≠ e * 3 + 2)) → w'.cell? ⟨b, i, none⟩ = w.cell? ⟨b, i, none⟩ := by
    intro b i hbi
    rw [hw, World.cell?_setCell_other _ _ _ _ (ne (by omega)), World.cell?_setCell_other _ _ _ _ (ne (by omega)), World.cell?_setCell_other _ _ _ _ (ne (by omega))]
  have c0 : w'.cell? ⟨bs s, e * 3, none⟩ = some (.slice sl.A sl.n sl.c) := by
    rw [hw, World.cell?_setCell_other _ _ _ _ (ne (by omega)), World.cell?_setCell_other _ _ _ _ (ne (by omega)), World.cell?_setCell_same _ _ _ o0]
  have c1 : w'.cell? ⟨bs s, e * 3 + 1, none⟩ = some (.int .i64 (if next = -1 then (s : Int) else next)) := by
    rw [hw, World.cell?_setCell_other _ _ _ _ (ne (by omega))]
    exact World.cell?_setCell_same _ _ _ (by rw [World.cell?_setCell_other _ _ _ _ (ne (by omega))]; exact o1)
  have c2 : w'.cell? ⟨bs s, e * 3 + 2, none⟩ = some (.bool true) := by
    rw [hw]
    exact World.cell?_setCell_same _ _ _ (by rw [World.cell?_setCell_other _ _ _ _ (ne (by omega)), World.cell?_setCell_other _ _ _ _ (ne (by omega))]; exact o2)
  refine ⟨⟨?_, ?_, ?_, h.inj, h.off, Nat.le_trans h.low f.size⟩, f⟩
  · intro t ht
    rw [far g t (.inl (fun e => h.off (e ▸ hb)))]
    exact h.outer t ht
  · intro t ht d hd
    unfold layM
    by_cases hc : t = s ∧ d = e
    · obtain ⟨rfl, rfl⟩ := hc
      rw [if_pos ⟨rfl, rfl⟩]
      exact ⟨sl, c0, c1, c2, hl.frL f (fun A n c e => tbX_L (hn A n c e)), hn⟩
    · rw [if_neg hc]
      have hne : bs t ≠ bs s ∨ d ≠ e := by
        by_cases h1 : t = s
        · exact .inr (fun h2 => hc ⟨h1, h2⟩)
        · exact .inl (fun h2 => h1 (h.inj t s ht hs h2))
      obtain ⟨s1, p0, p1, p2, p3, p4⟩ := h.row t ht d hd
      exact ⟨s1, by rw [far _ _ (by omega)]; exact p0, by rw [far _ _ (by omega)]; exact p1, by rw [far _ _ (by omega)]; exact p2, p3.frL f (fun A n c e => tbX_L (p4 A n c e)), p4⟩
  · intro t ht i
    have hfz : ∀ (w : World) (a p : Addr) (v : Value), (w.setCell a v).frozen? p = w.frozen? p := by
      intro w a p v
      simp only [World.frozen?, World.setCell, Array.getElem?_modify]
      by_cases hh : a.block = p.block
      · rw [if_pos hh]
        cases w.heap[p.block]? with
        | none => rfl
        | some o => cases o <;> rfl
      · rw [if_neg hh]
    rw [hw, hfz, hfz, hfz]
    exact h.free t ht i

theorem grid_lay (w : World) (g cap : Nat) (bs : Nat → Nat) (T : Tb) (s e next : Int) (l : List Int) (A : Option Addr) (n c : Nat) (h : IsT w g bs T) (hs0 : 0 ≤ s) (hs : s < 14) (he0 : 0 ≤ e) (he : e < 34)
    (hl : Ints .i64 w (.slice A n c) l) (hn : ∀ B n' c', Value.slice A n c = .slice (some B) n' c' → B.block ∉ tbX bs) :
    Calls Tryz.prog 140 #[.slice (some ⟨g, 0, none⟩) 14 cap, .int .i64 s, .int .i64 e, .int .i64 next, .slice A n c] w fun r w' =>
      r = .returned (.tuple #[]) ∧ IsT w' g bs (layM s.toNat e.toNat next l T) ∧ Fr (tbL bs) w w' := by
  obtain ⟨s, rfl⟩ := Int.eq_ofNat_of_zero_le hs0
  obtain ⟨e, rfl⟩ := Int.eq_ofNat_of_zero_le he0
  have hs' : s < 14 := by omega
  have he' : e < 34 := by omega
  have o := h.outer s hs'
  obtain ⟨s0, r0, r1, r2, -, -⟩ := h.row s hs' e he'
  have f0 := h.free s hs' (e * 3)
  have f1 := h.free s hs' (e * 3 + 1)
  have f2 := h.free s hs' (e * 3 + 2)
  have d1 : decide ((s : Int) < 14) = true := by simp; omega
  have d2 : decide ((e : Int) < 34) = true := by simp; omega
  by_cases hx : next = -1
  · subst hx
    have hfin := fun w' => IsT.lay (w' := w') h hs' he' (next := -1) (sl := ⟨A, n, c⟩) hl hn
    go_enter Tryz.func140, Tryz.ntmps140
    go_wp2
    go_end0
    exact ⟨rfl, hfin _ (by simp)⟩
  · have hx' : (next == -1) = false := by simpa using hx
    have hfin := fun w' => IsT.lay (w' := w') h hs' he' (next := next) (sl := ⟨A, n, c⟩) hl hn
    rw [if_neg hx] at hfin
    go_enter Tryz.func140, Tryz.ntmps140
    go_wp2
    go_end0
    exact ⟨rfl, hfin _ rfl⟩

theorem IsT.lt {w : World} {g : Nat} {bs : Nat → Nat} {T : Tb} (h : IsT w g bs T) : ∀ b, b ∈ tbL bs → b < w.heap.size := by
  intro b hb
  obtain ⟨s, hs, rfl⟩ := tbL_mem.1 hb
  obtain ⟨_, h1, _⟩ := h.row s hs 0 (by omega)
  exact World.block_lt_of_cell? w _ h1
theorem IsT.ltX {w : World} {g : Nat} {bs : Nat → Nat} {T : Tb} (h : IsT w g bs T) : ∀ b, b ∈ tbX bs → b < w.heap.size := by
  intro b hb
  rcases List.mem_append.1 hb with hb | hb
  · exact h.lt b hb
  · have := h.low
    have := List.mem_range.1 hb
    omega

/-- A row of numbers from the head of a block. -/
def RowI (w : World) (b : Nat) (l : List Int) : Prop := ∀ i (h : i < l.length), w.cell? ⟨b, i, none⟩ = some (.int .i64 l[i])
theorem RowI.fr {w w' : World} {b : Nat} {l : List Int} {L : List Nat} (h : RowI w b l) (f : Fr L w w') (hn : b ∉ L) : RowI w' b l := fun i hi => f.cell (h i hi) hn

def eachE (s : Nat) (evs : List Int) (next : Int) (l : List Int) (T : Tb) : Tb := evs.foldl (fun T e => layM s e.toNat next l T) T
def eachM (ins evs : List Int) (next : Int) (l : List Int) (T : Tb) : Tb := ins.foldl (fun T s => eachE s.toNat evs next l T) T

theorem foldl_take {β : Type} (f : β → Int → β) (x : β) (l : List Int) (k : Nat) (hk : k < l.length) : (l.take (k + 1)).foldl f x = f ((l.take k).foldl f x) l[k] := by
  rw [← List.take_append_getElem hk, List.foldl_append]; rfl

set_option maxHeartbeats 2000000 in
set_option maxRecDepth 100000 in
theorem grid_each (w : World) (g cap : Nat) (bs : Nat → Nat) (T : Tb) (bi ci be ce : Nat) (ins evs : List Int) (next : Int) (l : List Int) (A : Option Addr) (n c : Nat) (h : IsT w g bs T)
    (hi : RowI w bi ins) (hi1 : bi ∉ tbL bs) (hi2 : ∀ s ∈ ins, 0 ≤ s ∧ s < 14) (he : RowI w be evs) (he1 : be ∉ tbL bs) (he2 : ∀ e ∈ evs, 0 ≤ e ∧ e < 34) (hni : ins.length ≤ 100) (hne : evs.length ≤ 100) (hll : l.length ≤ 1000)
    (hl : Ints .i64 w (.slice A n c) l) (hn : ∀ B n' c', Value.slice A n c = .slice (some B) n' c' → B.block ∉ tbX bs) :
    Calls Tryz.prog 141 #[.slice (some ⟨g, 0, none⟩) 14 cap, .slice (some ⟨bi, 0, none⟩) ins.length ci, .slice (some ⟨be, 0, none⟩) evs.length ce, .int .i64 next, .slice A n c] w fun r w' =>
      r = .returned (.tuple #[]) ∧ IsT w' g bs (eachM ins evs next l T) ∧ Fr (tbL bs) w w' := by
  go_enter Tryz.func141, Tryz.ntmps141
  go_wp2
  go_loopw [16] (fun i wr => ∃ k : Nat, i = .int .i64 k ∧ k ≤ ins.length ∧ IsT wr g bs (eachM (ins.take k) evs next l T) ∧ Fr (tbL bs) w wr) (fun i _ => ins.length - (intOf i).toNat)
  case atStart => exact ⟨0, rfl, by omega, h, Fr.refl _ _⟩
  case round =>
    obtain ⟨k, rfl, hk, hT, hF⟩ := hrel
    by_cases hlt : k < ins.length
    · have hd : decide ((k : Int) < (ins.length : Int)) = true := by simp; omega
      have hc := hF.cell (hi k hlt) hi1
      have hsk := hi2 _ (List.getElem_mem hlt)
      obtain ⟨x, hx⟩ : ∃ x, ins[k] = x := ⟨_, rfl⟩
      rw [hx] at hc hsk
      obtain ⟨Tk, hTk⟩ : ∃ Tk, eachM (ins.take k) evs next l T = Tk := ⟨_, rfl⟩
      have hTk1 : eachM (ins.take (k + 1)) evs next l T = eachE x.toNat evs next l Tk := by unfold eachM; rw [foldl_take _ _ _ _ hlt, hx]; rw [← hTk]; rfl
      rw [hTk] at hT
      clear hx hTk
      obtain ⟨w1, rfl⟩ : ∃ w1, w1 = wr := ⟨_, rfl⟩
      go_wp2
      go_loopw [22] (fun i wz => ∃ j : Nat, i = .int .i64 j ∧ j ≤ evs.length ∧ IsT wz g bs (eachE x.toNat (evs.take j) next l Tk) ∧ Fr (tbL bs) w wz) (fun i _ => evs.length - (intOf i).toNat)
      case atStart => exact ⟨0, rfl, by omega, hT, hF⟩
      case round =>
        have hTk1' := hTk1
        clear hT hF hd hc hTk1
        obtain ⟨j, rfl, hj, hT, hF⟩ := hrel
        by_cases hlt2 : j < evs.length
        · have hd2 : decide ((j : Int) < (evs.length : Int)) = true := by simp; omega
          have hc2 := hF.cell (he j hlt2) he1
          have hsj := he2 _ (List.getElem_mem hlt2)
          have hlz := hl.frL hF (fun A n c e => tbX_L (hn A n c e))
          have hgo : eachE x.toNat (evs.take (j + 1)) next l Tk = layM x.toNat (evs[j]).toNat next l (eachE x.toNat (evs.take j) next l Tk) := by unfold eachE; rw [foldl_take _ _ _ _ hlt2]
          go_wp2_with fail
          refine (slices_Clone _ _ l hlz (by omega)).mono ?_
          rintro e w2 ⟨s, rfl, hs, hy, f2⟩
          go_wp2_with fail
          refine (grid_lay w2 g cap bs _ x evs[j] next l s.A s.n s.c (hT.fr f2) hsk.1 hsk.2 hsj.1 hsj.2 hs (fun B n' c' e hB => by have := hy B n' c' e; have := hT.ltX _ hB; omega)).mono ?_
          rintro e w3 ⟨rfl, hT3, f3⟩
          rw [← hgo] at hT3
          go_wp2
          go_roundw
          case rel => exact ⟨j + 1, by simp, by omega, hT3, (hF.tr0 f2).tr f3⟩
          case measure => simp [intOf]; omega
        · have hd2 : decide ((j : Int) < (evs.length : Int)) = false := by simp; omega
          have hkl : evs.take j = evs := List.take_of_length_le (by omega)
          rw [hkl] at hT
          clear hkl
          go_wp2
          go_roundw
          case rel => exact ⟨k + 1, by simp, by omega, by rw [hTk1']; exact hT, hF⟩
          case measure => simp [intOf]; omega
    · have hd : decide ((k : Int) < (ins.length : Int)) = false := by simp; omega
      have hkl : ins.take k = ins := List.take_of_length_le (by omega)
      rw [hkl] at hT
      clear hkl
      go_wp2
      go_end0
      exact ⟨rfl, hT, hF⟩
end Go.Proofs.YtneggoonlmmjeaaGreat
namespace Go.Proofs.YtneggoonlmmjeaaGreat
open Go.RowKit Go.Shelf
set_option linter.unusedVariables false
set_option linter.unusedSimpArgs false
set_option maxRecDepth 100000

def zrow : Array Value := ((List.range 34).flatMap fun _ => [Value.slice none 0 0, .int .i64 0, .bool false]).toArray
theorem zrow0 : ∀ e, e < 34 → zrow[e * 3]? = some (.slice none 0 0) := fun e h => by
    match e, h with
    | 0, _ => rfl
    | 1, _ => rfl
    | 2, _ => rfl
    | 3, _ => rfl
    | 4, _ => rfl
    | 5, _ => rfl
    | 6, _ => rfl
    | 7, _ => rfl
    | 8, _ => rfl
    | 9, _ => rfl
    | 10, _ => rfl
    | 11, _ => rfl
    | 12, _ => rfl
    | 13, _ => rfl
    | 14, _ => rfl
    | 15, _ => rfl
    | 16, _ => rfl
    | 17, _ => rfl
    | 18, _ => rfl
    | 19, _ => rfl
    | 20, _ => rfl
    | 21, _ => rfl
    | 22, _ => rfl
    | 23, _ => rfl
    | 24, _ => rfl
    | 25, _ => rfl
    | 26, _ => rfl
    | 27, _ => rfl
    | 28, _ => rfl
    | 29, _ => rfl
    | 30, _ => rfl
    | 31, _ => rfl
    | 32, _ => rfl
    | 33, _ => rfl
    | e + 34, h => exact absurd h (by omega)
theorem zrow1 : ∀ e, e < 34 → zrow[e * 3 + 1]? = some (.int .i64 0) := fun e h => by
    match e, h with
    | 0, _ => rfl
    | 1, _ => rfl
    | 2, _ => rfl
    | 3, _ => rfl
    | 4, _ => rfl
    | 5, _ => rfl
    | 6, _ => rfl
    | 7, _ => rfl
    | 8, _ => rfl
    | 9, _ => rfl
    | 10, _ => rfl
    | 11, _ => rfl
    | 12, _ => rfl
    | 13, _ => rfl
    | 14, _ => rfl
    | 15, _ => rfl
    | 16, _ => rfl
    | 17, _ => rfl
    | 18, _ => rfl
    | 19, _ => rfl
    | 20, _ => rfl
    | 21, _ => rfl
    | 22, _ => rfl
    | 23, _ => rfl
    | 24, _ => rfl
    | 25, _ => rfl
    | 26, _ => rfl
    | 27, _ => rfl
    | 28, _ => rfl
    | 29, _ => rfl
    | 30, _ => rfl
    | 31, _ => rfl
    | 32, _ => rfl
    | 33, _ => rfl
    | e + 34, h => exact absurd h (by omega)
theorem zrow2 : ∀ e, e < 34 → zrow[e * 3 + 2]? = some (.bool false) := fun e h => by
    match e, h with
    | 0, _ => rfl
    | 1, _ => rfl
    | 2, _ => rfl
    | 3, _ => rfl
    | 4, _ => rfl
    | 5, _ => rfl
    | 6, _ => rfl
    | 7, _ => rfl
    | 8, _ => rfl
    | 9, _ => rfl
    | 10, _ => rfl
    | 11, _ => rfl
    | 12, _ => rfl
    | 13, _ => rfl
    | 14, _ => rfl
    | 15, _ => rfl
    | 16, _ => rfl
    | 17, _ => rfl
    | 18, _ => rfl
    | 19, _ => rfl
    | 20, _ => rfl
    | 21, _ => rfl
    | 22, _ => rfl
    | 23, _ => rfl
    | 24, _ => rfl
    | 25, _ => rfl
    | 26, _ => rfl
    | 27, _ => rfl
    | 28, _ => rfl
    | 29, _ => rfl
    | 30, _ => rfl
    | 31, _ => rfl
    | 32, _ => rfl
    | 33, _ => rfl
    | e + 34, h => exact absurd h (by omega)

theorem mk34 (w : World) : (Instr.makeSlice 154 (Value.int IntKind.i64 34) (Value.int IntKind.i64 34)).run Tryz.prog w = .ok (.slice (some ⟨w.heap.size, 0, none⟩) 34 34) (w.alloc (.cells zrow 108)) := by kernel_rfl

/-- A row of the blank table, the first j of whose events lead to s. -/
structure BR (w : World) (b : Nat) (s : Int) (j : Nat) : Prop where
  c0 : ∀ e, e < 34 → w.cell? ⟨b, e * 3, none⟩ = some (.slice none 0 0)
  c1 : ∀ e, e < 34 → w.cell? ⟨b, e * 3 + 1, none⟩ = some (.int .i64 (if e < j then s else 0))
  c2 : ∀ e, e < 34 → w.cell? ⟨b, e * 3 + 2, none⟩ = some (.bool false)
  f : ∀ i, w.frozen? ⟨b, i, none⟩ = false
theorem BR.new (w : World) (s : Int) : BR (w.alloc (.cells zrow 108)) w.heap.size s 0 := by
  have h := Blk.new w zrow 108
  exact ⟨fun e he => h.cell _ (zrow0 e he), fun e he => by rw [if_neg (by omega)]; exact h.cell _ (zrow1 e he), fun e he => h.cell _ (zrow2 e he), fun i => h.free i⟩
theorem BR.lt {w : World} {b : Nat} {s : Int} {j : Nat} (h : BR w b s j) : b < w.heap.size := World.block_lt_of_cell? w _ (h.c0 0 (by omega))
theorem BR.fr {w w' : World} {b : Nat} {s : Int} {j : Nat} (h : BR w b s j) (f : Fr [] w w') : BR w' b s j :=
  ⟨fun e he => f.cell (h.c0 e he) (by simp), fun e he => f.cell (h.c1 e he) (by simp), fun e he => f.cell (h.c2 e he) (by simp), fun i => by rw [World.frozen?_of_block (w := w) (f.block b h.lt (by simp))]; exact h.f i⟩
theorem frz_set (w : World) (a p : Addr) (v : Value) : (w.setCell a v).frozen? p = w.frozen? p := by
  simp only [World.frozen?, World.setCell, Array.getElem?_modify]
  by_cases hh : a.block = p.block
  · rw [if_pos hh]
    cases w.heap[p.block]? with
    | none => rfl
    | some o => cases o <;> rfl
  · rw [if_neg hh]
theorem BR.set {w : World} {b : Nat} {s : Int} {j : Nat} (h : BR w b s j) (hj : j < 34) : BR (w.setCell ⟨b, j * 3 + 1, none⟩ (.int .i64 s)) b s (j + 1) := by
  have ne : ∀ {i k : Nat}, i ≠ k → (⟨b, i, none⟩ : Addr) ≠ ⟨b, k, none⟩ := fun h e => by cases e; exact h rfl
  refine ⟨fun e he => ?_, fun e he => ?_, fun e he => ?_, fun i => by rw [frz_set]; exact h.f i⟩
  · rw [World.cell?_setCell_other _ _ _ _ (ne (by omega))]; exact h.c0 e he
  · by_cases hc : e = j
    · subst hc
      rw [World.cell?_setCell_same _ _ _ (h.c1 e he), if_pos (by omega)]
    · rw [World.cell?_setCell_other _ _ _ _ (ne (by omega)), h.c1 e he]
      by_cases h2 : e < j
      · rw [if_pos h2, if_pos (by omega)]
      · rw [if_neg h2, if_neg (by omega)]
  · rw [World.cell?_setCell_other _ _ _ _ (ne (by omega))]; exact h.c2 e he

def blankM : Tb := fun s _ => ⟨[], s, false⟩
def slB (b : Nat) : Value := .slice (some ⟨b, 0, none⟩) 34 34

/-- The first k rows of a blank table. -/
structure BT (w0 w : World) (bl : List Nat) (v : Value) (k : Nat) : Prop where
  len : bl.length = k
  own : w.ownsRow w0.heap.size 154 1 v k (bl.map slB)
  rows : ∀ s (h : s < bl.length), BR w bl[s] s 34 ∧ w0.heap.size ≤ bl[s]
  inj : ∀ s t (hs : s < bl.length) (ht : t < bl.length), bl[s] = bl[t] → s = t
  fr : Fr [] w0 w

theorem BT.nil (w : World) : BT w w [] (.slice none 0 0) 0 := ⟨rfl, World.ownsRow_nil _ _ _ _, fun s h => absurd h (by simp), fun s t h => absurd h (by simp), Fr.refl _ _⟩
theorem BT.off {w0 w : World} {bl : List Nat} {v : Value} {k : Nat} (h : BT w0 w bl v k) {g : Nat} (hg : v.ownBlock = some g) : g ∉ bl := by
  intro hm
  obtain ⟨s, hs, e⟩ := List.mem_iff_getElem.1 hm
  have h0 : 0 < bl.length := by omega
  have h1 := h.own.cells hg 0 (slB bl[0]) (by simp [h0])
  have h2 := (h.rows s hs).1.c0 0 (by omega)
  rw [e] at h2
  have h3 : w.cell? ⟨g, 0, none⟩ = some (slB bl[0]) := by rwa [Go.WideShapes.add_plain] at h1
  rw [show (0 * 3 : Nat) = 0 from rfl, h3] at h2
  unfold slB at h2
  cases h2
theorem BT.ownFr {w0 w w' : World} {bl : List Nat} {v : Value} {k : Nat} (h : BT w0 w bl v k) (f : Fr [] w w') : w'.ownsRow w0.heap.size 154 1 v k (bl.map slB) := by
  obtain ⟨h1, h2⟩ := h.own
  refine ⟨h1, h2.imp id ?_⟩
  rintro ⟨g, cap, cur, e, hg, hb, r⟩
  exact ⟨g, cap, cur, e, hg, by rw [f.block g (Array.getElem?_eq_some_iff.1 hb).1 (by simp)]; exact hb, r⟩
theorem ownsRow_block {w : World} {B : Nat} {e : TypeId} {size n : Nat} {v : Value} {xs : List Value} (h : w.ownsRow B e size v n xs) {g : Nat} (hg : v.ownBlock = some g) : B ≤ g ∧ g < w.heap.size := h.lt g hg
theorem BT.snoc {w0 w w1 w' : World} {bl : List Nat} {v v' : Value} {k : Nat} (h : BT w0 w bl v k) (f : Fr [] w w1) (hR : BR w1 w.heap.size k 34)
    (hown : w'.ownsRow w0.heap.size 154 1 v' (k + 1) (bl.map slB ++ [slB w.heap.size])) (hg : (w1.alloc (.cells #[slB w.heap.size] 154)).grownBy w' v.ownBlock) : BT w0 w' (bl ++ [w.heap.size]) v' (k + 1) := by
  have hlt : ∀ b, (∃ s j, BR w b s j) → b < w.heap.size := fun b ⟨s, j, hb⟩ => hb.lt
  have f' : Fr [] w0 w' := ((h.fr.tr f).alloc _).grown hg (fun g hg => .inr (h.own.lt g hg).1)
  have keep : ∀ b, b < w1.heap.size → v.ownBlock ≠ some b → w'.heap[b]? = w1.heap[b]? := fun b hb hn => by
    rw [hg.block b (by simp; omega) (fun e => hn e.symm)]
    exact Below.heap_alloc _ _ _ (by omega)
  have br : ∀ b s, BR w1 b s 34 → v.ownBlock ≠ some b → BR w' b s 34 := fun b s hb hn =>
    ⟨fun e he => by rw [World.cell?_of_block (w := w1) (keep b hb.lt hn)]; exact hb.c0 e he, fun e he => by rw [World.cell?_of_block (w := w1) (keep b hb.lt hn)]; exact hb.c1 e he,
      fun e he => by rw [World.cell?_of_block (w := w1) (keep b hb.lt hn)]; exact hb.c2 e he, fun i => by rw [World.frozen?_of_block (w := w1) (keep b hb.lt hn)]; exact hb.f i⟩
  have hwb : v.ownBlock ≠ some w.heap.size := fun e => by have := (h.own.lt _ e).2; omega
  refine ⟨by simp [h.len], by simpa using hown, ?_, ?_, f'⟩
  · intro s hs
    by_cases hc : s < bl.length
    · have e : (bl ++ [w.heap.size])[s] = bl[s] := List.getElem_append_left hc
      rw [e]
      have hb := (h.rows s hc).1
      exact ⟨br _ _ (hb.fr f) (fun e => h.off e (List.getElem_mem hc)), (h.rows s hc).2⟩
    · have hsk : s = bl.length := by simp at hs; omega
      subst hsk
      have e : (bl ++ [w.heap.size])[bl.length] = w.heap.size := by simp
      rw [e, h.len]
      exact ⟨br _ _ hR hwb, h.fr.size⟩
  · intro s t hs ht he
    have old : ∀ s (hs : s < bl.length), bl[s] < w.heap.size := fun s hs => (h.rows s hs).1.lt
    simp only [List.getElem_append, List.length_append, List.length_cons, List.length_nil] at he hs ht
    by_cases h1 : s < bl.length <;> by_cases h2 : t < bl.length
    · rw [dif_pos h1, dif_pos h2] at he; exact h.inj s t h1 h2 he
    · rw [dif_pos h1, dif_neg h2] at he; simp at he; have := old s h1; omega
    · rw [dif_neg h1, dif_pos h2] at he; simp at he; have := old t h2; omega
    · omega
theorem BT.table {w0 w : World} {bl : List Nat} {v : Value} (h : BT w0 w bl v 14) : ∃ g cap bs, Ending.returned v = .returned (.slice (some ⟨g, 0, none⟩) 14 cap) ∧ IsT w g bs blankM ∧ w0.heap.size ≤ g ∧ (∀ s, s < 14 → w0.heap.size ≤ bs s) ∧ bs 14 = w0.heap.size ∧ Fr [] w0 w := by
  rcases h.own.2 with ⟨_, e⟩ | ⟨g, cap, cur, rfl, hbg, -⟩
  · cases e
  · have hl : bl.length = 14 := h.len
    have hbs : ∀ s (hs : s < bl.length), bl.getD s w0.heap.size = bl[s] := fun s hs => by simp [List.getD, hs]
    refine ⟨g, cap, fun s => bl.getD s w0.heap.size, rfl, ⟨?_, ?_, ?_, ?_, ?_, ?_⟩, hbg, ?_, ?_, h.fr⟩
    · intro s hs
      have := h.own.cells (g := g) rfl s (slB bl[s]) (by simp [hl, hs])
      rw [hbs s (by omega)]
      rw [Go.WideShapes.add_plain] at this
      simpa [slB] using this
    · intro s hs e he
      obtain ⟨hr, -⟩ := h.rows s (by omega)
      rw [hbs s (by omega)]
      have hc1 := hr.c1 e he
      rw [if_pos he] at hc1
      exact ⟨Sl.nil, hr.c0 e he, hc1, hr.c2 e he, Ints.nil _ _, fun A n c e => by cases e⟩
    · intro s hs i
      rw [hbs s (by omega)]
      exact (h.rows s (by omega)).1.f i
    · intro s t hs ht e
      rw [hbs s (by omega), hbs t (by omega)] at e
      exact h.inj s t _ _ e
    · intro hm
      obtain ⟨s, hs, e⟩ := tbL_mem.1 hm
      rw [hbs s (by omega)] at e
      exact h.off rfl (e ▸ List.getElem_mem _)
    · have e : bl.getD 14 w0.heap.size = w0.heap.size := by simp [List.getD, hl]
      rw [e]
      exact h.fr.size
    · intro s hs
      show _ ≤ bl.getD s w0.heap.size
      rw [hbs s (by omega)]
      exact (h.rows s (by omega)).2
    · show bl.getD 14 w0.heap.size = w0.heap.size
      simp [List.getD, hl]
theorem grows_info : ∃ i0 : TypeInfo, Tryz.prog.info? 154 = some i0 ∧ i0.zero = some (.slice none 0 0) ∧ i0.size = 1 ∧ i0.bytes = 24 :=
  info_parts (show (Tryz.prog.info? 154).map (fun i => (i.zero, i.size, i.bytes)) = some (some (.slice none 0 0), 1, 24) by kernel_rfl)

set_option maxRecDepth 100000 in
set_option maxHeartbeats 1000000 in
theorem grid_blank (w : World) : Calls Tryz.prog 84 #[] w fun r w' => ∃ g cap bs, r = .returned (.slice (some ⟨g, 0, none⟩) 14 cap) ∧ IsT w' g bs blankM ∧ w.heap.size ≤ g ∧ (∀ s, s < 14 → w.heap.size ≤ bs s) ∧ bs 14 = w.heap.size ∧ Fr [] w w' := by
  obtain ⟨i0, hi, hz0, hz1, hz2⟩ := grows_info
  have hun : Tryz.prog.underlying 140 = some (.slice 154) := Tryz.underlying140
  have hmk := mk34
  go_enter Tryz.func84, Tryz.ntmps84
  go_wp2
  go_loopw [1, 5] (fun t i wr => ∃ k : Nat, i = .int .i64 k ∧ k ≤ 14 ∧ ∃ bl, BT w wr bl t k) (fun _ i _ => 14 - (intOf i).toNat)
  case atStart => exact ⟨0, rfl, by omega, [], BT.nil w⟩
  case round =>
    obtain ⟨k, rfl, hk, bl, hB⟩ := hrel
    by_cases hlt : k < 14
    · have hd : decide ((k : Int) < 14) = true := by simp; omega
      obtain ⟨wo, rfl⟩ : ∃ wo, wo = wr := ⟨_, rfl⟩
      go_wp2
      go_loopw [4, 11] (fun _ i wz => ∃ j : Nat, i = .int .i64 j ∧ j ≤ 34 ∧ BR wz wo.heap.size k j ∧ Fr [] wo wz) (fun _ i _ => 34 - (intOf i).toNat)
      case atStart => exact ⟨0, rfl, by omega, BR.new _ _, (Fr.refl _ _).alloc _⟩
      case round =>
        obtain ⟨j, rfl, hj, hR, hF⟩ := hrel
        by_cases hlt2 : j < 34
        · have hd2 : decide ((j : Int) < 34) = true := by simp; omega
          have hc := hR.c1 j hlt2
          have hf := hR.f (j * 3 + 1)
          go_wp2
          go_roundw
          case rel => exact ⟨j + 1, by simp, by omega, hR.set hlt2, hF.setCell _ (.inr (Nat.le_refl _))⟩
          case measure => simp [intOf]; omega
        · have hd2 : decide ((j : Int) < 34) = false := by simp; omega
          have hR34 : BR wr wo.heap.size k 34 := by rw [show (34 : Nat) = j by omega]; exact hR
          have hown := hB.ownFr hF
          have hsz := hF.size
          have hlen := hB.len
          have hfw : Fr [] w wr := hB.fr.tr hF
          have hszw := hB.fr.size
          clear hR hlen
          go_wp2_with (at_builtin; refine wpList_append_own _ rfl _ _ 140 rfl w.heap.size 154 i0 (.slice none 0 0) 1 24 hun hi hz0 hz1 hz2 rfl (by decide) _ k (bl.map slB) rfl (hown.alloc _) ⟨wr.heap.size, 0, none⟩ 1 1 [slB wo.heap.size] rfl rfl ?c1 ?c2 ?c4 ?c5 ?c6 ?_)
          case c1 => intro i u hu; match i, hu with
            | 0, hu => simp at hu; subst hu; rw [Go.WideShapes.add_plain]; exact (Blk.new wr #[slB wo.heap.size] 154).cell 0 rfl
            | i + 1, hu => simp at hu
          case c2 => intro u hu; simp at hu; subst hu; rfl
          case c4 => unfold maxLen; omega
          case c5 => omega
          case c6 => simp; omega
          intro v' w' hown2 hgrow _
          have hB' := hB.snoc hF hR34 hown2 hgrow
          go_wp2
          go_roundw
          case rel => exact ⟨k + 1, by simp, by omega, bl ++ [wo.heap.size], hB'⟩
          case measure => simp [intOf]; omega
    · have hd : decide ((k : Int) < 14) = false := by simp; omega
      obtain rfl : k = 14 := by omega
      go_wp2
      go_ret
      exact hB.table
end Go.Proofs.YtneggoonlmmjeaaGreat
namespace Go.Proofs.YtneggoonlmmjeaaGreat
open Go.RowKit Go.Shelf
set_option linter.unusedVariables false
set_option linter.unusedSimpArgs false
set_option maxRecDepth 100000

def okI (l : List Int) : Bool := l.all fun x => (Lit.int .i64 x).wf
theorem okI.of {l : List Int} (h : okI l = true) : ∀ x ∈ l, (Lit.int .i64 x).wf = true := by simpa [okI] using h
abbrev arr (l : List Int) : Array Value := (l.map (Value.int .i64)).toArray

theorem Ints.newAt {w w' : World} {b n : Nat} {l : List Int} {t : TypeId} (hb : Blk w b (arr l) t) (hw : okI l = true) (hn : n = l.length) (f : Fr [] w w') : Ints .i64 w' (.slice (some ⟨b, 0, none⟩) n n) l := by
  subst hn; exact (Ints.blk hb (okI.of hw)).fr f
theorem RowI.newAt {w w' : World} {b : Nat} {l : List Int} {t : TypeId} (hb : Blk w b (arr l) t) (f : Fr [] w w') : RowI w' b l := fun i hi => f.cell (hb.cell i (by simp [hi])) (by simp)

def layI (s e next : Int) (l : List Int) (T : Tb) : Tb := layM s.toNat e.toNat next l T

/-- A table, and what became of the rest. -/
structure Tab (w0 w : World) (g : Nat) (bs : Nat → Nat) (T : Tb) : Prop where
  is : IsT w g bs T
  fr : Fr (tbL bs) w0 w
theorem Tab.step {w0 w w1 w' : World} {g : Nat} {bs : Nat → Nat} {T T' : Tb} (h : Tab w0 w g bs T) (f : Fr [] w w1) (h' : IsT w' g bs T') (f' : Fr (tbL bs) w1 w') : Tab w0 w' g bs T' := ⟨h', (h.fr.tr0 f).tr f'⟩

theorem lay_new {w0 w w1 : World} {g cap b n : Nat} {bs : Nat → Nat} {T : Tb} {s e next : Int} (l : List Int) {t : TypeId} (h : Tab w0 w g bs T) (f : Fr [] w w1) (hs0 : 0 ≤ s) (hs : s < 14) (he0 : 0 ≤ e) (he : e < 34) (hb : Blk w1 b (arr l) t) (hbw : w.heap.size ≤ b) (hw : okI l = true) (hn : n = l.length) :
    Calls Tryz.prog 140 #[.slice (some ⟨g, 0, none⟩) 14 cap, .int .i64 s, .int .i64 e, .int .i64 next, .slice (some ⟨b, 0, none⟩) n n] w1 fun r w' =>
      r = .returned (.tuple #[]) ∧ Tab w0 w' g bs (layI s e next l T) ∧ Fr (tbL bs) w1 w' := by
  refine (grid_lay w1 g cap bs T s e next l _ _ _ (h.is.fr f) hs0 hs he0 he (Ints.newAt hb hw hn (Fr.refl _ _)) (fun B n' c' e hB => ?_)).mono ?_
  · cases e; have := h.is.ltX _ hB; simp at this; omega
  · rintro r w' ⟨rfl, h1, f1⟩
    exact ⟨rfl, h.step f h1 f1, f1⟩

def okS (l : List Int) : Bool := decide (l.length ≤ 100) && l.all fun x => decide (0 ≤ x) && decide (x < 14)
def okE (l : List Int) : Bool := decide (l.length ≤ 100) && l.all fun x => decide (0 ≤ x) && decide (x < 34)
theorem okS.of {l : List Int} (h : okS l = true) : l.length ≤ 100 ∧ ∀ x ∈ l, 0 ≤ x ∧ x < 14 := by simpa [okS] using h
theorem okE.of {l : List Int} (h : okE l = true) : l.length ≤ 100 ∧ ∀ x ∈ l, 0 ≤ x ∧ x < 34 := by simpa [okE] using h

theorem each_new {w0 w w1 : World} {g cap bi ni ci be ne b n : Nat} {bs : Nat → Nat} {T : Tb} {next : Int} (ins evs l : List Int) {t u : TypeId} (h : Tab w0 w g bs T) (f : Fr [] w w1) (hi : RowI w1 bi ins) (hi1 : bi ∉ tbL bs) (hi2 : okS ins = true) (hni : ni = ins.length)
    (he : Blk w1 be (arr evs) u) (he1 : w.heap.size ≤ be) (he2 : okE evs = true) (hne : ne = evs.length) (hb : Blk w1 b (arr l) t) (hbw : w.heap.size ≤ b) (hw : okI l = true) (hn : n = l.length) (hll : l.length ≤ 1000) :
    Calls Tryz.prog 141 #[.slice (some ⟨g, 0, none⟩) 14 cap, .slice (some ⟨bi, 0, none⟩) ni ci, .slice (some ⟨be, 0, none⟩) ne ne, .int .i64 next, .slice (some ⟨b, 0, none⟩) n n] w1 fun r w' =>
      r = .returned (.tuple #[]) ∧ Tab w0 w' g bs (eachM ins evs next l T) ∧ Fr (tbL bs) w1 w' := by
  subst hni hne
  have young : ∀ {b}, w.heap.size ≤ b → b ∉ tbL bs := fun hb hm => by have := h.is.lt _ hm; omega
  have youngX : ∀ {b}, w.heap.size ≤ b → b ∉ tbX bs := fun hb hm => by have := h.is.ltX _ hm; omega
  refine (grid_each w1 g cap bs T bi ci be evs.length ins evs next l _ _ _ (h.is.fr f) hi hi1 (okS.of hi2).2 (RowI.newAt he (Fr.refl _ _)) (young he1) (okE.of he2).2 (okS.of hi2).1 (okE.of he2).1 hll (Ints.newAt hb hw hn (Fr.refl _ _)) (fun B n' c' e hB => ?_)).mono ?_
  · cases e; exact youngX hbw hB
  · rintro r w' ⟨rfl, h1, f1⟩
    exact ⟨rfl, h.step f h1 f1, f1⟩

/-- A slice of these numbers, outside of the blocks X. -/
def IsN (X : List Nat) (l : List Int) : World → Value → Prop := fun w v => ∃ s : Sl, v = .slice s.A s.n s.c ∧ Ints .i64 w s.v l ∧ ∀ A n c, s.v = .slice (some A) n c → A.block ∉ X
theorem IsN.keeps (X : List Nat) (l : List Int) : Keeps [] (IsN X l) := fun _ _ _ hf ⟨s, e, h, y⟩ => ⟨s, e, h.fr hf, y⟩
/-- A slice of such slices. -/
def IsSS (ls : List (List Int)) : World → Value → Prop := fun w v => ∃ b, ∃ ss : List Sl, v = .slice (some ⟨b, 0, none⟩) ss.length ss.length ∧ ∃ hl : ss.length ≤ ls.length, ls.length ≤ ss.length ∧ (∀ i (h : i < ss.length), w.cell? ⟨b, i, none⟩ = some (.slice ss[i].A ss[i].n ss[i].c)) ∧ ∀ i (h : i < ss.length), Ints .i64 w ss[i].v (ls[i]'(by omega))
theorem IsSS.keeps (ls : List (List Int)) : Keeps [] (IsSS ls) := fun _ _ _ hf ⟨b, ss, e, h1, h2, h3, h4⟩ => ⟨b, ss, e, h1, h2, fun i h => hf.cell (h3 i h) (by simp), fun i h => (h4 i h).fr hf⟩
theorem IsSS.two {w : World} {b : Nat} {s1 s2 : Sl} {l1 l2 : List Int} {t : TypeId} (hb : Blk w b #[.slice s1.A s1.n s1.c, .slice s2.A s2.n s2.c] t) (h1 : Ints .i64 w s1.v l1) (h2 : Ints .i64 w s2.v l2) : IsSS [l1, l2] w (.slice (some ⟨b, 0, none⟩) 2 2) := by
  refine ⟨b, [s1, s2], rfl, by simp, by simp, fun i h => ?_, fun i h => ?_⟩
  · match i, h with
    | 0, _ => exact hb.cell 0 rfl
    | 1, _ => exact hb.cell 1 rfl
    | i + 2, h => exact absurd h (by simp)
  · match i, h with
    | 0, _ => exact h1
    | 1, _ => exact h2
    | i + 2, h => exact absurd h (by simp)
theorem IsSS.three {w : World} {b : Nat} {s1 s2 s3 : Sl} {l1 l2 l3 : List Int} {t : TypeId} (hb : Blk w b #[.slice s1.A s1.n s1.c, .slice s2.A s2.n s2.c, .slice s3.A s3.n s3.c] t) (h1 : Ints .i64 w s1.v l1) (h2 : Ints .i64 w s2.v l2) (h3 : Ints .i64 w s3.v l3) : IsSS [l1, l2, l3] w (.slice (some ⟨b, 0, none⟩) 3 3) := by
  refine ⟨b, [s1, s2, s3], rfl, by simp, by simp, fun i h => ?_, fun i h => ?_⟩
  · match i, h with
    | 0, _ => exact hb.cell 0 rfl
    | 1, _ => exact hb.cell 1 rfl
    | 2, _ => exact hb.cell 2 rfl
    | i + 3, h => exact absurd h (by simp)
  · match i, h with
    | 0, _ => exact h1
    | 1, _ => exact h2
    | 2, _ => exact h3
    | i + 3, h => exact absurd h (by simp)
theorem IsSS.concat {w wx : World} {X : List Nat} {v : Value} {ls : List (List Int)} (h : IsSS ls wx v) (hn : ls.length ≤ 8) (hS : ∀ l ∈ ls, l.length ≤ 1000) (hX : ∀ b ∈ X, b < w.heap.size) (f : Fr [] w wx) :
    Calls Tryz.prog 144 #[v] wx fun e w' => ∃ v', e = .returned v' ∧ IsN X ls.flatten w' v' ∧ Fr [] wx w' := by
  obtain ⟨b, ss, rfl, h1, h2, h3, h4⟩ := h
  refine (slices_Concat wx b ss ls h3 h1 h2 (by omega) h4 hS).mono ?_
  rintro e w' ⟨s, rfl, hI, hy, f1⟩
  exact ⟨_, rfl, ⟨s, rfl, hI, fun A n c e hm => by have := hy A n c e; have := hX _ hm; have := f.size; omega⟩, f1⟩

set_option maxHeartbeats 2000000 in
set_option maxRecDepth 100000 in
theorem grid_answers1 (w0 w : World) (g cap : Nat) (bs : Nat → Nat) (T : Tb) (b2 b3 : Nat) (p0 p1 p2 asked p4 : Int) (s e : Int) (hd tl : Sl) (lh lt : List Int) (h : Tab w0 w g bs T) (h2 : Blk w b2 #[.slice (some ⟨g, 0, none⟩) 14 cap] 140) (h3 : Blk w b3 #[.int .i64 p0, .int .i64 p1, .int .i64 p2, .int .i64 asked, .int .i64 p4] 145)
    (h2n : b2 ∉ tbL bs) (h3n : b3 ∉ tbL bs) (hs0 : 0 ≤ s) (hs : s < 14) (he0 : 0 ≤ e) (he : e < 33) (hh : Ints .i64 w hd.v lh) (ht : Ints .i64 w tl.v lt) (hhn : ∀ A n c, hd.v = .slice (some A) n c → A.block ∉ tbX bs) (htn : ∀ A n c, tl.v = .slice (some A) n c → A.block ∉ tbX bs) (hlh : lh.length ≤ 100) (hlt : lt.length ≤ 100) (hwa : okI [asked] = true) :
    Calls Tryz.prog 143 #[.int .i64 s, .int .i64 e, .slice hd.A hd.n hd.c, .slice tl.A tl.n tl.c, .pointer (some ⟨b2, 0, none⟩), .pointer (some ⟨b3, 0, none⟩)] w fun r w' =>
      r = .returned (.tuple #[]) ∧ Tab w0 w' g bs (layI s (e + 1) (-1) [lh, [asked], lt].flatten (layI s e (-1) [lh, lt].flatten T)) ∧ Fr (tbL bs) w w' := by
  have c2 := h2.cell 0 rfl
  have hw : IntKind.i64.wrap (e + 1) = e + 1 := IntWalk.i64_in _ (by omega)
  go_enter Tryz.func143, Tryz.ntmps143
  go_wp2
  have k2 : ∀ wx, Fr [] w wx → wx.cell? ⟨b2, 0, none⟩ = some (.slice (some ⟨g, 0, none⟩) 14 cap) := fun wx hf => hf.cell (h2.cell 0 rfl) (by simp)
  refine wp_region_keepsL [] [Is (.slice (some ⟨g, 0, none⟩) 14 cap), Is (.int .i64 s), Is (.int .i64 e), Is (.slice hd.A hd.n hd.c), Is (.slice tl.A tl.n tl.c), IsSS [lh, lt], IsN (tbX bs) [lh, lt].flatten] 7 rfl rfl (by kernel_rfl) (by kernel_rfl) (by kernel_rfl) (by kernel_rfl) (by kernel_rfl) ?hV ?hS ?hD
  case hV =>
    repeat (first | exact trivial | exact Is.keeps _ | exact Any.keeps | exact IsSl.keeps _ _ _ | exact IsSS.keeps _ | exact  IsN.keeps _ _ | refine And.intro ?_ ?_)
  case hS =>
    (repeat' (first | exact trivial | refine And.intro ?_ ?_))
    · intro ac wx hf hs hp K hK
      simp only [zA, Region.binds, Nat.reduceAdd] at hp
      have hs4 := hs 4 (by kernel_rfl)
      simp only [Array.getD_eq_getD_getElem?, List.getElem?_toArray, List.getElem?_cons_succ, List.getElem?_cons_zero, Option.getD_some] at hs4
      clear hs
      have cx := k2 wx hf
      clear hf
      (try simp only [hp])
      go_simp
      try dsimp only
      refine hK.out _ _ ?_ ?_
      · (repeat (first | with_reducible (first | exact Fr.refl _ _ | assumption | refine Fr.drew ?_ | refine Fr.drewN ?_ _ | refine Fr.alloc ?_ _ | refine Fr.setL ?_ _ _ _ ?_) | (left; simp; done) | (right; first | (simp; done) | (simp; omega) | omega)); done)
      · simp only [nth]
        first | (unfold Is; rfl) | (unfold Any; exact trivial) | exact IsSl.new _ _ _ _ | assumption
    · intro ac wx hf hs hp K hK
      simp only [zA, Region.binds, Nat.reduceAdd] at hp
      have hs0 := hs 0 (by kernel_rfl)
      simp only [Array.getD_eq_getD_getElem?, List.getElem?_toArray, List.getElem?_cons_succ, List.getElem?_cons_zero, Option.getD_some] at hs0
      clear hs
      clear hf
      (try simp only [hp])
      go_simp
      try dsimp only
      refine hK.out _ _ ?_ ?_
      · (repeat (first | with_reducible (first | exact Fr.refl _ _ | assumption | refine Fr.drew ?_ | refine Fr.drewN ?_ _ | refine Fr.alloc ?_ _ | refine Fr.setL ?_ _ _ _ ?_) | (left; simp; done) | (right; first | (simp; done) | (simp; omega) | omega)); done)
      · simp only [nth]
        first | (unfold Is; rfl) | (unfold Any; exact trivial) | exact IsSl.new _ _ _ _ | assumption
    · intro ac wx hf hs hp K hK
      simp only [zA, Region.binds, Nat.reduceAdd] at hp
      have hs1 := hs 1 (by kernel_rfl)
      simp only [Array.getD_eq_getD_getElem?, List.getElem?_toArray, List.getElem?_cons_succ, List.getElem?_cons_zero, Option.getD_some] at hs1
      clear hs
      clear hf
      (try simp only [hp])
      go_simp
      try dsimp only
      refine hK.out _ _ ?_ ?_
      · (repeat (first | with_reducible (first | exact Fr.refl _ _ | assumption | refine Fr.drew ?_ | refine Fr.drewN ?_ _ | refine Fr.alloc ?_ _ | refine Fr.setL ?_ _ _ _ ?_) | (left; simp; done) | (right; first | (simp; done) | (simp; omega) | omega)); done)
      · simp only [nth]
        first | (unfold Is; rfl) | (unfold Any; exact trivial) | exact IsSl.new _ _ _ _ | assumption
    · intro ac wx hf hs hp K hK
      simp only [zA, Region.binds, Nat.reduceAdd] at hp
      have hs2 := hs 2 (by kernel_rfl)
      simp only [Array.getD_eq_getD_getElem?, List.getElem?_toArray, List.getElem?_cons_succ, List.getElem?_cons_zero, Option.getD_some] at hs2
      clear hs
      clear hf
      (try simp only [hp])
      go_simp
      try dsimp only
      refine hK.out _ _ ?_ ?_
      · (repeat (first | with_reducible (first | exact Fr.refl _ _ | assumption | refine Fr.drew ?_ | refine Fr.drewN ?_ _ | refine Fr.alloc ?_ _ | refine Fr.setL ?_ _ _ _ ?_) | (left; simp; done) | (right; first | (simp; done) | (simp; omega) | omega)); done)
      · simp only [nth]
        first | (unfold Is; rfl) | (unfold Any; exact trivial) | exact IsSl.new _ _ _ _ | assumption
    · intro ac wx hf hs hp K hK
      simp only [zA, Region.binds, Nat.reduceAdd] at hp
      have hs3 := hs 3 (by kernel_rfl)
      simp only [Array.getD_eq_getD_getElem?, List.getElem?_toArray, List.getElem?_cons_succ, List.getElem?_cons_zero, Option.getD_some] at hs3
      clear hs
      clear hf
      (try simp only [hp])
      go_simp
      try dsimp only
      refine hK.out _ _ ?_ ?_
      · (repeat (first | with_reducible (first | exact Fr.refl _ _ | assumption | refine Fr.drew ?_ | refine Fr.drewN ?_ _ | refine Fr.alloc ?_ _ | refine Fr.setL ?_ _ _ _ ?_) | (left; simp; done) | (right; first | (simp; done) | (simp; omega) | omega)); done)
      · simp only [nth]
        first | (unfold Is; rfl) | (unfold Any; exact trivial) | exact IsSl.new _ _ _ _ | assumption
    · intro ac wx hf hs hp K hK
      simp only [zA, Region.binds, Nat.reduceAdd] at hp
      clear hs
      simp only [hp]
      go_simp
      refine hK.out _ _ ((Fr.refl _ _).alloc _) ?_
      exact IsSS.two (Blk.new _ _ _) ((hh.fr hf).fr ((Fr.refl _ _).alloc _)) ((ht.fr hf).fr ((Fr.refl _ _).alloc _))
    · intro ac wx hf hs hp K hK
      simp only [zA, Region.binds, Nat.reduceAdd] at hp
      clear hs
      go_simp
      go_at_call 144
      refine (IsSS.concat (X := tbX bs) hp (by simp) (by simp; omega) h.is.ltX hf).mono ?_
      rintro e w' ⟨v', rfl, hN, f1⟩
      exact hK.out _ _ f1 hN
  case hD =>
    intro x wx hf hp
    simp only [fill, List.setIfInBounds_toArray, List.set_cons_zero, List.set_cons_succ, Nat.reduceAdd, Act.put]
    simp only [List.length_cons, List.length_nil, Nat.reduceAdd, List.range_eq_range', List.range'_succ, List.range'_zero, Nat.zero_add, Nat.add_zero, holds, nth, Is, Any, true_and, and_true] at hp
    obtain ⟨x0, x1, x2, x3, x4, -, s1, x6, hI, hn⟩ := hp
    simp only [x0, x1, x2, x3, x4, x6]
    clear x0 x1 x2 x3 x4 x6
    go_simp
    go_at_call 140
    refine (grid_lay wx g cap bs T s e (-1) _ s1.A s1.n s1.c (h.is.fr hf) hs0 hs he0 (by omega) hI hn).mono ?_
    rintro r w1 ⟨rfl, hT1, f1⟩
    have hh1 := (hh.fr hf).frL f1 (fun A n c e => tbX_L (hhn A n c e))
    have ht1 := (ht.fr hf).frL f1 (fun A n c e => tbX_L (htn A n c e))
    have h1 := h.step hf hT1 f1
    have fw : Fr (tbL bs) w w1 := ((Fr.refl _ _).tr0 hf).tr f1
    have h21 := (h2.fr hf (by simp)).fr f1 h2n
    have h31 := (h3.fr hf (by simp)).fr f1 h3n
    clear h h2 h3 hh ht hf k2 c2 hI hn hT1 f1
    go_wp2
    have k2 : ∀ wx, Fr [] w1 wx → wx.cell? ⟨b2, 0, none⟩ = some (.slice (some ⟨g, 0, none⟩) 14 cap) := fun wx hf => hf.cell (h21.cell 0 rfl) (by simp)
    have k3 : ∀ wx, Fr [] w1 wx → wx.cell? ⟨b3, 3, none⟩ = some (.int .i64 asked) := fun wx hf => hf.cell (h31.cell 3 rfl) (by simp)
    refine wp_region_keepsL [] [Is (.slice (some ⟨g, 0, none⟩) 14 cap), Is (.int .i64 s), Is (.int .i64 e), Is (.int .i64 (e + 1)), Is (.slice hd.A hd.n hd.c), Is (.pointer (some ⟨b3, 3, none⟩)), Is (.int .i64 asked), IsN (tbX bs) [asked], IsN (tbX bs) [asked], Is (.slice tl.A tl.n tl.c), IsSS [lh, [asked], lt], IsN (tbX bs) [lh, [asked], lt].flatten] 12 rfl rfl (by kernel_rfl) (by kernel_rfl) (by kernel_rfl) (by kernel_rfl) (by kernel_rfl) ?hV ?hS ?hD
    case hV =>
      repeat (first | exact trivial | exact Is.keeps _ | exact Any.keeps | exact IsSl.keeps _ _ _ | exact IsSS.keeps _ | exact  IsN.keeps _ _ | refine And.intro ?_ ?_)
    case hS =>
      (repeat' (first | exact trivial | refine And.intro ?_ ?_))
      · intro ac wx hf hs hp K hK
        simp only [zA, Region.binds, Nat.reduceAdd] at hp
        have hs4 := hs 4 (by kernel_rfl)
        simp only [Array.getD_eq_getD_getElem?, List.getElem?_toArray, List.getElem?_cons_succ, List.getElem?_cons_zero, Option.getD_some] at hs4
        clear hs
        have cx := k2 wx hf
        clear hf
        (try simp only [hp])
        go_simp
        try dsimp only
        refine hK.out _ _ ?_ ?_
        · (repeat (first | with_reducible (first | exact Fr.refl _ _ | assumption | refine Fr.drew ?_ | refine Fr.drewN ?_ _ | refine Fr.alloc ?_ _ | refine Fr.setL ?_ _ _ _ ?_) | (left; simp; done) | (right; first | (simp; done) | (simp; omega) | omega)); done)
        · simp only [nth]
          first | (unfold Is; rfl) | (unfold Any; exact trivial) | exact IsSl.new _ _ _ _ | assumption
      · intro ac wx hf hs hp K hK
        simp only [zA, Region.binds, Nat.reduceAdd] at hp
        have hs0 := hs 0 (by kernel_rfl)
        simp only [Array.getD_eq_getD_getElem?, List.getElem?_toArray, List.getElem?_cons_succ, List.getElem?_cons_zero, Option.getD_some] at hs0
        clear hs
        clear hf
        (try simp only [hp])
        go_simp
        try dsimp only
        refine hK.out _ _ ?_ ?_
        · (repeat (first | with_reducible (first | exact Fr.refl _ _ | assumption | refine Fr.drew ?_ | refine Fr.drewN ?_ _ | refine Fr.alloc ?_ _ | refine Fr.setL ?_ _ _ _ ?_) | (left; simp; done) | (right; first | (simp; done) | (simp; omega) | omega)); done)
        · simp only [nth]
          first | (unfold Is; rfl) | (unfold Any; exact trivial) | exact IsSl.new _ _ _ _ | assumption
      · intro ac wx hf hs hp K hK
        simp only [zA, Region.binds, Nat.reduceAdd] at hp
        have hs1 := hs 1 (by kernel_rfl)
        simp only [Array.getD_eq_getD_getElem?, List.getElem?_toArray, List.getElem?_cons_succ, List.getElem?_cons_zero, Option.getD_some] at hs1
        clear hs
        clear hf
        (try simp only [hp])
        go_simp
        try dsimp only
        refine hK.out _ _ ?_ ?_
        · (repeat (first | with_reducible (first | exact Fr.refl _ _ | assumption | refine Fr.drew ?_ | refine Fr.drewN ?_ _ | refine Fr.alloc ?_ _ | refine Fr.setL ?_ _ _ _ ?_) | (left; simp; done) | (right; first | (simp; done) | (simp; omega) | omega)); done)
        · simp only [nth]
          first | (unfold Is; rfl) | (unfold Any; exact trivial) | exact IsSl.new _ _ _ _ | assumption
      · intro ac wx hf hs hp K hK
        simp only [zA, Region.binds, Nat.reduceAdd] at hp
        clear hs
        clear hf
        (try simp only [hp])
        go_simp
        try dsimp only
        refine hK.out _ _ ?_ ?_
        · (repeat (first | with_reducible (first | exact Fr.refl _ _ | assumption | refine Fr.drew ?_ | refine Fr.drewN ?_ _ | refine Fr.alloc ?_ _ | refine Fr.setL ?_ _ _ _ ?_) | (left; simp; done) | (right; first | (simp; done) | (simp; omega) | omega)); done)
        · simp only [nth]
          first | (unfold Is; rfl) | (unfold Any; exact trivial) | exact IsSl.new _ _ _ _ | assumption
      · intro ac wx hf hs hp K hK
        simp only [zA, Region.binds, Nat.reduceAdd] at hp
        have hs2 := hs 2 (by kernel_rfl)
        simp only [Array.getD_eq_getD_getElem?, List.getElem?_toArray, List.getElem?_cons_succ, List.getElem?_cons_zero, Option.getD_some] at hs2
        clear hs
        clear hf
        (try simp only [hp])
        go_simp
        try dsimp only
        refine hK.out _ _ ?_ ?_
        · (repeat (first | with_reducible (first | exact Fr.refl _ _ | assumption | refine Fr.drew ?_ | refine Fr.drewN ?_ _ | refine Fr.alloc ?_ _ | refine Fr.setL ?_ _ _ _ ?_) | (left; simp; done) | (right; first | (simp; done) | (simp; omega) | omega)); done)
        · simp only [nth]
          first | (unfold Is; rfl) | (unfold Any; exact trivial) | exact IsSl.new _ _ _ _ | assumption
      · intro ac wx hf hs hp K hK
        simp only [zA, Region.binds, Nat.reduceAdd] at hp
        have hs5 := hs 5 (by kernel_rfl)
        simp only [Array.getD_eq_getD_getElem?, List.getElem?_toArray, List.getElem?_cons_succ, List.getElem?_cons_zero, Option.getD_some] at hs5
        clear hs
        clear hf
        (try simp only [hp])
        go_simp
        try dsimp only
        refine hK.out _ _ ?_ ?_
        · (repeat (first | with_reducible (first | exact Fr.refl _ _ | assumption | refine Fr.drew ?_ | refine Fr.drewN ?_ _ | refine Fr.alloc ?_ _ | refine Fr.setL ?_ _ _ _ ?_) | (left; simp; done) | (right; first | (simp; done) | (simp; omega) | omega)); done)
        · simp only [nth]
          first | (unfold Is; rfl) | (unfold Any; exact trivial) | exact IsSl.new _ _ _ _ | assumption
      · intro ac wx hf hs hp K hK
        simp only [zA, Region.binds, Nat.reduceAdd] at hp
        clear hs
        have cx := k3 wx hf
        clear hf
        (try simp only [hp])
        go_simp
        try dsimp only
        refine hK.out _ _ ?_ ?_
        · (repeat (first | with_reducible (first | exact Fr.refl _ _ | assumption | refine Fr.drew ?_ | refine Fr.drewN ?_ _ | refine Fr.alloc ?_ _ | refine Fr.setL ?_ _ _ _ ?_) | (left; simp; done) | (right; first | (simp; done) | (simp; omega) | omega)); done)
        · simp only [nth]
          first | (unfold Is; rfl) | (unfold Any; exact trivial) | exact IsSl.new _ _ _ _ | assumption
      · intro ac wx hf hs hp K hK
        simp only [zA, Region.binds, Nat.reduceAdd] at hp
        clear hs
        simp only [hp]
        go_simp
        refine hK.out _ _ ((Fr.refl _ _).alloc _) ?_
        exact ⟨⟨_, 1, 1⟩, rfl, Ints.newAt (l := [asked]) (Blk.new _ _ _) hwa rfl (Fr.refl _ _), fun A n c e hm => by cases e; have h9 : wx.heap.size < _ := h1.is.ltX _ hm; have := hf.size; omega⟩
      · intro ac wx hf hs hp K hK
        simp only [zA, Region.binds, Nat.reduceAdd] at hp
        clear hs
        obtain ⟨s2, e2, h2, h2'⟩ := hp
        go_simp
        go_at_call 142
        refine (grid_some _ _).mono ?_
        rintro e w' ⟨rfl, rfl⟩
        exact hK.out _ _ (Fr.refl _ _) ⟨s2, rfl, h2, h2'⟩
      · intro ac wx hf hs hp K hK
        simp only [zA, Region.binds, Nat.reduceAdd] at hp
        have hs3 := hs 3 (by kernel_rfl)
        simp only [Array.getD_eq_getD_getElem?, List.getElem?_toArray, List.getElem?_cons_succ, List.getElem?_cons_zero, Option.getD_some] at hs3
        clear hs
        clear hf
        (try simp only [hp])
        go_simp
        try dsimp only
        refine hK.out _ _ ?_ ?_
        · (repeat (first | with_reducible (first | exact Fr.refl _ _ | assumption | refine Fr.drew ?_ | refine Fr.drewN ?_ _ | refine Fr.alloc ?_ _ | refine Fr.setL ?_ _ _ _ ?_) | (left; simp; done) | (right; first | (simp; done) | (simp; omega) | omega)); done)
        · simp only [nth]
          first | (unfold Is; rfl) | (unfold Any; exact trivial) | exact IsSl.new _ _ _ _ | assumption
      · intro ac wx hf hs hp K hK
        simp only [zA, Region.binds, Nat.reduceAdd] at hp
        clear hs
        obtain ⟨h22, ⟨s2, h26, hI2, -⟩, h27⟩ := hp
        go_simp
        refine hK.out _ _ ((Fr.refl _ _).alloc _) ?_
        exact IsSS.three (Blk.new _ _ _) ((hh1.fr hf).fr ((Fr.refl _ _).alloc _)) (hI2.fr ((Fr.refl _ _).alloc _)) ((ht1.fr hf).fr ((Fr.refl _ _).alloc _))
      · intro ac wx hf hs hp K hK
        simp only [zA, Region.binds, Nat.reduceAdd] at hp
        clear hs
        go_simp
        go_at_call 144
        refine (IsSS.concat (X := tbX bs) hp.1 (by simp) (by simp; omega) h1.is.ltX hf).mono ?_
        rintro e w' ⟨v', rfl, hN, f1⟩
        exact hK.out _ _ f1 hN
    case hD =>
      intro x wx hf hp
      simp only [fill, List.setIfInBounds_toArray, List.set_cons_zero, List.set_cons_succ, Nat.reduceAdd, Act.put]
      simp only [List.length_cons, List.length_nil, Nat.reduceAdd, List.range_eq_range', List.range'_succ, List.range'_zero, Nat.zero_add, Nat.add_zero, holds, nth, Is, Any, true_and, and_true] at hp
      obtain ⟨x0, x1, x2, x3, x4, x5, x6, -, -, x9, -, s2, x11, hI, hn⟩ := hp
      simp only [x0, x1, x2, x3, x4, x5, x6, x9, x11]
      clear x0 x1 x2 x3 x4 x5 x6 x9 x11
      go_simp
      go_at_call 140
      refine (grid_lay wx g cap bs _ s (e + 1) (-1) _ s2.A s2.n s2.c (h1.is.fr hf) hs0 hs (by omega) (by omega) hI hn).mono ?_
      rintro r w2 ⟨rfl, hT2, f2⟩
      go_wp2
      go_end0
      exact ⟨rfl, h1.step hf hT2 f2, (fw.tr0 hf).tr f2⟩

set_option maxHeartbeats 2000000 in
set_option maxRecDepth 100000 in
theorem grid_infos1 (w0 w : World) (g cap : Nat) (bs : Nat → Nat) (T : Tb) (b2 : Nat) (said asked s e next : Int) (hd tl : Sl) (lh lt : List Int) (h : Tab w0 w g bs T) (h2 : Blk w b2 #[.slice (some ⟨g, 0, none⟩) 14 cap] 140)
    (h2n : b2 ∉ tbL bs) (hs0 : 0 ≤ s) (hs : s < 14) (he0 : 0 ≤ e) (he : e < 33) (hh : Ints .i64 w hd.v lh) (ht : Ints .i64 w tl.v lt) (hhn : ∀ A n c, hd.v = .slice (some A) n c → A.block ∉ tbX bs) (htn : ∀ A n c, tl.v = .slice (some A) n c → A.block ∉ tbX bs) (hlh : lh.length ≤ 100) (hlt : lt.length ≤ 100) (hws : okI [said] = true) (hwa : okI [asked] = true) :
    Calls Tryz.prog 145 #[.int .i64 s, .int .i64 e, .int .i64 next, .int .i64 said, .int .i64 asked, .slice hd.A hd.n hd.c, .slice tl.A tl.n tl.c, .pointer (some ⟨b2, 0, none⟩)] w fun r w' =>
      r = .returned (.tuple #[]) ∧ Tab w0 w' g bs (layI s (e + 1) next [lh, [asked], lt].flatten (layI s e next [lh, [said], lt].flatten T)) ∧ Fr (tbL bs) w w' := by
  have hw : IntKind.i64.wrap (e + 1) = e + 1 := IntWalk.i64_in _ (by omega)
  go_enter Tryz.func145, Tryz.ntmps145
  go_wp2
  have k2 : ∀ wx, Fr [] w wx → wx.cell? ⟨b2, 0, none⟩ = some (.slice (some ⟨g, 0, none⟩) 14 cap) := fun wx hf => hf.cell (h2.cell 0 rfl) (by simp)
  refine wp_region_keepsL [] [Is (.slice (some ⟨g, 0, none⟩) 14 cap), Is (.int .i64 s), Is (.int .i64 e), Is (.int .i64 next), Is (.slice hd.A hd.n hd.c), Is (.int .i64 said), IsN (tbX bs) [said], IsN (tbX bs) [said], Is (.slice tl.A tl.n tl.c), IsSS [lh, [said], lt], IsN (tbX bs) [lh, [said], lt].flatten] 11 rfl rfl (by kernel_rfl) (by kernel_rfl) (by kernel_rfl) (by kernel_rfl) (by kernel_rfl) ?hV ?hS ?hD
  case hV =>
    repeat (first | exact trivial | exact Is.keeps _ | exact Any.keeps | exact IsSl.keeps _ _ _ | exact IsSS.keeps _ | exact  IsN.keeps _ _ | refine And.intro ?_ ?_)
  case hS =>
    (repeat' (first | exact trivial | refine And.intro ?_ ?_))
    · intro ac wx hf hs hp K hK
      simp only [zA, Region.binds, Nat.reduceAdd] at hp
      have hs7 := hs 7 (by kernel_rfl)
      simp only [Array.getD_eq_getD_getElem?, List.getElem?_toArray, List.getElem?_cons_succ, List.getElem?_cons_zero, Option.getD_some] at hs7
      clear hs
      have cx := k2 wx hf
      clear hf
      (try simp only [hp])
      go_simp
      try dsimp only
      refine hK.out _ _ ?_ ?_
      · (repeat (first | with_reducible (first | exact Fr.refl _ _ | assumption | refine Fr.drew ?_ | refine Fr.drewN ?_ _ | refine Fr.alloc ?_ _ | refine Fr.setL ?_ _ _ _ ?_) | (left; simp; done) | (right; first | (simp; done) | (simp; omega) | omega)); done)
      · simp only [nth]
        first | (unfold Is; rfl) | (unfold Any; exact trivial) | exact IsSl.new _ _ _ _ | assumption
    · intro ac wx hf hs hp K hK
      simp only [zA, Region.binds, Nat.reduceAdd] at hp
      have hs0 := hs 0 (by kernel_rfl)
      simp only [Array.getD_eq_getD_getElem?, List.getElem?_toArray, List.getElem?_cons_succ, List.getElem?_cons_zero, Option.getD_some] at hs0
      clear hs
      clear hf
      (try simp only [hp])
      go_simp
      try dsimp only
      refine hK.out _ _ ?_ ?_
      · (repeat (first | with_reducible (first | exact Fr.refl _ _ | assumption | refine Fr.drew ?_ | refine Fr.drewN ?_ _ | refine Fr.alloc ?_ _ | refine Fr.setL ?_ _ _ _ ?_) | (left; simp; done) | (right; first | (simp; done) | (simp; omega) | omega)); done)
      · simp only [nth]
        first | (unfold Is; rfl) | (unfold Any; exact trivial) | exact IsSl.new _ _ _ _ | assumption
    · intro ac wx hf hs hp K hK
      simp only [zA, Region.binds, Nat.reduceAdd] at hp
      have hs1 := hs 1 (by kernel_rfl)
      simp only [Array.getD_eq_getD_getElem?, List.getElem?_toArray, List.getElem?_cons_succ, List.getElem?_cons_zero, Option.getD_some] at hs1
      clear hs
      clear hf
      (try simp only [hp])
      go_simp
      try dsimp only
      refine hK.out _ _ ?_ ?_
      · (repeat (first | with_reducible (first | exact Fr.refl _ _ | assumption | refine Fr.drew ?_ | refine Fr.drewN ?_ _ | refine Fr.alloc ?_ _ | refine Fr.setL ?_ _ _ _ ?_) | (left; simp; done) | (right; first | (simp; done) | (simp; omega) | omega)); done)
      · simp only [nth]
        first | (unfold Is; rfl) | (unfold Any; exact trivial) | exact IsSl.new _ _ _ _ | assumption
    · intro ac wx hf hs hp K hK
      simp only [zA, Region.binds, Nat.reduceAdd] at hp
      have hs2 := hs 2 (by kernel_rfl)
      simp only [Array.getD_eq_getD_getElem?, List.getElem?_toArray, List.getElem?_cons_succ, List.getElem?_cons_zero, Option.getD_some] at hs2
      clear hs
      clear hf
      (try simp only [hp])
      go_simp
      try dsimp only
      refine hK.out _ _ ?_ ?_
      · (repeat (first | with_reducible (first | exact Fr.refl _ _ | assumption | refine Fr.drew ?_ | refine Fr.drewN ?_ _ | refine Fr.alloc ?_ _ | refine Fr.setL ?_ _ _ _ ?_) | (left; simp; done) | (right; first | (simp; done) | (simp; omega) | omega)); done)
      · simp only [nth]
        first | (unfold Is; rfl) | (unfold Any; exact trivial) | exact IsSl.new _ _ _ _ | assumption
    · intro ac wx hf hs hp K hK
      simp only [zA, Region.binds, Nat.reduceAdd] at hp
      have hs5 := hs 5 (by kernel_rfl)
      simp only [Array.getD_eq_getD_getElem?, List.getElem?_toArray, List.getElem?_cons_succ, List.getElem?_cons_zero, Option.getD_some] at hs5
      clear hs
      clear hf
      (try simp only [hp])
      go_simp
      try dsimp only
      refine hK.out _ _ ?_ ?_
      · (repeat (first | with_reducible (first | exact Fr.refl _ _ | assumption | refine Fr.drew ?_ | refine Fr.drewN ?_ _ | refine Fr.alloc ?_ _ | refine Fr.setL ?_ _ _ _ ?_) | (left; simp; done) | (right; first | (simp; done) | (simp; omega) | omega)); done)
      · simp only [nth]
        first | (unfold Is; rfl) | (unfold Any; exact trivial) | exact IsSl.new _ _ _ _ | assumption
    · intro ac wx hf hs hp K hK
      simp only [zA, Region.binds, Nat.reduceAdd] at hp
      have hs3 := hs 3 (by kernel_rfl)
      simp only [Array.getD_eq_getD_getElem?, List.getElem?_toArray, List.getElem?_cons_succ, List.getElem?_cons_zero, Option.getD_some] at hs3
      clear hs
      clear hf
      (try simp only [hp])
      go_simp
      try dsimp only
      refine hK.out _ _ ?_ ?_
      · (repeat (first | with_reducible (first | exact Fr.refl _ _ | assumption | refine Fr.drew ?_ | refine Fr.drewN ?_ _ | refine Fr.alloc ?_ _ | refine Fr.setL ?_ _ _ _ ?_) | (left; simp; done) | (right; first | (simp; done) | (simp; omega) | omega)); done)
      · simp only [nth]
        first | (unfold Is; rfl) | (unfold Any; exact trivial) | exact IsSl.new _ _ _ _ | assumption
    · intro ac wx hf hs hp K hK
      simp only [zA, Region.binds, Nat.reduceAdd] at hp
      clear hs
      simp only [hp]
      go_simp
      refine hK.out _ _ ((Fr.refl _ _).alloc _) ?_
      exact ⟨⟨_, 1, 1⟩, rfl, Ints.newAt (l := [said]) (Blk.new _ _ _) hws rfl (Fr.refl _ _), fun A n c e hm => by cases e; have h9 : wx.heap.size < _ := h.is.ltX _ hm; have := hf.size; omega⟩
    · intro ac wx hf hs hp K hK
      simp only [zA, Region.binds, Nat.reduceAdd] at hp
      clear hs
      obtain ⟨s2, e2, h2, h2'⟩ := hp
      go_simp
      go_at_call 142
      refine (grid_some _ _).mono ?_
      rintro e w' ⟨rfl, rfl⟩
      exact hK.out _ _ (Fr.refl _ _) ⟨s2, rfl, h2, h2'⟩
    · intro ac wx hf hs hp K hK
      simp only [zA, Region.binds, Nat.reduceAdd] at hp
      have hs6 := hs 6 (by kernel_rfl)
      simp only [Array.getD_eq_getD_getElem?, List.getElem?_toArray, List.getElem?_cons_succ, List.getElem?_cons_zero, Option.getD_some] at hs6
      clear hs
      clear hf
      (try simp only [hp])
      go_simp
      try dsimp only
      refine hK.out _ _ ?_ ?_
      · (repeat (first | with_reducible (first | exact Fr.refl _ _ | assumption | refine Fr.drew ?_ | refine Fr.drewN ?_ _ | refine Fr.alloc ?_ _ | refine Fr.setL ?_ _ _ _ ?_) | (left; simp; done) | (right; first | (simp; done) | (simp; omega) | omega)); done)
      · simp only [nth]
        first | (unfold Is; rfl) | (unfold Any; exact trivial) | exact IsSl.new _ _ _ _ | assumption
    · intro ac wx hf hs hp K hK
      simp only [zA, Region.binds, Nat.reduceAdd] at hp
      clear hs
      obtain ⟨h22, ⟨s2, h26, hI2, -⟩, h27⟩ := hp
      go_simp
      refine hK.out _ _ ((Fr.refl _ _).alloc _) ?_
      exact IsSS.three (Blk.new _ _ _) ((hh.fr hf).fr ((Fr.refl _ _).alloc _)) (hI2.fr ((Fr.refl _ _).alloc _)) ((ht.fr hf).fr ((Fr.refl _ _).alloc _))
    · intro ac wx hf hs hp K hK
      simp only [zA, Region.binds, Nat.reduceAdd] at hp
      clear hs
      go_simp
      go_at_call 144
      refine (IsSS.concat (X := tbX bs) hp.1 (by simp) (by simp; omega) h.is.ltX hf).mono ?_
      rintro e w' ⟨v', rfl, hN, f1⟩
      exact hK.out _ _ f1 hN
  case hD =>
    intro x wx hf hp
    simp only [fill, List.setIfInBounds_toArray, List.set_cons_zero, List.set_cons_succ, Nat.reduceAdd, Act.put]
    simp only [List.length_cons, List.length_nil, Nat.reduceAdd, List.range_eq_range', List.range'_succ, List.range'_zero, Nat.zero_add, Nat.add_zero, holds, nth, Is, Any, true_and, and_true] at hp
    obtain ⟨x0, x1, x2, x3, x4, x5, -, -, x8, -, s1, x10, hI, hn⟩ := hp
    simp only [x0, x1, x2, x3, x4, x5, x8, x10]
    clear x0 x1 x2 x3 x4 x5 x8 x10
    go_simp
    go_at_call 140
    refine (grid_lay wx g cap bs T s e next _ s1.A s1.n s1.c (h.is.fr hf) hs0 hs he0 (by omega) hI hn).mono ?_
    rintro r w1 ⟨rfl, hT1, f1⟩
    have hh1 := (hh.fr hf).frL f1 (fun A n c e => tbX_L (hhn A n c e))
    have ht1 := (ht.fr hf).frL f1 (fun A n c e => tbX_L (htn A n c e))
    have h1 := h.step hf hT1 f1
    have fw : Fr (tbL bs) w w1 := ((Fr.refl _ _).tr0 hf).tr f1
    have h21 := (h2.fr hf (by simp)).fr f1 h2n
    clear h h2 hh ht hf k2 hI hn hT1 f1
    go_wp2
    have k2 : ∀ wx, Fr [] w1 wx → wx.cell? ⟨b2, 0, none⟩ = some (.slice (some ⟨g, 0, none⟩) 14 cap) := fun wx hf => hf.cell (h21.cell 0 rfl) (by simp)
    refine wp_region_keepsL [] [Is (.slice (some ⟨g, 0, none⟩) 14 cap), Is (.int .i64 s), Is (.int .i64 e), Is (.int .i64 (e + 1)), Is (.int .i64 next), Is (.slice hd.A hd.n hd.c), Is (.int .i64 asked), IsN (tbX bs) [asked], IsN (tbX bs) [asked], Is (.slice tl.A tl.n tl.c), IsSS [lh, [asked], lt], IsN (tbX bs) [lh, [asked], lt].flatten] 12 rfl rfl (by kernel_rfl) (by kernel_rfl) (by kernel_rfl) (by kernel_rfl) (by kernel_rfl) ?hV ?hS ?hD
    case hV =>
      repeat (first | exact trivial | exact Is.keeps _ | exact Any.keeps | exact IsSl.keeps _ _ _ | exact IsSS.keeps _ | exact  IsN.keeps _ _ | refine And.intro ?_ ?_)
    case hS =>
      (repeat' (first | exact trivial | refine And.intro ?_ ?_))
      · intro ac wx hf hs hp K hK
        simp only [zA, Region.binds, Nat.reduceAdd] at hp
        have hs7 := hs 7 (by kernel_rfl)
        simp only [Array.getD_eq_getD_getElem?, List.getElem?_toArray, List.getElem?_cons_succ, List.getElem?_cons_zero, Option.getD_some] at hs7
        clear hs
        have cx := k2 wx hf
        clear hf
        (try simp only [hp])
        go_simp
        try dsimp only
        refine hK.out _ _ ?_ ?_
        · (repeat (first | with_reducible (first | exact Fr.refl _ _ | assumption | refine Fr.drew ?_ | refine Fr.drewN ?_ _ | refine Fr.alloc ?_ _ | refine Fr.setL ?_ _ _ _ ?_) | (left; simp; done) | (right; first | (simp; done) | (simp; omega) | omega)); done)
        · simp only [nth]
          first | (unfold Is; rfl) | (unfold Any; exact trivial) | exact IsSl.new _ _ _ _ | assumption
      · intro ac wx hf hs hp K hK
        simp only [zA, Region.binds, Nat.reduceAdd] at hp
        have hs0 := hs 0 (by kernel_rfl)
        simp only [Array.getD_eq_getD_getElem?, List.getElem?_toArray, List.getElem?_cons_succ, List.getElem?_cons_zero, Option.getD_some] at hs0
        clear hs
        clear hf
        (try simp only [hp])
        go_simp
        try dsimp only
        refine hK.out _ _ ?_ ?_
        · (repeat (first | with_reducible (first | exact Fr.refl _ _ | assumption | refine Fr.drew ?_ | refine Fr.drewN ?_ _ | refine Fr.alloc ?_ _ | refine Fr.setL ?_ _ _ _ ?_) | (left; simp; done) | (right; first | (simp; done) | (simp; omega) | omega)); done)
        · simp only [nth]
          first | (unfold Is; rfl) | (unfold Any; exact trivial) | exact IsSl.new _ _ _ _ | assumption
      · intro ac wx hf hs hp K hK
        simp only [zA, Region.binds, Nat.reduceAdd] at hp
        have hs1 := hs 1 (by kernel_rfl)
        simp only [Array.getD_eq_getD_getElem?, List.getElem?_toArray, List.getElem?_cons_succ, List.getElem?_cons_zero, Option.getD_some] at hs1
        clear hs
        clear hf
        (try simp only [hp])
        go_simp
        try dsimp only
        refine hK.out _ _ ?_ ?_
        · (repeat (first | with_reducible (first | exact Fr.refl _ _ | assumption | refine Fr.drew ?_ | refine Fr.drewN ?_ _ | refine Fr.alloc ?_ _ | refine Fr.setL ?_ _ _ _ ?_) | (left; simp; done) | (right; first | (simp; done) | (simp; omega) | omega)); done)
        · simp only [nth]
          first | (unfold Is; rfl) | (unfold Any; exact trivial) | exact IsSl.new _ _ _ _ | assumption
      · intro ac wx hf hs hp K hK
        simp only [zA, Region.binds, Nat.reduceAdd] at hp
        clear hs
        clear hf
        (try simp only [hp])
        go_simp
        try dsimp only
        refine hK.out _ _ ?_ ?_
        · (repeat (first | with_reducible (first | exact Fr.refl _ _ | assumption | refine Fr.drew ?_ | refine Fr.drewN ?_ _ | refine Fr.alloc ?_ _ | refine Fr.setL ?_ _ _ _ ?_) | (left; simp; done) | (right; first | (simp; done) | (simp; omega) | omega)); done)
        · simp only [nth]
          first | (unfold Is; rfl) | (unfold Any; exact trivial) | exact IsSl.new _ _ _ _ | assumption
      · intro ac wx hf hs hp K hK
        simp only [zA, Region.binds, Nat.reduceAdd] at hp
        have hs2 := hs 2 (by kernel_rfl)
        simp only [Array.getD_eq_getD_getElem?, List.getElem?_toArray, List.getElem?_cons_succ, List.getElem?_cons_zero, Option.getD_some] at hs2
        clear hs
        clear hf
        (try simp only [hp])
        go_simp
        try dsimp only
        refine hK.out _ _ ?_ ?_
        · (repeat (first | with_reducible (first | exact Fr.refl _ _ | assumption | refine Fr.drew ?_ | refine Fr.drewN ?_ _ | refine Fr.alloc ?_ _ | refine Fr.setL ?_ _ _ _ ?_) | (left; simp; done) | (right; first | (simp; done) | (simp; omega) | omega)); done)
        · simp only [nth]
          first | (unfold Is; rfl) | (unfold Any; exact trivial) | exact IsSl.new _ _ _ _ | assumption
      · intro ac wx hf hs hp K hK
        simp only [zA, Region.binds, Nat.reduceAdd] at hp
        have hs5 := hs 5 (by kernel_rfl)
        simp only [Array.getD_eq_getD_getElem?, List.getElem?_toArray, List.getElem?_cons_succ, List.getElem?_cons_zero, Option.getD_some] at hs5
        clear hs
        clear hf
        (try simp only [hp])
        go_simp
        try dsimp only
        refine hK.out _ _ ?_ ?_
        · (repeat (first | with_reducible (first | exact Fr.refl _ _ | assumption | refine Fr.drew ?_ | refine Fr.drewN ?_ _ | refine Fr.alloc ?_ _ | refine Fr.setL ?_ _ _ _ ?_) | (left; simp; done) | (right; first | (simp; done) | (simp; omega) | omega)); done)
        · simp only [nth]
          first | (unfold Is; rfl) | (unfold Any; exact trivial) | exact IsSl.new _ _ _ _ | assumption
      · intro ac wx hf hs hp K hK
        simp only [zA, Region.binds, Nat.reduceAdd] at hp
        have hs4 := hs 4 (by kernel_rfl)
        simp only [Array.getD_eq_getD_getElem?, List.getElem?_toArray, List.getElem?_cons_succ, List.getElem?_cons_zero, Option.getD_some] at hs4
        clear hs
        clear hf
        (try simp only [hp])
        go_simp
        try dsimp only
        refine hK.out _ _ ?_ ?_
        · (repeat (first | with_reducible (first | exact Fr.refl _ _ | assumption | refine Fr.drew ?_ | refine Fr.drewN ?_ _ | refine Fr.alloc ?_ _ | refine Fr.setL ?_ _ _ _ ?_) | (left; simp; done) | (right; first | (simp; done) | (simp; omega) | omega)); done)
        · simp only [nth]
          first | (unfold Is; rfl) | (unfold Any; exact trivial) | exact IsSl.new _ _ _ _ | assumption
      · intro ac wx hf hs hp K hK
        simp only [zA, Region.binds, Nat.reduceAdd] at hp
        clear hs
        simp only [hp]
        go_simp
        refine hK.out _ _ ((Fr.refl _ _).alloc _) ?_
        exact ⟨⟨_, 1, 1⟩, rfl, Ints.newAt (l := [asked]) (Blk.new _ _ _) hwa rfl (Fr.refl _ _), fun A n c e hm => by cases e; have h9 : wx.heap.size < _ := h1.is.ltX _ hm; have := hf.size; omega⟩
      · intro ac wx hf hs hp K hK
        simp only [zA, Region.binds, Nat.reduceAdd] at hp
        clear hs
        obtain ⟨s2, e2, h2, h2'⟩ := hp
        go_simp
        go_at_call 142
        refine (grid_some _ _).mono ?_
        rintro e w' ⟨rfl, rfl⟩
        exact hK.out _ _ (Fr.refl _ _) ⟨s2, rfl, h2, h2'⟩
      · intro ac wx hf hs hp K hK
        simp only [zA, Region.binds, Nat.reduceAdd] at hp
        have hs6 := hs 6 (by kernel_rfl)
        simp only [Array.getD_eq_getD_getElem?, List.getElem?_toArray, List.getElem?_cons_succ, List.getElem?_cons_zero, Option.getD_some] at hs6
        clear hs
        clear hf
        (try simp only [hp])
        go_simp
        try dsimp only
        refine hK.out _ _ ?_ ?_
        · (repeat (first | with_reducible (first | exact Fr.refl _ _ | assumption | refine Fr.drew ?_ | refine Fr.drewN ?_ _ | refine Fr.alloc ?_ _ | refine Fr.setL ?_ _ _ _ ?_) | (left; simp; done) | (right; first | (simp; done) | (simp; omega) | omega)); done)
        · simp only [nth]
          first | (unfold Is; rfl) | (unfold Any; exact trivial) | exact IsSl.new _ _ _ _ | assumption
      · intro ac wx hf hs hp K hK
        simp only [zA, Region.binds, Nat.reduceAdd] at hp
        clear hs
        obtain ⟨h22, ⟨s2, h26, hI2, -⟩, h27⟩ := hp
        go_simp
        refine hK.out _ _ ((Fr.refl _ _).alloc _) ?_
        exact IsSS.three (Blk.new _ _ _) ((hh1.fr hf).fr ((Fr.refl _ _).alloc _)) (hI2.fr ((Fr.refl _ _).alloc _)) ((ht1.fr hf).fr ((Fr.refl _ _).alloc _))
      · intro ac wx hf hs hp K hK
        simp only [zA, Region.binds, Nat.reduceAdd] at hp
        clear hs
        go_simp
        go_at_call 144
        refine (IsSS.concat (X := tbX bs) hp.1 (by simp) (by simp; omega) h1.is.ltX hf).mono ?_
        rintro e w' ⟨v', rfl, hN, f1⟩
        exact hK.out _ _ f1 hN
    case hD =>
      intro x wx hf hp
      simp only [fill, List.setIfInBounds_toArray, List.set_cons_zero, List.set_cons_succ, Nat.reduceAdd, Act.put]
      simp only [List.length_cons, List.length_nil, Nat.reduceAdd, List.range_eq_range', List.range'_succ, List.range'_zero, Nat.zero_add, Nat.add_zero, holds, nth, Is, Any, true_and, and_true] at hp
      obtain ⟨x0, x1, x2, x3, x4, x5, x6, -, -, x9, -, s2, x11, hI, hn⟩ := hp
      simp only [x0, x1, x2, x3, x4, x5, x6, x9, x11]
      clear x0 x1 x2 x3 x4 x5 x6 x9 x11
      go_simp
      go_at_call 140
      refine (grid_lay wx g cap bs _ s (e + 1) next _ s2.A s2.n s2.c (h1.is.fr hf) hs0 hs (by omega) (by omega) hI hn).mono ?_
      rintro r w2 ⟨rfl, hT2, f2⟩
      go_wp2
      go_end0
      exact ⟨rfl, h1.step hf hT2 f2, (fw.tr0 hf).tr f2⟩
end Go.Proofs.YtneggoonlmmjeaaGreat
namespace Go.Proofs.YtneggoonlmmjeaaGreat
open Go.RowKit Go.Shelf
set_option linter.unusedVariables false
set_option linter.unusedSimpArgs false
set_option maxRecDepth 100000
theorem ownsRow_blk {w : World} {B b : Nat} {cs : Array Value} {t : TypeId} (h : Blk w b cs t) (hb : B ≤ b) (hm : cs.size ≤ maxLen) : w.ownsRow B t 1 (.slice (some ⟨b, 0, none⟩) cs.size cs.size) cs.size cs.toList :=
  ⟨by simp, .inr ⟨b, cs.size, cs, rfl, hb, h, Nat.le_refl _, hm, by simp, by rw [Nat.mul_one, ← Array.length_toList, List.take_length]⟩⟩
theorem RowI.news {w : World} {b : Nat} {l : List Int} (h : RowI w b l) : ∀ (j : Nat) u, (l.map (Value.int .i64))[j]? = some u → w.cell? ((⟨b, 0, none⟩ : Addr).add j) = some u := by
  intro j u hj
  have hjl : j < l.length := by simpa using (List.getElem?_eq_some_iff.1 hj).1
  have := h j hjl
  simp [hjl] at hj
  rw [← hj, Go.WideShapes.add_plain, Nat.zero_add]; exact this
theorem RowI.own {w : World} {B b n cap m : Nat} {l : List Int} {xs : List Value} (h : w.ownsRow B 3 1 (.slice (some ⟨b, 0, none⟩) n cap) m xs) (hx : xs = l.map (Value.int .i64)) : RowI w b l := fun i hi => by
  have := h.cells (g := b) rfl i (.int .i64 l[i]) (by subst hx; simp [hi])
  rwa [Go.WideShapes.add_plain, Nat.zero_add] at this
theorem okI.cons {x : Int} {l : List Int} (h : okI [x] = true) (hl : okI l = true) : okI (x :: l) = true := by
  simp [okI] at *; exact ⟨h, hl⟩

def setupM (T : Tb) : Tb :=
  let T := layI 0 0 (2) [0, 33, 13] T
  let T := layI 0 8 (1) [5] T
  let T := eachM [0] [9, 20] (-1) [3] T
  let T := layI 1 1 (8) [2, 10] T
  let T := layI 4 4 (8) [2, 10] T
  let T := eachM [1, 4] [2] (0) [3] T
  let T := eachM [1, 4, 5] [9] (0) [2, 7] T
  let T := layI 2 10 (8) [12, 10, 6] T
  let T := layI 3 10 (8) [12, 10, 9] T
  let T := eachM [2, 3] [11, 33] (0) [12, 7] T
  let T := eachM [2, 3] [8] (-1) [2] T
  let T := eachM [2, 3] [9] (0) [3, 12, 7] T
  let T := eachM [2, 3] [29] (-1) [0, 32, 13] T
  let T := eachM [2, 3, 5] [2] (6) [1, 33, 13] T
  let T := eachM [4, 5] [11] (0) [7] T
  let T := layI 5 3 (3) [0, 33, 13] T
  let T := layI 5 8 (4) [8] T
  let T := eachM [6] [10, 11, 33] (0) [12] T
  let T := layI 6 8 (0) [3, 12] T
  let T := layI 6 9 (-1) [2] T
  let T := layI 6 29 (-1) [1, 32, 13] T
  let T := layI 7 9 (0) [2, 12, 7] T
  let T := layI 7 20 (-1) [4] T
  let T := layI 7 29 (-1) [4, 32, 13] T
  T
set_option maxHeartbeats 4000000 in
set_option maxRecDepth 100000 in
theorem grid_setup (w0 w1 : World) (g cap : Nat) (bs : Nat → Nat) (T : Tb) (h1 : Tab w0 w1 g bs T) :
    Calls Tryz.prog 85 #[.slice (some ⟨g, 0, none⟩) 14 cap] w1 fun r w' => r = .returned (.tuple #[]) ∧ Tab w0 w' g bs (setupM T) := by
  go_enter Tryz.func85, Tryz.ntmps85
  go_wp2_with (go_at_call 142; refine (grid_some _ _).mono ?_; rintro e w' ⟨rfl, rfl⟩)
  refine (lay_new (w := w1) [0, 33, 13] h1 ((Fr.refl _ _).alloc _) (by decide) (by decide) (by decide) (by decide) (Blk.newAt _ _ _ _ (by simp)) (by simp) (by decide) rfl).mono ?_
  rintro r w2 ⟨rfl, h2, f2⟩
  clear h1
  go_wp2_with (go_at_call 142; refine (grid_some _ _).mono ?_; rintro e w' ⟨rfl, rfl⟩)
  refine (lay_new (w := w2) [5] h2 ((Fr.refl _ _).alloc _) (by decide) (by decide) (by decide) (by decide) (Blk.newAt _ _ _ _ (by simp)) (by simp) (by decide) rfl).mono ?_
  rintro r w3 ⟨rfl, h3, f3⟩
  clear h2 f2
  go_wp2_with (go_at_call 142; refine (grid_some _ _).mono ?_; rintro e w' ⟨rfl, rfl⟩)
  refine (each_new (t := 3) (u := 3) (w := w3) [0] [9, 20] [3] h3 ((((Fr.refl _ _).alloc _).alloc _).alloc _) ?hi ?hi1 (by decide) rfl ?he ?he1 (by decide) rfl ?hb ?hb1 (by decide) rfl (by decide)).mono ?_
  case hi => exact RowI.newAt ((((Blk.newAt _ _ (arr [0]) 3 (by simp)).alloc _).alloc _)) (Fr.refl _ _)
  case hi1 => intro hm; have h9 : w3.heap.size < _ := h3.is.lt _ hm; omega
  case he => exact ((Blk.newAt _ _ (arr [9, 20]) 3 (by simp)).alloc _)
  case he1 => omega
  case hb => exact (Blk.newAt _ _ (arr [3]) 3 (by simp))
  case hb1 => omega
  rintro r w4 ⟨rfl, h4, f4⟩
  clear h3 f3
  go_wp2_with (go_at_call 142; refine (grid_some _ _).mono ?_; rintro e w' ⟨rfl, rfl⟩)
  refine (lay_new (w := w4) [2, 10] h4 ((Fr.refl _ _).alloc _) (by decide) (by decide) (by decide) (by decide) (Blk.newAt _ _ _ _ (by simp)) (by simp) (by decide) rfl).mono ?_
  rintro r w5 ⟨rfl, h5, f5⟩
  clear h4 f4
  go_wp2_with (go_at_call 142; refine (grid_some _ _).mono ?_; rintro e w' ⟨rfl, rfl⟩)
  refine (lay_new (w := w5) [2, 10] h5 ((Fr.refl _ _).alloc _) (by decide) (by decide) (by decide) (by decide) (Blk.newAt _ _ _ _ (by simp)) (by simp) (by decide) rfl).mono ?_
  rintro r w6 ⟨rfl, h6, f6⟩
  clear h5 f5
  go_wp2_with (go_at_call 142; refine (grid_some _ _).mono ?_; rintro e w' ⟨rfl, rfl⟩)
  refine (each_new (t := 3) (u := 3) (w := w6) [1, 4] [2] [3] h6 ((((Fr.refl _ _).alloc _).alloc _).alloc _) ?hi ?hi1 (by decide) rfl ?he ?he1 (by decide) rfl ?hb ?hb1 (by decide) rfl (by decide)).mono ?_
  case hi => exact RowI.newAt ((((Blk.newAt _ _ (arr [1, 4]) 3 (by simp)).alloc _).alloc _)) (Fr.refl _ _)
  case hi1 => intro hm; have h9 : w6.heap.size < _ := h6.is.lt _ hm; omega
  case he => exact ((Blk.newAt _ _ (arr [2]) 3 (by simp)).alloc _)
  case he1 => omega
  case hb => exact (Blk.newAt _ _ (arr [3]) 3 (by simp))
  case hb1 => omega
  rintro r w7 ⟨rfl, h7, f7⟩
  clear h6 f6
  go_wp2_with (go_at_call 142; refine (grid_some _ _).mono ?_; rintro e w' ⟨rfl, rfl⟩)
  refine (each_new (t := 3) (u := 3) (w := w7) [1, 4, 5] [9] [2, 7] h7 ((((Fr.refl _ _).alloc _).alloc _).alloc _) ?hi ?hi1 (by decide) rfl ?he ?he1 (by decide) rfl ?hb ?hb1 (by decide) rfl (by decide)).mono ?_
  case hi => exact RowI.newAt ((((Blk.newAt _ _ (arr [1, 4, 5]) 3 (by simp)).alloc _).alloc _)) (Fr.refl _ _)
  case hi1 => intro hm; have h9 : w7.heap.size < _ := h7.is.lt _ hm; omega
  case he => exact ((Blk.newAt _ _ (arr [9]) 3 (by simp)).alloc _)
  case he1 => omega
  case hb => exact (Blk.newAt _ _ (arr [2, 7]) 3 (by simp))
  case hb1 => omega
  rintro r w8 ⟨rfl, h8, f8⟩
  clear h7 f7
  go_wp2_with (go_at_call 142; refine (grid_some _ _).mono ?_; rintro e w' ⟨rfl, rfl⟩)
  refine (lay_new (w := w8) [12, 10, 6] h8 ((Fr.refl _ _).alloc _) (by decide) (by decide) (by decide) (by decide) (Blk.newAt _ _ _ _ (by simp)) (by simp) (by decide) rfl).mono ?_
  rintro r w9 ⟨rfl, h9, f9⟩
  clear h8 f8
  go_wp2_with (go_at_call 142; refine (grid_some _ _).mono ?_; rintro e w' ⟨rfl, rfl⟩)
  refine (lay_new (w := w9) [12, 10, 9] h9 ((Fr.refl _ _).alloc _) (by decide) (by decide) (by decide) (by decide) (Blk.newAt _ _ _ _ (by simp)) (by simp) (by decide) rfl).mono ?_
  rintro r w10 ⟨rfl, h10, f10⟩
  clear h9 f9
  go_wp2_with (go_at_call 142; refine (grid_some _ _).mono ?_; rintro e w' ⟨rfl, rfl⟩)
  refine (each_new (t := 3) (u := 3) (w := w10) [2, 3] [11, 33] [12, 7] h10 ((((Fr.refl _ _).alloc _).alloc _).alloc _) ?hi ?hi1 (by decide) rfl ?he ?he1 (by decide) rfl ?hb ?hb1 (by decide) rfl (by decide)).mono ?_
  case hi => exact RowI.newAt ((((Blk.newAt _ _ (arr [2, 3]) 3 (by simp)).alloc _).alloc _)) (Fr.refl _ _)
  case hi1 => intro hm; have h9 : w10.heap.size < _ := h10.is.lt _ hm; omega
  case he => exact ((Blk.newAt _ _ (arr [11, 33]) 3 (by simp)).alloc _)
  case he1 => omega
  case hb => exact (Blk.newAt _ _ (arr [12, 7]) 3 (by simp))
  case hb1 => omega
  rintro r w11 ⟨rfl, h11, f11⟩
  have vt2n : w10.heap.size ∉ tbL bs := by intro hm; have h9 : w10.heap.size < _ := h10.is.lt _ hm; omega
  have vt2 := (RowI.newAt ((((Blk.newAt _ _ (arr [2, 3]) 3 (by simp)).alloc _).alloc _)) (Fr.refl _ _)).fr f11 vt2n
  clear h10 f10
  go_wp2_with (go_at_call 142; refine (grid_some _ _).mono ?_; rintro e w' ⟨rfl, rfl⟩)
  refine (each_new (t := 3) (u := 3) (w := w11) [2, 3] [8] [2] h11 (((Fr.refl _ _).alloc _).alloc _) ?hi ?hi1 (by decide) rfl ?he ?he1 (by decide) rfl ?hb ?hb1 (by decide) rfl (by decide)).mono ?_
  case hi => exact vt2.fr (((Fr.refl [] _).alloc _).alloc _) (by simp)
  case hi1 => exact vt2n
  case he => exact ((Blk.newAt _ _ (arr [8]) 3 (by simp)).alloc _)
  case he1 => omega
  case hb => exact (Blk.newAt _ _ (arr [2]) 3 (by simp))
  case hb1 => omega
  rintro r w12 ⟨rfl, h12, f12⟩
  have vt2 := (vt2.fr (((Fr.refl [] _).alloc _).alloc _) (by simp)).fr f12 vt2n
  clear h11 f11
  go_wp2_with (go_at_call 142; refine (grid_some _ _).mono ?_; rintro e w' ⟨rfl, rfl⟩)
  refine (each_new (t := 3) (u := 3) (w := w12) [2, 3] [9] [3, 12, 7] h12 (((Fr.refl _ _).alloc _).alloc _) ?hi ?hi1 (by decide) rfl ?he ?he1 (by decide) rfl ?hb ?hb1 (by decide) rfl (by decide)).mono ?_
  case hi => exact vt2.fr (((Fr.refl [] _).alloc _).alloc _) (by simp)
  case hi1 => exact vt2n
  case he => exact ((Blk.newAt _ _ (arr [9]) 3 (by simp)).alloc _)
  case he1 => omega
  case hb => exact (Blk.newAt _ _ (arr [3, 12, 7]) 3 (by simp))
  case hb1 => omega
  rintro r w13 ⟨rfl, h13, f13⟩
  have vt2 := (vt2.fr (((Fr.refl [] _).alloc _).alloc _) (by simp)).fr f13 vt2n
  clear h12 f12
  go_wp2_with (go_at_call 142; refine (grid_some _ _).mono ?_; rintro e w' ⟨rfl, rfl⟩)
  refine (each_new (t := 3) (u := 3) (w := w13) [2, 3] [29] [0, 32, 13] h13 (((Fr.refl _ _).alloc _).alloc _) ?hi ?hi1 (by decide) rfl ?he ?he1 (by decide) rfl ?hb ?hb1 (by decide) rfl (by decide)).mono ?_
  case hi => exact vt2.fr (((Fr.refl [] _).alloc _).alloc _) (by simp)
  case hi1 => exact vt2n
  case he => exact ((Blk.newAt _ _ (arr [29]) 3 (by simp)).alloc _)
  case he1 => omega
  case hb => exact (Blk.newAt _ _ (arr [0, 32, 13]) 3 (by simp))
  case hb1 => omega
  rintro r w14 ⟨rfl, h14, f14⟩
  have vt2 := (vt2.fr (((Fr.refl [] _).alloc _).alloc _) (by simp)).fr f14 vt2n
  clear h13 f13
  go_wp2_with (go_at_call 142; refine (grid_some _ _).mono ?_; rintro e w' ⟨rfl, rfl⟩)
  refine (each_new (t := 3) (u := 3) (w := w14) [2, 3, 5] [2] [1, 33, 13] h14 ((((Fr.refl _ _).alloc _).alloc _).alloc _) ?hi ?hi1 (by decide) rfl ?he ?he1 (by decide) rfl ?hb ?hb1 (by decide) rfl (by decide)).mono ?_
  case hi => exact RowI.newAt ((((Blk.newAt _ _ (arr [2, 3, 5]) 3 (by simp)).alloc _).alloc _)) (Fr.refl _ _)
  case hi1 => intro hm; have h9 : w14.heap.size < _ := h14.is.lt _ hm; omega
  case he => exact ((Blk.newAt _ _ (arr [2]) 3 (by simp)).alloc _)
  case he1 => omega
  case hb => exact (Blk.newAt _ _ (arr [1, 33, 13]) 3 (by simp))
  case hb1 => omega
  rintro r w15 ⟨rfl, h15, f15⟩
  have vt2 := (vt2.fr ((((Fr.refl [] _).alloc _).alloc _).alloc _) (by simp)).fr f15 vt2n
  clear h14 f14
  go_wp2_with (go_at_call 142; refine (grid_some _ _).mono ?_; rintro e w' ⟨rfl, rfl⟩)
  refine (each_new (t := 3) (u := 3) (w := w15) [4, 5] [11] [7] h15 ((((Fr.refl _ _).alloc _).alloc _).alloc _) ?hi ?hi1 (by decide) rfl ?he ?he1 (by decide) rfl ?hb ?hb1 (by decide) rfl (by decide)).mono ?_
  case hi => exact RowI.newAt ((((Blk.newAt _ _ (arr [4, 5]) 3 (by simp)).alloc _).alloc _)) (Fr.refl _ _)
  case hi1 => intro hm; have h9 : w15.heap.size < _ := h15.is.lt _ hm; omega
  case he => exact ((Blk.newAt _ _ (arr [11]) 3 (by simp)).alloc _)
  case he1 => omega
  case hb => exact (Blk.newAt _ _ (arr [7]) 3 (by simp))
  case hb1 => omega
  rintro r w16 ⟨rfl, h16, f16⟩
  have vt2 := (vt2.fr ((((Fr.refl [] _).alloc _).alloc _).alloc _) (by simp)).fr f16 vt2n
  clear h15 f15
  go_wp2_with (go_at_call 142; refine (grid_some _ _).mono ?_; rintro e w' ⟨rfl, rfl⟩)
  refine (lay_new (w := w16) [0, 33, 13] h16 ((Fr.refl _ _).alloc _) (by decide) (by decide) (by decide) (by decide) (Blk.newAt _ _ _ _ (by simp)) (by simp) (by decide) rfl).mono ?_
  rintro r w17 ⟨rfl, h17, f17⟩
  have vt2 := (vt2.fr ((Fr.refl [] _).alloc _) (by simp)).fr f17 vt2n
  clear h16 f16
  go_wp2_with (go_at_call 142; refine (grid_some _ _).mono ?_; rintro e w' ⟨rfl, rfl⟩)
  refine (lay_new (w := w17) [8] h17 ((Fr.refl _ _).alloc _) (by decide) (by decide) (by decide) (by decide) (Blk.newAt _ _ _ _ (by simp)) (by simp) (by decide) rfl).mono ?_
  rintro r w18 ⟨rfl, h18, f18⟩
  have vt2 := (vt2.fr ((Fr.refl [] _).alloc _) (by simp)).fr f18 vt2n
  clear h17 f17
  go_wp2_with (go_at_call 142; refine (grid_some _ _).mono ?_; rintro e w' ⟨rfl, rfl⟩)
  refine (each_new (t := 3) (u := 3) (w := w18) [6] [10, 11, 33] [12] h18 ((((Fr.refl _ _).alloc _).alloc _).alloc _) ?hi ?hi1 (by decide) rfl ?he ?he1 (by decide) rfl ?hb ?hb1 (by decide) rfl (by decide)).mono ?_
  case hi => exact RowI.newAt ((((Blk.newAt _ _ (arr [6]) 3 (by simp)).alloc _).alloc _)) (Fr.refl _ _)
  case hi1 => intro hm; have h9 : w18.heap.size < _ := h18.is.lt _ hm; omega
  case he => exact ((Blk.newAt _ _ (arr [10, 11, 33]) 3 (by simp)).alloc _)
  case he1 => omega
  case hb => exact (Blk.newAt _ _ (arr [12]) 3 (by simp))
  case hb1 => omega
  rintro r w19 ⟨rfl, h19, f19⟩
  have vt2 := (vt2.fr ((((Fr.refl [] _).alloc _).alloc _).alloc _) (by simp)).fr f19 vt2n
  clear h18 f18
  go_wp2_with (go_at_call 142; refine (grid_some _ _).mono ?_; rintro e w' ⟨rfl, rfl⟩)
  refine (lay_new (w := w19) [3, 12] h19 ((Fr.refl _ _).alloc _) (by decide) (by decide) (by decide) (by decide) (Blk.newAt _ _ _ _ (by simp)) (by simp) (by decide) rfl).mono ?_
  rintro r w20 ⟨rfl, h20, f20⟩
  have vt2 := (vt2.fr ((Fr.refl [] _).alloc _) (by simp)).fr f20 vt2n
  clear h19 f19
  go_wp2_with (go_at_call 142; refine (grid_some _ _).mono ?_; rintro e w' ⟨rfl, rfl⟩)
  refine (lay_new (w := w20) [2] h20 ((Fr.refl _ _).alloc _) (by decide) (by decide) (by decide) (by decide) (Blk.newAt _ _ _ _ (by simp)) (by simp) (by decide) rfl).mono ?_
  rintro r w21 ⟨rfl, h21, f21⟩
  have vt2 := (vt2.fr ((Fr.refl [] _).alloc _) (by simp)).fr f21 vt2n
  clear h20 f20
  go_wp2_with (go_at_call 142; refine (grid_some _ _).mono ?_; rintro e w' ⟨rfl, rfl⟩)
  refine (lay_new (w := w21) [1, 32, 13] h21 ((Fr.refl _ _).alloc _) (by decide) (by decide) (by decide) (by decide) (Blk.newAt _ _ _ _ (by simp)) (by simp) (by decide) rfl).mono ?_
  rintro r w22 ⟨rfl, h22, f22⟩
  have vt2 := (vt2.fr ((Fr.refl [] _).alloc _) (by simp)).fr f22 vt2n
  clear h21 f21
  go_wp2_with (go_at_call 142; refine (grid_some _ _).mono ?_; rintro e w' ⟨rfl, rfl⟩)
  refine (lay_new (w := w22) [2, 12, 7] h22 ((Fr.refl _ _).alloc _) (by decide) (by decide) (by decide) (by decide) (Blk.newAt _ _ _ _ (by simp)) (by simp) (by decide) rfl).mono ?_
  rintro r w23 ⟨rfl, h23, f23⟩
  have vt2 := (vt2.fr ((Fr.refl [] _).alloc _) (by simp)).fr f23 vt2n
  clear h22 f22
  go_wp2_with (go_at_call 142; refine (grid_some _ _).mono ?_; rintro e w' ⟨rfl, rfl⟩)
  refine (lay_new (w := w23) [4] h23 ((Fr.refl _ _).alloc _) (by decide) (by decide) (by decide) (by decide) (Blk.newAt _ _ _ _ (by simp)) (by simp) (by decide) rfl).mono ?_
  rintro r w24 ⟨rfl, h24, f24⟩
  have vt2 := (vt2.fr ((Fr.refl [] _).alloc _) (by simp)).fr f24 vt2n
  clear h23 f23
  go_wp2_with (go_at_call 142; refine (grid_some _ _).mono ?_; rintro e w' ⟨rfl, rfl⟩)
  refine (lay_new (w := w24) [4, 32, 13] h24 ((Fr.refl _ _).alloc _) (by decide) (by decide) (by decide) (by decide) (Blk.newAt _ _ _ _ (by simp)) (by simp) (by decide) rfl).mono ?_
  rintro r w25 ⟨rfl, h25, f25⟩
  have vt2 := (vt2.fr ((Fr.refl [] _).alloc _) (by simp)).fr f25 vt2n
  clear h24 f24
  go_wp2
  go_end0
  exact ⟨rfl, h25⟩

def sharedM (T : Tb) : Tb :=
  let T := eachM [7, 8, 9, 10, 11, 12, 13] [3] (3) [12, 0, 33, 13] T
  let T := eachM [7, 8, 9, 10, 11, 12, 13] [2] (6) [12, 1, 33, 13] T
  let T := eachM [7, 8, 9, 10, 11, 12, 13] [8] (4) [12, 8] T
  let T := eachM [7, 8, 9, 10, 11, 12, 13] [11] (0) [12, 7] T
  let T := eachM [7, 8, 9, 10, 11, 12, 13] [12, 33] (5) [12, 8] T
  let T := eachM [8, 9, 10, 11, 12, 13] [9] (0) [12, 2, 7] T
  let T := eachM [8, 9, 10, 11, 12, 13] [28] (7) [12, 4, 33, 13] T
  T
set_option maxHeartbeats 4000000 in
set_option maxRecDepth 100000 in
theorem grid_shared (w0 w1 : World) (g cap : Nat) (bs : Nat → Nat) (T : Tb) (h1 : Tab w0 w1 g bs T) :
    Calls Tryz.prog 86 #[.slice (some ⟨g, 0, none⟩) 14 cap] w1 fun r w' => r = .returned (.tuple #[]) ∧ Tab w0 w' g bs (sharedM T) := by
  obtain ⟨i0, hi, hz0, hz1, hz2⟩ := ints_info
  have hun : Tryz.prog.underlying 33 = some (.slice 3) := Tryz.underlying33
  go_enter Tryz.func86, Tryz.ntmps86
  go_wp2_with (first | (go_at_call 142; refine (grid_some _ _).mono ?_; rintro e w' ⟨rfl, rfl⟩) | (at_builtin; refine wpList_append_own _ rfl _ _ 33 rfl (w1.heap.size + 1) 3 i0 (.int .i64 0) 1 8 hun hi hz0 hz1 hz2 rfl (by decide) _ 1 [.int .i64 7] rfl (ownsRow_blk (Blk.newAt _ _ #[.int .i64 7] 3 (by simp)) (by omega) (by decide)) ⟨w1.heap.size, 0, none⟩ 6 6 ([8, 9, 10, 11, 12, 13].map (Value.int .i64)) rfl ?c1 ?c2 ?c3 ?c4 ?c5 ?c6 ?_))
  case c1 => simp
  case c2 => exact (RowI.newAt (Blk.newAt w1 _ (arr [8, 9, 10, 11, 12, 13]) 3 rfl) ((Fr.refl _ _).alloc _)).news
  case c3 => decide
  case c4 => decide
  case c5 => decide
  case c6 => simp
  intro v' w2 hown hgr _
  have hz : (((w1.alloc (.cells (arr [8, 9, 10, 11, 12, 13]) 3)).alloc (.cells #[.int .i64 7] 3))).heap.size = w1.heap.size + 2 := by simp
  have hF : Fr [w1.heap.size + 1] ((w1.alloc (.cells (arr [8, 9, 10, 11, 12, 13]) 3)).alloc (.cells #[.int .i64 7] 3)) w2 := (Fr.refl _ _).grown hgr (fun k hk => .inl (by simp [Value.ownBlock] at hk; simp [hk]))
  have f2 : Fr [] w1 w2 := ((((Fr.refl _ _).alloc _).alloc _)).grown hgr (fun k hk => .inr (by simp [Value.ownBlock] at hk; omega))
  have hdata : RowI w2 w1.heap.size [8, 9, 10, 11, 12, 13] := (RowI.newAt (Blk.newAt w1 _ (arr [8, 9, 10, 11, 12, 13]) 3 rfl) ((Fr.refl _ _).alloc _)).fr hF (by simp)
  have hdatan : w1.heap.size ∉ tbL bs := fun hm => by have h9 : w1.heap.size < _ := h1.is.lt _ hm; omega
  rcases hown.2 with ⟨_, hx⟩ | ⟨bm, cm, cur, rfl, hb, -⟩
  · cases hx
  have hmore : RowI w2 bm [7, 8, 9, 10, 11, 12, 13] := RowI.own hown rfl
  have hmoren : bm ∉ tbL bs := fun hm => by have h9 := h1.is.lt _ hm; omega
  have h2 : Tab w0 w2 g bs T := h1.step f2 (h1.is.fr f2) (Fr.refl _ _)
  clear h1 hF hgr hown hb hz hi hz0 hz1 hz2 hun
  go_wp2_with (go_at_call 142; refine (grid_some _ _).mono ?_; rintro e w' ⟨rfl, rfl⟩)
  refine (each_new (t := 3) (u := 3) (w := w2) [7, 8, 9, 10, 11, 12, 13] [3] [12, 0, 33, 13] h2 (((Fr.refl _ _).alloc _).alloc _) ?hi ?hi1 (by decide) rfl ?he ?he1 (by decide) rfl ?hb ?hb1 (by decide) rfl (by decide)).mono ?_
  case hi => exact hmore.fr (((Fr.refl [] _).alloc _).alloc _) (by simp)
  case hi1 => exact hmoren
  case he => exact ((Blk.newAt _ _ (arr [3]) 3 (by simp)).alloc _)
  case he1 => omega
  case hb => exact (Blk.newAt _ _ (arr [12, 0, 33, 13]) 3 (by simp))
  case hb1 => omega
  rintro r w3 ⟨rfl, h3, f3⟩
  have hdata := (hdata.fr (((Fr.refl [] _).alloc _).alloc _) (by simp)).fr f3 hdatan
  have hmore := (hmore.fr (((Fr.refl [] _).alloc _).alloc _) (by simp)).fr f3 hmoren
  clear h2 f2
  go_wp2_with (go_at_call 142; refine (grid_some _ _).mono ?_; rintro e w' ⟨rfl, rfl⟩)
  refine (each_new (t := 3) (u := 3) (w := w3) [7, 8, 9, 10, 11, 12, 13] [2] [12, 1, 33, 13] h3 (((Fr.refl _ _).alloc _).alloc _) ?hi ?hi1 (by decide) rfl ?he ?he1 (by decide) rfl ?hb ?hb1 (by decide) rfl (by decide)).mono ?_
  case hi => exact hmore.fr (((Fr.refl [] _).alloc _).alloc _) (by simp)
  case hi1 => exact hmoren
  case he => exact ((Blk.newAt _ _ (arr [2]) 3 (by simp)).alloc _)
  case he1 => omega
  case hb => exact (Blk.newAt _ _ (arr [12, 1, 33, 13]) 3 (by simp))
  case hb1 => omega
  rintro r w4 ⟨rfl, h4, f4⟩
  have hdata := (hdata.fr (((Fr.refl [] _).alloc _).alloc _) (by simp)).fr f4 hdatan
  have hmore := (hmore.fr (((Fr.refl [] _).alloc _).alloc _) (by simp)).fr f4 hmoren
  clear h3 f3
  go_wp2_with (go_at_call 142; refine (grid_some _ _).mono ?_; rintro e w' ⟨rfl, rfl⟩)
  refine (each_new (t := 3) (u := 3) (w := w4) [7, 8, 9, 10, 11, 12, 13] [8] [12, 8] h4 (((Fr.refl _ _).alloc _).alloc _) ?hi ?hi1 (by decide) rfl ?he ?he1 (by decide) rfl ?hb ?hb1 (by decide) rfl (by decide)).mono ?_
  case hi => exact hmore.fr (((Fr.refl [] _).alloc _).alloc _) (by simp)
  case hi1 => exact hmoren
  case he => exact ((Blk.newAt _ _ (arr [8]) 3 (by simp)).alloc _)
  case he1 => omega
  case hb => exact (Blk.newAt _ _ (arr [12, 8]) 3 (by simp))
  case hb1 => omega
  rintro r w5 ⟨rfl, h5, f5⟩
  have hdata := (hdata.fr (((Fr.refl [] _).alloc _).alloc _) (by simp)).fr f5 hdatan
  have hmore := (hmore.fr (((Fr.refl [] _).alloc _).alloc _) (by simp)).fr f5 hmoren
  clear h4 f4
  go_wp2_with (go_at_call 142; refine (grid_some _ _).mono ?_; rintro e w' ⟨rfl, rfl⟩)
  refine (each_new (t := 3) (u := 3) (w := w5) [7, 8, 9, 10, 11, 12, 13] [11] [12, 7] h5 (((Fr.refl _ _).alloc _).alloc _) ?hi ?hi1 (by decide) rfl ?he ?he1 (by decide) rfl ?hb ?hb1 (by decide) rfl (by decide)).mono ?_
  case hi => exact hmore.fr (((Fr.refl [] _).alloc _).alloc _) (by simp)
  case hi1 => exact hmoren
  case he => exact ((Blk.newAt _ _ (arr [11]) 3 (by simp)).alloc _)
  case he1 => omega
  case hb => exact (Blk.newAt _ _ (arr [12, 7]) 3 (by simp))
  case hb1 => omega
  rintro r w6 ⟨rfl, h6, f6⟩
  have hdata := (hdata.fr (((Fr.refl [] _).alloc _).alloc _) (by simp)).fr f6 hdatan
  have hmore := (hmore.fr (((Fr.refl [] _).alloc _).alloc _) (by simp)).fr f6 hmoren
  clear h5 f5
  go_wp2_with (go_at_call 142; refine (grid_some _ _).mono ?_; rintro e w' ⟨rfl, rfl⟩)
  refine (each_new (t := 3) (u := 3) (w := w6) [7, 8, 9, 10, 11, 12, 13] [12, 33] [12, 8] h6 (((Fr.refl _ _).alloc _).alloc _) ?hi ?hi1 (by decide) rfl ?he ?he1 (by decide) rfl ?hb ?hb1 (by decide) rfl (by decide)).mono ?_
  case hi => exact hmore.fr (((Fr.refl [] _).alloc _).alloc _) (by simp)
  case hi1 => exact hmoren
  case he => exact ((Blk.newAt _ _ (arr [12, 33]) 3 (by simp)).alloc _)
  case he1 => omega
  case hb => exact (Blk.newAt _ _ (arr [12, 8]) 3 (by simp))
  case hb1 => omega
  rintro r w7 ⟨rfl, h7, f7⟩
  have hdata := (hdata.fr (((Fr.refl [] _).alloc _).alloc _) (by simp)).fr f7 hdatan
  have hmore := (hmore.fr (((Fr.refl [] _).alloc _).alloc _) (by simp)).fr f7 hmoren
  clear h6 f6
  go_wp2_with (go_at_call 142; refine (grid_some _ _).mono ?_; rintro e w' ⟨rfl, rfl⟩)
  refine (each_new (t := 3) (u := 3) (w := w7) [8, 9, 10, 11, 12, 13] [9] [12, 2, 7] h7 (((Fr.refl _ _).alloc _).alloc _) ?hi ?hi1 (by decide) rfl ?he ?he1 (by decide) rfl ?hb ?hb1 (by decide) rfl (by decide)).mono ?_
  case hi => exact hdata.fr (((Fr.refl [] _).alloc _).alloc _) (by simp)
  case hi1 => exact hdatan
  case he => exact ((Blk.newAt _ _ (arr [9]) 3 (by simp)).alloc _)
  case he1 => omega
  case hb => exact (Blk.newAt _ _ (arr [12, 2, 7]) 3 (by simp))
  case hb1 => omega
  rintro r w8 ⟨rfl, h8, f8⟩
  have hdata := (hdata.fr (((Fr.refl [] _).alloc _).alloc _) (by simp)).fr f8 hdatan
  have hmore := (hmore.fr (((Fr.refl [] _).alloc _).alloc _) (by simp)).fr f8 hmoren
  clear h7 f7
  go_wp2_with (go_at_call 142; refine (grid_some _ _).mono ?_; rintro e w' ⟨rfl, rfl⟩)
  refine (each_new (t := 3) (u := 3) (w := w8) [8, 9, 10, 11, 12, 13] [28] [12, 4, 33, 13] h8 (((Fr.refl _ _).alloc _).alloc _) ?hi ?hi1 (by decide) rfl ?he ?he1 (by decide) rfl ?hb ?hb1 (by decide) rfl (by decide)).mono ?_
  case hi => exact hdata.fr (((Fr.refl [] _).alloc _).alloc _) (by simp)
  case hi1 => exact hdatan
  case he => exact ((Blk.newAt _ _ (arr [28]) 3 (by simp)).alloc _)
  case he1 => omega
  case hb => exact (Blk.newAt _ _ (arr [12, 4, 33, 13]) 3 (by simp))
  case hb1 => omega
  rintro r w9 ⟨rfl, h9, f9⟩
  have hdata := (hdata.fr (((Fr.refl [] _).alloc _).alloc _) (by simp)).fr f9 hdatan
  have hmore := (hmore.fr (((Fr.refl [] _).alloc _).alloc _) (by simp)).fr f9 hmoren
  clear h8 f8
  go_wp2
  go_end0
  exact ⟨rfl, h9⟩

def busyM (T : Tb) : Tb :=
  let T := layI 8 6 (9) [25] T
  let T := layI 10 6 (9) [16, 25] T
  let T := layI 11 6 (12) [25] T
  let T := layI 13 6 (12) [16, 25] T
  let T := layI 9 7 (8) [23] T
  let T := layI 12 7 (11) [23] T
  T
set_option maxHeartbeats 4000000 in
set_option maxRecDepth 100000 in
theorem grid_busy (w0 w1 : World) (g cap : Nat) (bs : Nat → Nat) (T : Tb) (h1 : Tab w0 w1 g bs T) :
    Calls Tryz.prog 87 #[.slice (some ⟨g, 0, none⟩) 14 cap] w1 fun r w' => r = .returned (.tuple #[]) ∧ Tab w0 w' g bs (busyM T) := by
  go_enter Tryz.func87, Tryz.ntmps87
  go_wp2_with (go_at_call 142; refine (grid_some _ _).mono ?_; rintro e w' ⟨rfl, rfl⟩)
  refine (lay_new (w := w1) [25] h1 ((Fr.refl _ _).alloc _) (by decide) (by decide) (by decide) (by decide) (Blk.newAt _ _ _ _ (by simp)) (by simp) (by decide) rfl).mono ?_
  rintro r w2 ⟨rfl, h2, f2⟩
  clear h1
  go_wp2_with (go_at_call 142; refine (grid_some _ _).mono ?_; rintro e w' ⟨rfl, rfl⟩)
  refine (lay_new (w := w2) [16, 25] h2 ((Fr.refl _ _).alloc _) (by decide) (by decide) (by decide) (by decide) (Blk.newAt _ _ _ _ (by simp)) (by simp) (by decide) rfl).mono ?_
  rintro r w3 ⟨rfl, h3, f3⟩
  clear h2 f2
  go_wp2_with (go_at_call 142; refine (grid_some _ _).mono ?_; rintro e w' ⟨rfl, rfl⟩)
  refine (lay_new (w := w3) [25] h3 ((Fr.refl _ _).alloc _) (by decide) (by decide) (by decide) (by decide) (Blk.newAt _ _ _ _ (by simp)) (by simp) (by decide) rfl).mono ?_
  rintro r w4 ⟨rfl, h4, f4⟩
  clear h3 f3
  go_wp2_with (go_at_call 142; refine (grid_some _ _).mono ?_; rintro e w' ⟨rfl, rfl⟩)
  refine (lay_new (w := w4) [16, 25] h4 ((Fr.refl _ _).alloc _) (by decide) (by decide) (by decide) (by decide) (Blk.newAt _ _ _ _ (by simp)) (by simp) (by decide) rfl).mono ?_
  rintro r w5 ⟨rfl, h5, f5⟩
  clear h4 f4
  go_wp2_with (go_at_call 142; refine (grid_some _ _).mono ?_; rintro e w' ⟨rfl, rfl⟩)
  refine (lay_new (w := w5) [23] h5 ((Fr.refl _ _).alloc _) (by decide) (by decide) (by decide) (by decide) (Blk.newAt _ _ _ _ (by simp)) (by simp) (by decide) rfl).mono ?_
  rintro r w6 ⟨rfl, h6, f6⟩
  clear h5 f5
  go_wp2_with (go_at_call 142; refine (grid_some _ _).mono ?_; rintro e w' ⟨rfl, rfl⟩)
  refine (lay_new (w := w6) [23] h6 ((Fr.refl _ _).alloc _) (by decide) (by decide) (by decide) (by decide) (Blk.newAt _ _ _ _ (by simp)) (by simp) (by decide) rfl).mono ?_
  rintro r w7 ⟨rfl, h7, f7⟩
  clear h6 f6
  go_wp2
  go_end0
  exact ⟨rfl, h7⟩

def answersM (p0 p1 p2 p3 p4 : Int) (T : Tb) : Tb :=
  let T := layI p0 19 (-1) ([[20, 19], [31]].flatten) T
  let T := layI p0 (19 + 1) (-1) ([[20, 19], [p3], [31]].flatten) T
  let T := layI p0 22 (-1) ([[19, 21, 17], []].flatten) T
  let T := layI p0 (22 + 1) (-1) ([[19, 21, 17], [p3], []].flatten) T
  let T := layI p0 25 (-1) ([[20, 19, 22, 34], [31]].flatten) T
  let T := layI p0 (25 + 1) (-1) ([[20, 19, 22, 34], [p3], [31]].flatten) T
  let T := layI p1 19 (-1) ([[20, 19], []].flatten) T
  let T := layI p1 (19 + 1) (-1) ([[20, 19], [p3], []].flatten) T
  let T := layI p1 22 (-1) ([[19, 21], []].flatten) T
  let T := layI p1 (22 + 1) (-1) ([[19, 21], [p3], []].flatten) T
  let T := layI p1 25 (-1) ([[20, 19], []].flatten) T
  let T := layI p1 (25 + 1) (-1) ([[20, 19], [p3], []].flatten) T
  let T := layI p0 5 (-1) [31] T
  let T := layI p0 29 (p1) [p4, 14, 32, 34] T
  let T := layI p0 32 (p1) [p4, 14, 32] T
  let T := layI p1 30 (-1) [p4, 14, 32] T
  let T := layI p1 21 (p0) [20, 19, 22, 33, 31] T
  let T := layI p1 24 (p0) [19, 21, 17, 22, 33] T
  let T := layI p1 27 (p0) [20, 19, 22, 34, 33, 31] T
  T
set_option maxHeartbeats 8000000 in
set_option maxRecDepth 100000 in
theorem grid_answers (w0 w1 : World) (g cap : Nat) (bs : Nat → Nat) (T : Tb) (p0 p1 p2 p3 p4 : Int) (h1 : Tab w0 w1 g bs T) (hp0a : 0 ≤ p0) (hp0b : p0 < 14) (hp1a : 0 ≤ p1) (hp1b : p1 < 14) (hp3 : okI [p3] = true) (hp4 : okI [p4] = true) :
    Calls Tryz.prog 89 #[.slice (some ⟨g, 0, none⟩) 14 cap, .agg #[.int .i64 p0, .int .i64 p1, .int .i64 p2, .int .i64 p3, .int .i64 p4]] w1 fun r w' => r = .returned (.tuple #[]) ∧ Tab w0 w' g bs (answersM p0 p1 p2 p3 p4 T) := by
  go_enter Tryz.func89, Tryz.ntmps89
  go_wp2_with (go_at_call 142; refine (grid_some _ _).mono ?_; rintro e w' ⟨rfl, rfl⟩)
  have h2 : Blk (((w1.alloc (.cells #[.slice (some ⟨g, 0, none⟩) 14 cap] 140)).alloc (.cells #[.int .i64 p0, .int .i64 p1, .int .i64 p2, .int .i64 p3, .int .i64 p4] 145)).alloc (.cells #[.int .i64 31] 3)) w1.heap.size #[.slice (some ⟨g, 0, none⟩) 14 cap] 140 := ((Blk.new w1 _ _).alloc _).alloc _
  have h3 : Blk (((w1.alloc (.cells #[.slice (some ⟨g, 0, none⟩) 14 cap] 140)).alloc (.cells #[.int .i64 p0, .int .i64 p1, .int .i64 p2, .int .i64 p3, .int .i64 p4] 145)).alloc (.cells #[.int .i64 31] 3)) (w1.heap.size + 1) #[.int .i64 p0, .int .i64 p1, .int .i64 p2, .int .i64 p3, .int .i64 p4] 145 := (Blk.newAt _ _ _ _ (by simp)).alloc _
  have h5 : Blk (((w1.alloc (.cells #[.slice (some ⟨g, 0, none⟩) 14 cap] 140)).alloc (.cells #[.int .i64 p0, .int .i64 p1, .int .i64 p2, .int .i64 p3, .int .i64 p4] 145)).alloc (.cells #[.int .i64 31] 3)) (w1.heap.size + 1 + 1) (arr [31]) 3 := Blk.newAt _ _ _ _ (by simp)
  have h2n : w1.heap.size ∉ tbL bs := fun hm => by have h9 : w1.heap.size < _ := h1.is.lt _ hm; omega
  have h3n : w1.heap.size + 1 ∉ tbL bs := fun hm => by have h9 : w1.heap.size + 1 < _ := h1.is.lt _ hm; omega
  have h5n : w1.heap.size + 1 + 1 ∉ tbX bs := fun hm => by have h9 : w1.heap.size + 1 + 1 < _ := h1.is.ltX _ hm; omega
  have hT2 : Tab w0 (((w1.alloc (.cells #[.slice (some ⟨g, 0, none⟩) 14 cap] 140)).alloc (.cells #[.int .i64 p0, .int .i64 p1, .int .i64 p2, .int .i64 p3, .int .i64 p4] 145)).alloc (.cells #[.int .i64 31] 3)) g bs T := ⟨h1.is.fr ((((Fr.refl _ _).alloc _).alloc _).alloc _), ((h1.fr.alloc _).alloc _).alloc _⟩
  clear h1
  generalize hb2 : w1.heap.size + 1 = b3 at *
  generalize hb1 : w1.heap.size = b2 at *
  generalize hb3 : b3 + 1 = b5 at *
  generalize (((w1.alloc (.cells #[.slice (some ⟨g, 0, none⟩) 14 cap] 140)).alloc (.cells #[.int .i64 p0, .int .i64 p1, .int .i64 p2, .int .i64 p3, .int .i64 p4] 145)).alloc (.cells #[.int .i64 31] 3)) = w2 at *
  clear hb1 hb2 hb3
  have hT := hT2
  have k3 : ∀ wx, Fr [] w2 wx → wx.cell? ⟨b3, 0, none⟩ = some (.int .i64 p0) := fun wx hf => hf.cell (h3.cell 0 rfl) (by simp)
  refine wp_region_keepsL [] [Is (.func (.func 143) #[] #[.pointer (some ⟨b2, 0, none⟩), .pointer (some ⟨b3, 0, none⟩)]), Is (.pointer (some ⟨b3, 0, none⟩)), Is (.int .i64 p0), IsN (tbX bs) [20, 19], IsN (tbX bs) [20, 19], Is (.slice (some ⟨b5, 0, none⟩) 1 1)] 6 rfl rfl (by kernel_rfl) (by kernel_rfl) (by kernel_rfl) (by kernel_rfl) (by kernel_rfl) ?hV ?hS ?hD
  case hV =>
    repeat (first | exact trivial | exact Is.keeps _ | exact Any.keeps | exact IsSl.keeps _ _ _ | exact IsN.keeps _ _ | refine And.intro ?_ ?_)
  case hS =>
    (repeat' (first | exact trivial | refine And.intro ?_ ?_))
    · intro ac wx hf hs hp K hK
      simp only [zA, Region.binds, Nat.reduceAdd] at hp
      have hs4 := hs 4 (by kernel_rfl)
      simp only [Array.getD_eq_getD_getElem?, List.getElem?_toArray, List.getElem?_cons_succ, List.getElem?_cons_zero, Option.getD_some] at hs4
      clear hs
      clear hf
      (try simp only [hp])
      go_simp
      try dsimp only
      refine hK.out _ _ ?_ ?_
      · (repeat (first | with_reducible (first | exact Fr.refl _ _ | assumption | refine Fr.drew ?_ | refine Fr.drewN ?_ _ | refine Fr.alloc ?_ _ | refine Fr.setL ?_ _ _ _ ?_) | (left; simp; done) | (right; first | (simp; done) | (simp; omega) | omega)); done)
      · simp only [nth]
        first | (unfold Is; rfl) | (unfold Any; exact trivial) | exact IsSl.new _ _ _ _ | assumption
    · intro ac wx hf hs hp K hK
      simp only [zA, Region.binds, Nat.reduceAdd] at hp
      have hs3 := hs 3 (by kernel_rfl)
      simp only [Array.getD_eq_getD_getElem?, List.getElem?_toArray, List.getElem?_cons_succ, List.getElem?_cons_zero, Option.getD_some] at hs3
      clear hs
      clear hf
      (try simp only [hp])
      go_simp
      try dsimp only
      refine hK.out _ _ ?_ ?_
      · (repeat (first | with_reducible (first | exact Fr.refl _ _ | assumption | refine Fr.drew ?_ | refine Fr.drewN ?_ _ | refine Fr.alloc ?_ _ | refine Fr.setL ?_ _ _ _ ?_) | (left; simp; done) | (right; first | (simp; done) | (simp; omega) | omega)); done)
      · simp only [nth]
        first | (unfold Is; rfl) | (unfold Any; exact trivial) | exact IsSl.new _ _ _ _ | assumption
    · intro ac wx hf hs hp K hK
      simp only [zA, Region.binds, Nat.reduceAdd] at hp
      clear hs
      have cx := k3 wx hf
      clear hf
      (try simp only [hp])
      go_simp
      try dsimp only
      refine hK.out _ _ ?_ ?_
      · (repeat (first | with_reducible (first | exact Fr.refl _ _ | assumption | refine Fr.drew ?_ | refine Fr.drewN ?_ _ | refine Fr.alloc ?_ _ | refine Fr.setL ?_ _ _ _ ?_) | (left; simp; done) | (right; first | (simp; done) | (simp; omega) | omega)); done)
      · simp only [nth]
        first | (unfold Is; rfl) | (unfold Any; exact trivial) | exact IsSl.new _ _ _ _ | assumption
    · intro ac wx hf hs hp K hK
      simp only [zA, Region.binds, Nat.reduceAdd] at hp
      clear hs
      go_simp
      refine hK.out _ _ ((Fr.refl _ _).alloc _) ?_
      exact ⟨⟨_, 2, 2⟩, rfl, Ints.newAt (l := [20, 19]) (Blk.new _ _ _) (by decide) rfl (Fr.refl _ _), fun A n c e hm => by cases e; have h9 : wx.heap.size < _ := hT.is.ltX _ hm; have := hf.size; omega⟩
    · intro ac wx hf hs hp K hK
      simp only [zA, Region.binds, Nat.reduceAdd] at hp
      clear hs
      obtain ⟨s2, e2, hx2, hx2'⟩ := hp
      go_simp
      go_at_call 142
      refine (grid_some _ _).mono ?_
      rintro e w' ⟨rfl, rfl⟩
      exact hK.out _ _ (Fr.refl _ _) ⟨s2, rfl, hx2, hx2'⟩
    · intro ac wx hf hs hp K hK
      simp only [zA, Region.binds, Nat.reduceAdd] at hp
      have hs5 := hs 5 (by kernel_rfl)
      simp only [Array.getD_eq_getD_getElem?, List.getElem?_toArray, List.getElem?_cons_succ, List.getElem?_cons_zero, Option.getD_some] at hs5
      clear hs
      clear hf
      (try simp only [hp])
      go_simp
      try dsimp only
      refine hK.out _ _ ?_ ?_
      · (repeat (first | with_reducible (first | exact Fr.refl _ _ | assumption | refine Fr.drew ?_ | refine Fr.drewN ?_ _ | refine Fr.alloc ?_ _ | refine Fr.setL ?_ _ _ _ ?_) | (left; simp; done) | (right; first | (simp; done) | (simp; omega) | omega)); done)
      · simp only [nth]
        first | (unfold Is; rfl) | (unfold Any; exact trivial) | exact IsSl.new _ _ _ _ | assumption
  case hD =>
    intro x wx hf hp
    simp only [fill, List.setIfInBounds_toArray, List.set_cons_zero, List.set_cons_succ, Nat.reduceAdd, Act.put]
    simp only [List.length_cons, List.length_nil, Nat.reduceAdd, List.range_eq_range', List.range'_succ, List.range'_zero, Nat.zero_add, Nat.add_zero, holds, nth, Is, Any, true_and, and_true] at hp
    obtain ⟨x0, -, x2, -, ⟨s1, x4, hI, hn⟩, x5⟩ := hp
    simp only [x0, x2, x4, x5]
    clear x0 x2 x4 x5 k3
    go_simp
    go_at_call 143
    refine (grid_answers1 w0 wx g cap bs _ b2 b3 p0 p1 p2 p3 p4 p0 19 s1 ⟨some ⟨b5, 0, none⟩, 1, 1⟩ [20, 19] [31] ⟨hT.is.fr hf, hT.fr.tr0 hf⟩ (h2.fr hf (by simp)) (h3.fr hf (by simp)) h2n h3n hp0a hp0b (by decide) (by decide) hI (Ints.newAt (l := [31]) (h5.fr hf (by simp)) (by decide) rfl (Fr.refl _ _)) hn (fun A n c e => by cases e; exact h5n) (by decide) (by decide) hp3).mono ?_
    rintro r w3 ⟨rfl, hT3, f3⟩
    have h2 := (h2.fr hf (by simp)).fr f3 h2n
    have h3 := (h3.fr hf (by simp)).fr f3 h3n
    have h5 := (h5.fr hf (by simp)).fr f3 (tbX_L h5n)
    clear hT hT2 hf f3 hI hn
    go_wp2
    have hT := hT3
    have k3 : ∀ wx, Fr [] w3 wx → wx.cell? ⟨b3, 0, none⟩ = some (.int .i64 p0) := fun wx hf => hf.cell (h3.cell 0 rfl) (by simp)
    refine wp_region_keepsL [] [Is (.func (.func 143) #[] #[.pointer (some ⟨b2, 0, none⟩), .pointer (some ⟨b3, 0, none⟩)]), Is (.pointer (some ⟨b3, 0, none⟩)), Is (.int .i64 p0), IsN (tbX bs) [19, 21, 17], IsN (tbX bs) [19, 21, 17]] 5 rfl rfl (by kernel_rfl) (by kernel_rfl) (by kernel_rfl) (by kernel_rfl) (by kernel_rfl) ?hV ?hS ?hD
    case hV =>
      repeat (first | exact trivial | exact Is.keeps _ | exact Any.keeps | exact IsSl.keeps _ _ _ | exact IsN.keeps _ _ | refine And.intro ?_ ?_)
    case hS =>
      (repeat' (first | exact trivial | refine And.intro ?_ ?_))
      · intro ac wx hf hs hp K hK
        simp only [zA, Region.binds, Nat.reduceAdd] at hp
        have hs4 := hs 4 (by kernel_rfl)
        simp only [Array.getD_eq_getD_getElem?, List.getElem?_toArray, List.getElem?_cons_succ, List.getElem?_cons_zero, Option.getD_some] at hs4
        clear hs
        clear hf
        (try simp only [hp])
        go_simp
        try dsimp only
        refine hK.out _ _ ?_ ?_
        · (repeat (first | with_reducible (first | exact Fr.refl _ _ | assumption | refine Fr.drew ?_ | refine Fr.drewN ?_ _ | refine Fr.alloc ?_ _ | refine Fr.setL ?_ _ _ _ ?_) | (left; simp; done) | (right; first | (simp; done) | (simp; omega) | omega)); done)
        · simp only [nth]
          first | (unfold Is; rfl) | (unfold Any; exact trivial) | exact IsSl.new _ _ _ _ | assumption
      · intro ac wx hf hs hp K hK
        simp only [zA, Region.binds, Nat.reduceAdd] at hp
        have hs3 := hs 3 (by kernel_rfl)
        simp only [Array.getD_eq_getD_getElem?, List.getElem?_toArray, List.getElem?_cons_succ, List.getElem?_cons_zero, Option.getD_some] at hs3
        clear hs
        clear hf
        (try simp only [hp])
        go_simp
        try dsimp only
        refine hK.out _ _ ?_ ?_
        · (repeat (first | with_reducible (first | exact Fr.refl _ _ | assumption | refine Fr.drew ?_ | refine Fr.drewN ?_ _ | refine Fr.alloc ?_ _ | refine Fr.setL ?_ _ _ _ ?_) | (left; simp; done) | (right; first | (simp; done) | (simp; omega) | omega)); done)
        · simp only [nth]
          first | (unfold Is; rfl) | (unfold Any; exact trivial) | exact IsSl.new _ _ _ _ | assumption
      · intro ac wx hf hs hp K hK
        simp only [zA, Region.binds, Nat.reduceAdd] at hp
        clear hs
        have cx := k3 wx hf
        clear hf
        (try simp only [hp])
        go_simp
        try dsimp only
        refine hK.out _ _ ?_ ?_
        · (repeat (first | with_reducible (first | exact Fr.refl _ _ | assumption | refine Fr.drew ?_ | refine Fr.drewN ?_ _ | refine Fr.alloc ?_ _ | refine Fr.setL ?_ _ _ _ ?_) | (left; simp; done) | (right; first | (simp; done) | (simp; omega) | omega)); done)
        · simp only [nth]
          first | (unfold Is; rfl) | (unfold Any; exact trivial) | exact IsSl.new _ _ _ _ | assumption
      · intro ac wx hf hs hp K hK
        simp only [zA, Region.binds, Nat.reduceAdd] at hp
        clear hs
        go_simp
        refine hK.out _ _ ((Fr.refl _ _).alloc _) ?_
        exact ⟨⟨_, 3, 3⟩, rfl, Ints.newAt (l := [19, 21, 17]) (Blk.new _ _ _) (by decide) rfl (Fr.refl _ _), fun A n c e hm => by cases e; have h9 : wx.heap.size < _ := hT.is.ltX _ hm; have := hf.size; omega⟩
      · intro ac wx hf hs hp K hK
        simp only [zA, Region.binds, Nat.reduceAdd] at hp
        clear hs
        obtain ⟨s2, e2, hx2, hx2'⟩ := hp
        go_simp
        go_at_call 142
        refine (grid_some _ _).mono ?_
        rintro e w' ⟨rfl, rfl⟩
        exact hK.out _ _ (Fr.refl _ _) ⟨s2, rfl, hx2, hx2'⟩
    case hD =>
      intro x wx hf hp
      simp only [fill, List.setIfInBounds_toArray, List.set_cons_zero, List.set_cons_succ, Nat.reduceAdd, Act.put]
      simp only [List.length_cons, List.length_nil, Nat.reduceAdd, List.range_eq_range', List.range'_succ, List.range'_zero, Nat.zero_add, Nat.add_zero, holds, nth, Is, Any, true_and, and_true] at hp
      obtain ⟨x0, -, x2, -, s1, x4, hI, hn⟩ := hp
      simp only [x0, x2, x4]
      clear x0 x2 x4 k3
      go_simp
      go_at_call 143
      refine (grid_answers1 w0 wx g cap bs _ b2 b3 p0 p1 p2 p3 p4 p0 22 s1 Sl.nil [19, 21, 17] [] ⟨hT.is.fr hf, hT.fr.tr0 hf⟩ (h2.fr hf (by simp)) (h3.fr hf (by simp)) h2n h3n hp0a hp0b (by decide) (by decide) hI (Ints.nil _ _) hn (fun A n c e => by cases e) (by decide) (by decide) hp3).mono ?_
      rintro r w4 ⟨rfl, hT4, f4⟩
      have h2 := (h2.fr hf (by simp)).fr f4 h2n
      have h3 := (h3.fr hf (by simp)).fr f4 h3n
      have h5 := (h5.fr hf (by simp)).fr f4 (tbX_L h5n)
      clear hT hT3 hf f4 hI hn
      go_wp2
      have hT := hT4
      have k3 : ∀ wx, Fr [] w4 wx → wx.cell? ⟨b3, 0, none⟩ = some (.int .i64 p0) := fun wx hf => hf.cell (h3.cell 0 rfl) (by simp)
      refine wp_region_keepsL [] [Is (.func (.func 143) #[] #[.pointer (some ⟨b2, 0, none⟩), .pointer (some ⟨b3, 0, none⟩)]), Is (.pointer (some ⟨b3, 0, none⟩)), Is (.int .i64 p0), IsN (tbX bs) [20, 19, 22, 34], IsN (tbX bs) [20, 19, 22, 34], Is (.slice (some ⟨b5, 0, none⟩) 1 1)] 6 rfl rfl (by kernel_rfl) (by kernel_rfl) (by kernel_rfl) (by kernel_rfl) (by kernel_rfl) ?hV ?hS ?hD
      case hV =>
        repeat (first | exact trivial | exact Is.keeps _ | exact Any.keeps | exact IsSl.keeps _ _ _ | exact IsN.keeps _ _ | refine And.intro ?_ ?_)
      case hS =>
        (repeat' (first | exact trivial | refine And.intro ?_ ?_))
        · intro ac wx hf hs hp K hK
          simp only [zA, Region.binds, Nat.reduceAdd] at hp
          have hs4 := hs 4 (by kernel_rfl)
          simp only [Array.getD_eq_getD_getElem?, List.getElem?_toArray, List.getElem?_cons_succ, List.getElem?_cons_zero, Option.getD_some] at hs4
          clear hs
          clear hf
          (try simp only [hp])
          go_simp
          try dsimp only
          refine hK.out _ _ ?_ ?_
          · (repeat (first | with_reducible (first | exact Fr.refl _ _ | assumption | refine Fr.drew ?_ | refine Fr.drewN ?_ _ | refine Fr.alloc ?_ _ | refine Fr.setL ?_ _ _ _ ?_) | (left; simp; done) | (right; first | (simp; done) | (simp; omega) | omega)); done)
          · simp only [nth]
            first | (unfold Is; rfl) | (unfold Any; exact trivial) | exact IsSl.new _ _ _ _ | assumption
        · intro ac wx hf hs hp K hK
          simp only [zA, Region.binds, Nat.reduceAdd] at hp
          have hs3 := hs 3 (by kernel_rfl)
          simp only [Array.getD_eq_getD_getElem?, List.getElem?_toArray, List.getElem?_cons_succ, List.getElem?_cons_zero, Option.getD_some] at hs3
          clear hs
          clear hf
          (try simp only [hp])
          go_simp
          try dsimp only
          refine hK.out _ _ ?_ ?_
          · (repeat (first | with_reducible (first | exact Fr.refl _ _ | assumption | refine Fr.drew ?_ | refine Fr.drewN ?_ _ | refine Fr.alloc ?_ _ | refine Fr.setL ?_ _ _ _ ?_) | (left; simp; done) | (right; first | (simp; done) | (simp; omega) | omega)); done)
          · simp only [nth]
            first | (unfold Is; rfl) | (unfold Any; exact trivial) | exact IsSl.new _ _ _ _ | assumption
        · intro ac wx hf hs hp K hK
          simp only [zA, Region.binds, Nat.reduceAdd] at hp
          clear hs
          have cx := k3 wx hf
          clear hf
          (try simp only [hp])
          go_simp
          try dsimp only
          refine hK.out _ _ ?_ ?_
          · (repeat (first | with_reducible (first | exact Fr.refl _ _ | assumption | refine Fr.drew ?_ | refine Fr.drewN ?_ _ | refine Fr.alloc ?_ _ | refine Fr.setL ?_ _ _ _ ?_) | (left; simp; done) | (right; first | (simp; done) | (simp; omega) | omega)); done)
          · simp only [nth]
            first | (unfold Is; rfl) | (unfold Any; exact trivial) | exact IsSl.new _ _ _ _ | assumption
        · intro ac wx hf hs hp K hK
          simp only [zA, Region.binds, Nat.reduceAdd] at hp
          clear hs
          go_simp
          refine hK.out _ _ ((Fr.refl _ _).alloc _) ?_
          exact ⟨⟨_, 4, 4⟩, rfl, Ints.newAt (l := [20, 19, 22, 34]) (Blk.new _ _ _) (by decide) rfl (Fr.refl _ _), fun A n c e hm => by cases e; have h9 : wx.heap.size < _ := hT.is.ltX _ hm; have := hf.size; omega⟩
        · intro ac wx hf hs hp K hK
          simp only [zA, Region.binds, Nat.reduceAdd] at hp
          clear hs
          obtain ⟨s2, e2, hx2, hx2'⟩ := hp
          go_simp
          go_at_call 142
          refine (grid_some _ _).mono ?_
          rintro e w' ⟨rfl, rfl⟩
          exact hK.out _ _ (Fr.refl _ _) ⟨s2, rfl, hx2, hx2'⟩
        · intro ac wx hf hs hp K hK
          simp only [zA, Region.binds, Nat.reduceAdd] at hp
          have hs5 := hs 5 (by kernel_rfl)
          simp only [Array.getD_eq_getD_getElem?, List.getElem?_toArray, List.getElem?_cons_succ, List.getElem?_cons_zero, Option.getD_some] at hs5
          clear hs
          clear hf
          (try simp only [hp])
          go_simp
          try dsimp only
          refine hK.out _ _ ?_ ?_
          · (repeat (first | with_reducible (first | exact Fr.refl _ _ | assumption | refine Fr.drew ?_ | refine Fr.drewN ?_ _ | refine Fr.alloc ?_ _ | refine Fr.setL ?_ _ _ _ ?_) | (left; simp; done) | (right; first | (simp; done) | (simp; omega) | omega)); done)
          · simp only [nth]
            first | (unfold Is; rfl) | (unfold Any; exact trivial) | exact IsSl.new _ _ _ _ | assumption
      case hD =>
        intro x wx hf hp
        simp only [fill, List.setIfInBounds_toArray, List.set_cons_zero, List.set_cons_succ, Nat.reduceAdd, Act.put]
        simp only [List.length_cons, List.length_nil, Nat.reduceAdd, List.range_eq_range', List.range'_succ, List.range'_zero, Nat.zero_add, Nat.add_zero, holds, nth, Is, Any, true_and, and_true] at hp
        obtain ⟨x0, -, x2, -, ⟨s1, x4, hI, hn⟩, x5⟩ := hp
        simp only [x0, x2, x4, x5]
        clear x0 x2 x4 x5 k3
        go_simp
        go_at_call 143
        refine (grid_answers1 w0 wx g cap bs _ b2 b3 p0 p1 p2 p3 p4 p0 25 s1 ⟨some ⟨b5, 0, none⟩, 1, 1⟩ [20, 19, 22, 34] [31] ⟨hT.is.fr hf, hT.fr.tr0 hf⟩ (h2.fr hf (by simp)) (h3.fr hf (by simp)) h2n h3n hp0a hp0b (by decide) (by decide) hI (Ints.newAt (l := [31]) (h5.fr hf (by simp)) (by decide) rfl (Fr.refl _ _)) hn (fun A n c e => by cases e; exact h5n) (by decide) (by decide) hp3).mono ?_
        rintro r w5 ⟨rfl, hT5, f5⟩
        have h2 := (h2.fr hf (by simp)).fr f5 h2n
        have h3 := (h3.fr hf (by simp)).fr f5 h3n
        have h5 := (h5.fr hf (by simp)).fr f5 (tbX_L h5n)
        clear hT hT4 hf f5 hI hn
        go_wp2
        have hT := hT5
        have k3 : ∀ wx, Fr [] w5 wx → wx.cell? ⟨b3, 1, none⟩ = some (.int .i64 p1) := fun wx hf => hf.cell (h3.cell 1 rfl) (by simp)
        refine wp_region_keepsL [] [Is (.func (.func 143) #[] #[.pointer (some ⟨b2, 0, none⟩), .pointer (some ⟨b3, 0, none⟩)]), Is (.pointer (some ⟨b3, 1, none⟩)), Is (.int .i64 p1), IsN (tbX bs) [20, 19], IsN (tbX bs) [20, 19]] 5 rfl rfl (by kernel_rfl) (by kernel_rfl) (by kernel_rfl) (by kernel_rfl) (by kernel_rfl) ?hV ?hS ?hD
        case hV =>
          repeat (first | exact trivial | exact Is.keeps _ | exact Any.keeps | exact IsSl.keeps _ _ _ | exact IsN.keeps _ _ | refine And.intro ?_ ?_)
        case hS =>
          (repeat' (first | exact trivial | refine And.intro ?_ ?_))
          · intro ac wx hf hs hp K hK
            simp only [zA, Region.binds, Nat.reduceAdd] at hp
            have hs4 := hs 4 (by kernel_rfl)
            simp only [Array.getD_eq_getD_getElem?, List.getElem?_toArray, List.getElem?_cons_succ, List.getElem?_cons_zero, Option.getD_some] at hs4
            clear hs
            clear hf
            (try simp only [hp])
            go_simp
            try dsimp only
            refine hK.out _ _ ?_ ?_
            · (repeat (first | with_reducible (first | exact Fr.refl _ _ | assumption | refine Fr.drew ?_ | refine Fr.drewN ?_ _ | refine Fr.alloc ?_ _ | refine Fr.setL ?_ _ _ _ ?_) | (left; simp; done) | (right; first | (simp; done) | (simp; omega) | omega)); done)
            · simp only [nth]
              first | (unfold Is; rfl) | (unfold Any; exact trivial) | exact IsSl.new _ _ _ _ | assumption
          · intro ac wx hf hs hp K hK
            simp only [zA, Region.binds, Nat.reduceAdd] at hp
            have hs3 := hs 3 (by kernel_rfl)
            simp only [Array.getD_eq_getD_getElem?, List.getElem?_toArray, List.getElem?_cons_succ, List.getElem?_cons_zero, Option.getD_some] at hs3
            clear hs
            clear hf
            (try simp only [hp])
            go_simp
            try dsimp only
            refine hK.out _ _ ?_ ?_
            · (repeat (first | with_reducible (first | exact Fr.refl _ _ | assumption | refine Fr.drew ?_ | refine Fr.drewN ?_ _ | refine Fr.alloc ?_ _ | refine Fr.setL ?_ _ _ _ ?_) | (left; simp; done) | (right; first | (simp; done) | (simp; omega) | omega)); done)
            · simp only [nth]
              first | (unfold Is; rfl) | (unfold Any; exact trivial) | exact IsSl.new _ _ _ _ | assumption
          · intro ac wx hf hs hp K hK
            simp only [zA, Region.binds, Nat.reduceAdd] at hp
            clear hs
            have cx := k3 wx hf
            clear hf
            (try simp only [hp])
            go_simp
            try dsimp only
            refine hK.out _ _ ?_ ?_
            · (repeat (first | with_reducible (first | exact Fr.refl _ _ | assumption | refine Fr.drew ?_ | refine Fr.drewN ?_ _ | refine Fr.alloc ?_ _ | refine Fr.setL ?_ _ _ _ ?_) | (left; simp; done) | (right; first | (simp; done) | (simp; omega) | omega)); done)
            · simp only [nth]
              first | (unfold Is; rfl) | (unfold Any; exact trivial) | exact IsSl.new _ _ _ _ | assumption
          · intro ac wx hf hs hp K hK
            simp only [zA, Region.binds, Nat.reduceAdd] at hp
            clear hs
            go_simp
            refine hK.out _ _ ((Fr.refl _ _).alloc _) ?_
            exact ⟨⟨_, 2, 2⟩, rfl, Ints.newAt (l := [20, 19]) (Blk.new _ _ _) (by decide) rfl (Fr.refl _ _), fun A n c e hm => by cases e; have h9 : wx.heap.size < _ := hT.is.ltX _ hm; have := hf.size; omega⟩
          · intro ac wx hf hs hp K hK
            simp only [zA, Region.binds, Nat.reduceAdd] at hp
            clear hs
            obtain ⟨s2, e2, hx2, hx2'⟩ := hp
            go_simp
            go_at_call 142
            refine (grid_some _ _).mono ?_
            rintro e w' ⟨rfl, rfl⟩
            exact hK.out _ _ (Fr.refl _ _) ⟨s2, rfl, hx2, hx2'⟩
        case hD =>
          intro x wx hf hp
          simp only [fill, List.setIfInBounds_toArray, List.set_cons_zero, List.set_cons_succ, Nat.reduceAdd, Act.put]
          simp only [List.length_cons, List.length_nil, Nat.reduceAdd, List.range_eq_range', List.range'_succ, List.range'_zero, Nat.zero_add, Nat.add_zero, holds, nth, Is, Any, true_and, and_true] at hp
          obtain ⟨x0, -, x2, -, s1, x4, hI, hn⟩ := hp
          simp only [x0, x2, x4]
          clear x0 x2 x4 k3
          go_simp
          go_at_call 143
          refine (grid_answers1 w0 wx g cap bs _ b2 b3 p0 p1 p2 p3 p4 p1 19 s1 Sl.nil [20, 19] [] ⟨hT.is.fr hf, hT.fr.tr0 hf⟩ (h2.fr hf (by simp)) (h3.fr hf (by simp)) h2n h3n hp1a hp1b (by decide) (by decide) hI (Ints.nil _ _) hn (fun A n c e => by cases e) (by decide) (by decide) hp3).mono ?_
          rintro r w6 ⟨rfl, hT6, f6⟩
          have h2 := (h2.fr hf (by simp)).fr f6 h2n
          have h3 := (h3.fr hf (by simp)).fr f6 h3n
          have h5 := (h5.fr hf (by simp)).fr f6 (tbX_L h5n)
          clear hT hT5 hf f6 hI hn
          go_wp2
          have hT := hT6
          have k3 : ∀ wx, Fr [] w6 wx → wx.cell? ⟨b3, 1, none⟩ = some (.int .i64 p1) := fun wx hf => hf.cell (h3.cell 1 rfl) (by simp)
          refine wp_region_keepsL [] [Is (.func (.func 143) #[] #[.pointer (some ⟨b2, 0, none⟩), .pointer (some ⟨b3, 0, none⟩)]), Is (.pointer (some ⟨b3, 1, none⟩)), Is (.int .i64 p1), IsN (tbX bs) [19, 21], IsN (tbX bs) [19, 21]] 5 rfl rfl (by kernel_rfl) (by kernel_rfl) (by kernel_rfl) (by kernel_rfl) (by kernel_rfl) ?hV ?hS ?hD
          case hV =>
            repeat (first | exact trivial | exact Is.keeps _ | exact Any.keeps | exact IsSl.keeps _ _ _ | exact IsN.keeps _ _ | refine And.intro ?_ ?_)
          case hS =>
            (repeat' (first | exact trivial | refine And.intro ?_ ?_))
            · intro ac wx hf hs hp K hK
              simp only [zA, Region.binds, Nat.reduceAdd] at hp
              have hs4 := hs 4 (by kernel_rfl)
              simp only [Array.getD_eq_getD_getElem?, List.getElem?_toArray, List.getElem?_cons_succ, List.getElem?_cons_zero, Option.getD_some] at hs4
              clear hs
              clear hf
              (try simp only [hp])
              go_simp
              try dsimp only
              refine hK.out _ _ ?_ ?_
              · (repeat (first | with_reducible (first | exact Fr.refl _ _ | assumption | refine Fr.drew ?_ | refine Fr.drewN ?_ _ | refine Fr.alloc ?_ _ | refine Fr.setL ?_ _ _ _ ?_) | (left; simp; done) | (right; first | (simp; done) | (simp; omega) | omega)); done)
              · simp only [nth]
                first | (unfold Is; rfl) | (unfold Any; exact trivial) | exact IsSl.new _ _ _ _ | assumption
            · intro ac wx hf hs hp K hK
              simp only [zA, Region.binds, Nat.reduceAdd] at hp
              have hs3 := hs 3 (by kernel_rfl)
              simp only [Array.getD_eq_getD_getElem?, List.getElem?_toArray, List.getElem?_cons_succ, List.getElem?_cons_zero, Option.getD_some] at hs3
              clear hs
              clear hf
              (try simp only [hp])
              go_simp
              try dsimp only
              refine hK.out _ _ ?_ ?_
              · (repeat (first | with_reducible (first | exact Fr.refl _ _ | assumption | refine Fr.drew ?_ | refine Fr.drewN ?_ _ | refine Fr.alloc ?_ _ | refine Fr.setL ?_ _ _ _ ?_) | (left; simp; done) | (right; first | (simp; done) | (simp; omega) | omega)); done)
              · simp only [nth]
                first | (unfold Is; rfl) | (unfold Any; exact trivial) | exact IsSl.new _ _ _ _ | assumption
            · intro ac wx hf hs hp K hK
              simp only [zA, Region.binds, Nat.reduceAdd] at hp
              clear hs
              have cx := k3 wx hf
              clear hf
              (try simp only [hp])
              go_simp
              try dsimp only
              refine hK.out _ _ ?_ ?_
              · (repeat (first | with_reducible (first | exact Fr.refl _ _ | assumption | refine Fr.drew ?_ | refine Fr.drewN ?_ _ | refine Fr.alloc ?_ _ | refine Fr.setL ?_ _ _ _ ?_) | (left; simp; done) | (right; first | (simp; done) | (simp; omega) | omega)); done)
              · simp only [nth]
                first | (unfold Is; rfl) | (unfold Any; exact trivial) | exact IsSl.new _ _ _ _ | assumption
            · intro ac wx hf hs hp K hK
              simp only [zA, Region.binds, Nat.reduceAdd] at hp
              clear hs
              go_simp
              refine hK.out _ _ ((Fr.refl _ _).alloc _) ?_
              exact ⟨⟨_, 2, 2⟩, rfl, Ints.newAt (l := [19, 21]) (Blk.new _ _ _) (by decide) rfl (Fr.refl _ _), fun A n c e hm => by cases e; have h9 : wx.heap.size < _ := hT.is.ltX _ hm; have := hf.size; omega⟩
            · intro ac wx hf hs hp K hK
              simp only [zA, Region.binds, Nat.reduceAdd] at hp
              clear hs
              obtain ⟨s2, e2, hx2, hx2'⟩ := hp
              go_simp
              go_at_call 142
              refine (grid_some _ _).mono ?_
              rintro e w' ⟨rfl, rfl⟩
              exact hK.out _ _ (Fr.refl _ _) ⟨s2, rfl, hx2, hx2'⟩
          case hD =>
            intro x wx hf hp
            simp only [fill, List.setIfInBounds_toArray, List.set_cons_zero, List.set_cons_succ, Nat.reduceAdd, Act.put]
            simp only [List.length_cons, List.length_nil, Nat.reduceAdd, List.range_eq_range', List.range'_succ, List.range'_zero, Nat.zero_add, Nat.add_zero, holds, nth, Is, Any, true_and, and_true] at hp
            obtain ⟨x0, -, x2, -, s1, x4, hI, hn⟩ := hp
            simp only [x0, x2, x4]
            clear x0 x2 x4 k3
            go_simp
            go_at_call 143
            refine (grid_answers1 w0 wx g cap bs _ b2 b3 p0 p1 p2 p3 p4 p1 22 s1 Sl.nil [19, 21] [] ⟨hT.is.fr hf, hT.fr.tr0 hf⟩ (h2.fr hf (by simp)) (h3.fr hf (by simp)) h2n h3n hp1a hp1b (by decide) (by decide) hI (Ints.nil _ _) hn (fun A n c e => by cases e) (by decide) (by decide) hp3).mono ?_
            rintro r w7 ⟨rfl, hT7, f7⟩
            have h2 := (h2.fr hf (by simp)).fr f7 h2n
            have h3 := (h3.fr hf (by simp)).fr f7 h3n
            have h5 := (h5.fr hf (by simp)).fr f7 (tbX_L h5n)
            clear hT hT6 hf f7 hI hn
            go_wp2
            have hT := hT7
            have k3 : ∀ wx, Fr [] w7 wx → wx.cell? ⟨b3, 1, none⟩ = some (.int .i64 p1) := fun wx hf => hf.cell (h3.cell 1 rfl) (by simp)
            refine wp_region_keepsL [] [Is (.func (.func 143) #[] #[.pointer (some ⟨b2, 0, none⟩), .pointer (some ⟨b3, 0, none⟩)]), Is (.pointer (some ⟨b3, 1, none⟩)), Is (.int .i64 p1), IsN (tbX bs) [20, 19], IsN (tbX bs) [20, 19]] 5 rfl rfl (by kernel_rfl) (by kernel_rfl) (by kernel_rfl) (by kernel_rfl) (by kernel_rfl) ?hV ?hS ?hD
            case hV =>
              repeat (first | exact trivial | exact Is.keeps _ | exact Any.keeps | exact IsSl.keeps _ _ _ | exact IsN.keeps _ _ | refine And.intro ?_ ?_)
            case hS =>
              (repeat' (first | exact trivial | refine And.intro ?_ ?_))
              · intro ac wx hf hs hp K hK
                simp only [zA, Region.binds, Nat.reduceAdd] at hp
                have hs4 := hs 4 (by kernel_rfl)
                simp only [Array.getD_eq_getD_getElem?, List.getElem?_toArray, List.getElem?_cons_succ, List.getElem?_cons_zero, Option.getD_some] at hs4
                clear hs
                clear hf
                (try simp only [hp])
                go_simp
                try dsimp only
                refine hK.out _ _ ?_ ?_
                · (repeat (first | with_reducible (first | exact Fr.refl _ _ | assumption | refine Fr.drew ?_ | refine Fr.drewN ?_ _ | refine Fr.alloc ?_ _ | refine Fr.setL ?_ _ _ _ ?_) | (left; simp; done) | (right; first | (simp; done) | (simp; omega) | omega)); done)
                · simp only [nth]
                  first | (unfold Is; rfl) | (unfold Any; exact trivial) | exact IsSl.new _ _ _ _ | assumption
              · intro ac wx hf hs hp K hK
                simp only [zA, Region.binds, Nat.reduceAdd] at hp
                have hs3 := hs 3 (by kernel_rfl)
                simp only [Array.getD_eq_getD_getElem?, List.getElem?_toArray, List.getElem?_cons_succ, List.getElem?_cons_zero, Option.getD_some] at hs3
                clear hs
                clear hf
                (try simp only [hp])
                go_simp
                try dsimp only
                refine hK.out _ _ ?_ ?_
                · (repeat (first | with_reducible (first | exact Fr.refl _ _ | assumption | refine Fr.drew ?_ | refine Fr.drewN ?_ _ | refine Fr.alloc ?_ _ | refine Fr.setL ?_ _ _ _ ?_) | (left; simp; done) | (right; first | (simp; done) | (simp; omega) | omega)); done)
                · simp only [nth]
                  first | (unfold Is; rfl) | (unfold Any; exact trivial) | exact IsSl.new _ _ _ _ | assumption
              · intro ac wx hf hs hp K hK
                simp only [zA, Region.binds, Nat.reduceAdd] at hp
                clear hs
                have cx := k3 wx hf
                clear hf
                (try simp only [hp])
                go_simp
                try dsimp only
                refine hK.out _ _ ?_ ?_
                · (repeat (first | with_reducible (first | exact Fr.refl _ _ | assumption | refine Fr.drew ?_ | refine Fr.drewN ?_ _ | refine Fr.alloc ?_ _ | refine Fr.setL ?_ _ _ _ ?_) | (left; simp; done) | (right; first | (simp; done) | (simp; omega) | omega)); done)
                · simp only [nth]
                  first | (unfold Is; rfl) | (unfold Any; exact trivial) | exact IsSl.new _ _ _ _ | assumption
              · intro ac wx hf hs hp K hK
                simp only [zA, Region.binds, Nat.reduceAdd] at hp
                clear hs
                go_simp
                refine hK.out _ _ ((Fr.refl _ _).alloc _) ?_
                exact ⟨⟨_, 2, 2⟩, rfl, Ints.newAt (l := [20, 19]) (Blk.new _ _ _) (by decide) rfl (Fr.refl _ _), fun A n c e hm => by cases e; have h9 : wx.heap.size < _ := hT.is.ltX _ hm; have := hf.size; omega⟩
              · intro ac wx hf hs hp K hK
                simp only [zA, Region.binds, Nat.reduceAdd] at hp
                clear hs
                obtain ⟨s2, e2, hx2, hx2'⟩ := hp
                go_simp
                go_at_call 142
                refine (grid_some _ _).mono ?_
                rintro e w' ⟨rfl, rfl⟩
                exact hK.out _ _ (Fr.refl _ _) ⟨s2, rfl, hx2, hx2'⟩
            case hD =>
              intro x wx hf hp
              simp only [fill, List.setIfInBounds_toArray, List.set_cons_zero, List.set_cons_succ, Nat.reduceAdd, Act.put]
              simp only [List.length_cons, List.length_nil, Nat.reduceAdd, List.range_eq_range', List.range'_succ, List.range'_zero, Nat.zero_add, Nat.add_zero, holds, nth, Is, Any, true_and, and_true] at hp
              obtain ⟨x0, -, x2, -, s1, x4, hI, hn⟩ := hp
              simp only [x0, x2, x4]
              clear x0 x2 x4 k3
              go_simp
              go_at_call 143
              refine (grid_answers1 w0 wx g cap bs _ b2 b3 p0 p1 p2 p3 p4 p1 25 s1 Sl.nil [20, 19] [] ⟨hT.is.fr hf, hT.fr.tr0 hf⟩ (h2.fr hf (by simp)) (h3.fr hf (by simp)) h2n h3n hp1a hp1b (by decide) (by decide) hI (Ints.nil _ _) hn (fun A n c e => by cases e) (by decide) (by decide) hp3).mono ?_
              rintro r w8 ⟨rfl, hT8, f8⟩
              have h2 := (h2.fr hf (by simp)).fr f8 h2n
              have h3 := (h3.fr hf (by simp)).fr f8 h3n
              have h5 := (h5.fr hf (by simp)).fr f8 (tbX_L h5n)
              clear hT hT7 hf f8 hI hn
              have c2 : w8.cell? ⟨b2, 0, none⟩ = some (.slice (some ⟨g, 0, none⟩) 14 cap) := h2.cell 0 rfl
              have d0 : w8.cell? ⟨b3, 0, none⟩ = some (.int .i64 p0) := h3.cell 0 rfl
              have d1 : w8.cell? ⟨b3, 1, none⟩ = some (.int .i64 p1) := h3.cell 1 rfl
              have d2 : w8.cell? ⟨b3, 2, none⟩ = some (.int .i64 p2) := h3.cell 2 rfl
              have d3 : w8.cell? ⟨b3, 3, none⟩ = some (.int .i64 p3) := h3.cell 3 rfl
              have d4 : w8.cell? ⟨b3, 4, none⟩ = some (.int .i64 p4) := h3.cell 4 rfl
              go_wp2_with fail
              clear c2 d0 d1 d2 d3 d4
              refine (lay_new (w := w8) [31] hT8 ((Fr.refl _ _).alloc _) hp0a hp0b (by decide) (by decide) (Blk.newAt _ _ _ _ (by simp)) (by simp) (by decide) rfl).mono ?_
              rintro r w9 ⟨rfl, hT9, f9⟩
              have h2 := (h2.alloc _).fr f9 h2n
              have h3 := (h3.alloc _).fr f9 h3n
              have h5 := (h5.alloc _).fr f9 (tbX_L h5n)
              clear hT8 f9
              have c2 : w9.cell? ⟨b2, 0, none⟩ = some (.slice (some ⟨g, 0, none⟩) 14 cap) := h2.cell 0 rfl
              have d0 : w9.cell? ⟨b3, 0, none⟩ = some (.int .i64 p0) := h3.cell 0 rfl
              have d1 : w9.cell? ⟨b3, 1, none⟩ = some (.int .i64 p1) := h3.cell 1 rfl
              have d2 : w9.cell? ⟨b3, 2, none⟩ = some (.int .i64 p2) := h3.cell 2 rfl
              have d3 : w9.cell? ⟨b3, 3, none⟩ = some (.int .i64 p3) := h3.cell 3 rfl
              have d4 : w9.cell? ⟨b3, 4, none⟩ = some (.int .i64 p4) := h3.cell 4 rfl
              go_wp2_with fail
              clear c2 d0 d1 d2 d3 d4
              refine (lay_new (w := w9) [p4, 14, 32, 34] hT9 ((Fr.refl _ _).alloc _) hp0a hp0b (by decide) (by decide) (Blk.newAt _ _ _ _ (by simp)) (by simp) (okI.cons hp4 (by decide)) rfl).mono ?_
              rintro r w10 ⟨rfl, hT10, f10⟩
              have h2 := (h2.alloc _).fr f10 h2n
              have h3 := (h3.alloc _).fr f10 h3n
              have h5 := (h5.alloc _).fr f10 (tbX_L h5n)
              clear hT9 f10
              have c2 : w10.cell? ⟨b2, 0, none⟩ = some (.slice (some ⟨g, 0, none⟩) 14 cap) := h2.cell 0 rfl
              have d0 : w10.cell? ⟨b3, 0, none⟩ = some (.int .i64 p0) := h3.cell 0 rfl
              have d1 : w10.cell? ⟨b3, 1, none⟩ = some (.int .i64 p1) := h3.cell 1 rfl
              have d2 : w10.cell? ⟨b3, 2, none⟩ = some (.int .i64 p2) := h3.cell 2 rfl
              have d3 : w10.cell? ⟨b3, 3, none⟩ = some (.int .i64 p3) := h3.cell 3 rfl
              have d4 : w10.cell? ⟨b3, 4, none⟩ = some (.int .i64 p4) := h3.cell 4 rfl
              go_wp2_with fail
              clear c2 d0 d1 d2 d3 d4
              refine (lay_new (w := w10) [p4, 14, 32] hT10 ((Fr.refl _ _).alloc _) hp0a hp0b (by decide) (by decide) (Blk.newAt _ _ _ _ (by simp)) (by simp) (okI.cons hp4 (by decide)) rfl).mono ?_
              rintro r w11 ⟨rfl, hT11, f11⟩
              have h2 := (h2.alloc _).fr f11 h2n
              have h3 := (h3.alloc _).fr f11 h3n
              have h5 := (h5.alloc _).fr f11 (tbX_L h5n)
              clear hT10 f11
              have c2 : w11.cell? ⟨b2, 0, none⟩ = some (.slice (some ⟨g, 0, none⟩) 14 cap) := h2.cell 0 rfl
              have d0 : w11.cell? ⟨b3, 0, none⟩ = some (.int .i64 p0) := h3.cell 0 rfl
              have d1 : w11.cell? ⟨b3, 1, none⟩ = some (.int .i64 p1) := h3.cell 1 rfl
              have d2 : w11.cell? ⟨b3, 2, none⟩ = some (.int .i64 p2) := h3.cell 2 rfl
              have d3 : w11.cell? ⟨b3, 3, none⟩ = some (.int .i64 p3) := h3.cell 3 rfl
              have d4 : w11.cell? ⟨b3, 4, none⟩ = some (.int .i64 p4) := h3.cell 4 rfl
              go_wp2_with fail
              clear c2 d0 d1 d2 d3 d4
              refine (lay_new (w := w11) [p4, 14, 32] hT11 ((Fr.refl _ _).alloc _) hp1a hp1b (by decide) (by decide) (Blk.newAt _ _ _ _ (by simp)) (by simp) (okI.cons hp4 (by decide)) rfl).mono ?_
              rintro r w12 ⟨rfl, hT12, f12⟩
              have h2 := (h2.alloc _).fr f12 h2n
              have h3 := (h3.alloc _).fr f12 h3n
              have h5 := (h5.alloc _).fr f12 (tbX_L h5n)
              clear hT11 f12
              have c2 : w12.cell? ⟨b2, 0, none⟩ = some (.slice (some ⟨g, 0, none⟩) 14 cap) := h2.cell 0 rfl
              have d0 : w12.cell? ⟨b3, 0, none⟩ = some (.int .i64 p0) := h3.cell 0 rfl
              have d1 : w12.cell? ⟨b3, 1, none⟩ = some (.int .i64 p1) := h3.cell 1 rfl
              have d2 : w12.cell? ⟨b3, 2, none⟩ = some (.int .i64 p2) := h3.cell 2 rfl
              have d3 : w12.cell? ⟨b3, 3, none⟩ = some (.int .i64 p3) := h3.cell 3 rfl
              have d4 : w12.cell? ⟨b3, 4, none⟩ = some (.int .i64 p4) := h3.cell 4 rfl
              go_wp2_with fail
              clear c2 d0 d1 d2 d3 d4
              refine (lay_new (w := w12) [20, 19, 22, 33, 31] hT12 ((Fr.refl _ _).alloc _) hp1a hp1b (by decide) (by decide) (Blk.newAt _ _ _ _ (by simp)) (by simp) (by decide) rfl).mono ?_
              rintro r w13 ⟨rfl, hT13, f13⟩
              have h2 := (h2.alloc _).fr f13 h2n
              have h3 := (h3.alloc _).fr f13 h3n
              have h5 := (h5.alloc _).fr f13 (tbX_L h5n)
              clear hT12 f13
              have c2 : w13.cell? ⟨b2, 0, none⟩ = some (.slice (some ⟨g, 0, none⟩) 14 cap) := h2.cell 0 rfl
              have d0 : w13.cell? ⟨b3, 0, none⟩ = some (.int .i64 p0) := h3.cell 0 rfl
              have d1 : w13.cell? ⟨b3, 1, none⟩ = some (.int .i64 p1) := h3.cell 1 rfl
              have d2 : w13.cell? ⟨b3, 2, none⟩ = some (.int .i64 p2) := h3.cell 2 rfl
              have d3 : w13.cell? ⟨b3, 3, none⟩ = some (.int .i64 p3) := h3.cell 3 rfl
              have d4 : w13.cell? ⟨b3, 4, none⟩ = some (.int .i64 p4) := h3.cell 4 rfl
              go_wp2_with fail
              clear c2 d0 d1 d2 d3 d4
              refine (lay_new (w := w13) [19, 21, 17, 22, 33] hT13 ((Fr.refl _ _).alloc _) hp1a hp1b (by decide) (by decide) (Blk.newAt _ _ _ _ (by simp)) (by simp) (by decide) rfl).mono ?_
              rintro r w14 ⟨rfl, hT14, f14⟩
              have h2 := (h2.alloc _).fr f14 h2n
              have h3 := (h3.alloc _).fr f14 h3n
              have h5 := (h5.alloc _).fr f14 (tbX_L h5n)
              clear hT13 f14
              have c2 : w14.cell? ⟨b2, 0, none⟩ = some (.slice (some ⟨g, 0, none⟩) 14 cap) := h2.cell 0 rfl
              have d0 : w14.cell? ⟨b3, 0, none⟩ = some (.int .i64 p0) := h3.cell 0 rfl
              have d1 : w14.cell? ⟨b3, 1, none⟩ = some (.int .i64 p1) := h3.cell 1 rfl
              have d2 : w14.cell? ⟨b3, 2, none⟩ = some (.int .i64 p2) := h3.cell 2 rfl
              have d3 : w14.cell? ⟨b3, 3, none⟩ = some (.int .i64 p3) := h3.cell 3 rfl
              have d4 : w14.cell? ⟨b3, 4, none⟩ = some (.int .i64 p4) := h3.cell 4 rfl
              go_wp2_with fail
              clear c2 d0 d1 d2 d3 d4
              refine (lay_new (w := w14) [20, 19, 22, 34, 33, 31] hT14 ((Fr.refl _ _).alloc _) hp1a hp1b (by decide) (by decide) (Blk.newAt _ _ _ _ (by simp)) (by simp) (by decide) rfl).mono ?_
              rintro r w15 ⟨rfl, hT15, f15⟩
              have h2 := (h2.alloc _).fr f15 h2n
              have h3 := (h3.alloc _).fr f15 h3n
              have h5 := (h5.alloc _).fr f15 (tbX_L h5n)
              clear hT14 f15
              go_wp2
              go_end0
              exact ⟨rfl, hT15⟩

end Go.Proofs.YtneggoonlmmjeaaGreat
namespace Go.Proofs.YtneggoonlmmjeaaGreat
open Go.RowKit Go.Shelf
set_option linter.unusedVariables false
set_option linter.unusedSimpArgs false
set_option maxRecDepth 100000

def infosA (T : Tb) : Tb :=
  let T := layI 10 31 (13) [29, 14, 32] T
  let T := layI 8 13 (-1) ([[19, 18], [23], [31]].flatten) T
  let T := layI 8 (13 + 1) (-1) ([[19, 18], [24], [31]].flatten) T
  let T := layI 8 16 (10) ([[19], [27], [15, 31]].flatten) T
  let T := layI 8 (16 + 1) (10) ([[19], [28], [15, 31]].flatten) T
  let T := layI 10 13 (8) ([[19, 18, 16], [23], [31]].flatten) T
  let T := layI 10 (13 + 1) (8) ([[19, 18, 16], [24], [31]].flatten) T
  let T := layI 10 16 (-1) [19, 31] T
  let T := layI 10 17 (-1) [19, 24, 31] T
  T
def infosL1 (T : Tb) : Tb :=
  let T := layI 9 13 (-1) ([[19], [25], [31]].flatten) T
  let T := layI 9 (13 + 1) (-1) ([[19], [26], [31]].flatten) T
  let T := layI 12 13 (-1) ([[19], [25], []].flatten) T
  let T := layI 12 (13 + 1) (-1) ([[19], [26], []].flatten) T
  T
def infosL2 (T : Tb) : Tb :=
  let T := layI 9 16 (-1) ([[19], [25], [31]].flatten) T
  let T := layI 9 (16 + 1) (-1) ([[19], [26], [31]].flatten) T
  let T := layI 12 16 (-1) ([[19], [25], []].flatten) T
  let T := layI 12 (16 + 1) (-1) ([[19], [26], []].flatten) T
  T
def infosL (j : Nat) (T : Tb) : Tb := match j with | 0 => T | 1 => infosL1 T | _ => infosL2 (infosL1 T)
def infosB (T : Tb) : Tb :=
  let T := layI 11 13 (-1) ([[19, 18], [23], []].flatten) T
  let T := layI 11 (13 + 1) (-1) ([[19, 18], [24], []].flatten) T
  let T := layI 11 16 (13) ([[19], [27], [15]].flatten) T
  let T := layI 11 (16 + 1) (13) ([[19], [28], [15]].flatten) T
  let T := layI 13 13 (11) ([[19, 18, 16], [23], []].flatten) T
  let T := layI 13 (13 + 1) (11) ([[19, 18, 16], [24], []].flatten) T
  let T := layI 13 16 (-1) [19] T
  let T := layI 13 17 (-1) [19, 24] T
  let T := layI 11 15 (8) [20, 19, 18, 22, 33, 23, 31] T
  let T := layI 11 18 (10) [20, 19, 22, 33, 27, 15, 31] T
  let T := layI 13 15 (8) [20, 19, 18, 16, 22, 33, 23, 31] T
  let T := layI 13 18 (10) [20, 19, 22, 33, 31] T
  let T := eachM [12] [15, 18] (9) [20, 19, 22, 33, 25, 31] T
  T
def infosM (T : Tb) : Tb := infosB (infosL 2 (infosA T))
theorem keepsT0 (L : List Nat) (cs : Array Value) (t n : Nat) : Keeps [] (IsSl L cs t n) := fun _ _ _ hf ⟨b, e, h, hn⟩ => ⟨b, e, h.fr hf (by simp), hn⟩
set_option maxHeartbeats 8000000 in
set_option maxRecDepth 100000 in
theorem grid_infos (w0 w1 : World) (g cap : Nat) (bs : Nat → Nat) (T : Tb) (h1 : Tab w0 w1 g bs T) :
    Calls Tryz.prog 90 #[.slice (some ⟨g, 0, none⟩) 14 cap] w1 fun r w' => r = .returned (.tuple #[]) ∧ Tab w0 w' g bs (infosM T) := by
  go_enter Tryz.func90, Tryz.ntmps90
  go_wp2_with fail
  refine (grid_some _ _).mono ?_
  rintro e w' ⟨rfl, rfl⟩
  have h2 : Blk ((w1.alloc (.cells #[.slice (some ⟨g, 0, none⟩) 14 cap] 140)).alloc (.cells #[.int .i64 31] 3)) w1.heap.size #[.slice (some ⟨g, 0, none⟩) 14 cap] 140 := ((Blk.new w1 _ _).alloc _)
  have h5 : Blk ((w1.alloc (.cells #[.slice (some ⟨g, 0, none⟩) 14 cap] 140)).alloc (.cells #[.int .i64 31] 3)) (w1.heap.size + 1) (arr [31]) 3 := Blk.newAt _ _ _ _ (by simp)
  have h2n : w1.heap.size ∉ tbL bs := fun hm => by have h9 : w1.heap.size < _ := h1.is.lt _ hm; omega
  have h5n : w1.heap.size + 1 ∉ tbX bs := fun hm => by have h9 : w1.heap.size + 1 < _ := h1.is.ltX _ hm; omega
  have c2 : World.cell? ((w1.alloc (.cells #[.slice (some ⟨g, 0, none⟩) 14 cap] 140)).alloc (.cells #[.int .i64 31] 3)) ⟨w1.heap.size, 0, none⟩ = some (.slice (some ⟨g, 0, none⟩) 14 cap) := h2.cell 0 rfl
  have hT2 : Tab w0 ((w1.alloc (.cells #[.slice (some ⟨g, 0, none⟩) 14 cap] 140)).alloc (.cells #[.int .i64 31] 3)) g bs T := ⟨h1.is.fr ((((Fr.refl _ _).alloc _).alloc _)), ((h1.fr.alloc _).alloc _)⟩
  clear h1
  generalize hb2 : w1.heap.size + 1 = b5 at *
  generalize hb1 : w1.heap.size = b2 at *
  generalize ((w1.alloc (.cells #[.slice (some ⟨g, 0, none⟩) 14 cap] 140)).alloc (.cells #[.int .i64 31] 3)) = w2 at *
  clear hb1 hb2
  go_wp2_with fail
  refine (lay_new (w := w2) [29, 14, 32] hT2 ((Fr.refl _ _).alloc _) (by decide) (by decide) (by decide) (by decide) (Blk.newAt _ _ _ _ (by simp)) (by simp) (by decide) rfl).mono ?_
  rintro r w3 ⟨rfl, hT3, f3⟩
  clear c2
  have h2 := (h2.fr ((Fr.refl [] _).alloc _) (by simp)).fr f3 h2n
  have h5 := (h5.fr ((Fr.refl [] _).alloc _) (by simp)).fr f3 (tbX_L h5n)
  have c2 : w3.cell? ⟨b2, 0, none⟩ = some (.slice (some ⟨g, 0, none⟩) 14 cap) := h2.cell 0 rfl
  clear hT2
  clear f3
  go_wp2_with (go_at_call 142; refine (grid_some _ _).mono ?_; rintro e w' ⟨rfl, rfl⟩)
  refine (grid_infos1 w0 _ g cap bs _ b2 23 24 8 13 (-1) ⟨some ⟨w3.heap.size, 0, none⟩, 2, 2⟩ ⟨some ⟨b5, 0, none⟩, 1, 1⟩ [19, 18] [31] ⟨hT3.is.fr ((Fr.refl _ _).alloc _), hT3.fr.tr0 ((Fr.refl _ _).alloc _)⟩ (h2.fr ((Fr.refl [] _).alloc _) (by simp)) h2n (by decide) (by decide) (by decide) (by decide) (Ints.newAt (l := [19, 18]) (Blk.newAt _ _ (arr [19, 18]) 3 (by simp)) (by decide) rfl (Fr.refl _ _)) (Ints.newAt (l := [31]) (h5.fr ((Fr.refl [] _).alloc _) (by simp)) (by decide) rfl (Fr.refl _ _)) (fun A n c e hm => by cases e; have h9 : w3.heap.size < _ := hT3.is.ltX _ hm; omega) (fun A n c e => by cases e; exact h5n) (by decide) (by decide) (by decide) (by decide)).mono ?_
  rintro r w4 ⟨rfl, hT4, f4⟩
  clear c2
  have h2 := (h2.fr ((Fr.refl [] _).alloc _) (by simp)).fr f4 h2n
  have h5 := (h5.fr ((Fr.refl [] _).alloc _) (by simp)).fr f4 (tbX_L h5n)
  have c2 : w4.cell? ⟨b2, 0, none⟩ = some (.slice (some ⟨g, 0, none⟩) 14 cap) := h2.cell 0 rfl
  clear hT3
  clear f4
  go_wp2_with (go_at_call 142; refine (grid_some _ _).mono ?_; rintro e w' ⟨rfl, rfl⟩)
  refine (grid_infos1 w0 _ g cap bs _ b2 27 28 8 16 (10) ⟨some ⟨w4.heap.size, 0, none⟩, 1, 1⟩ ⟨some ⟨w4.heap.size + 1, 0, none⟩, 2, 2⟩ [19] [15, 31] ⟨hT4.is.fr (((Fr.refl _ _).alloc _).alloc _), hT4.fr.tr0 (((Fr.refl _ _).alloc _).alloc _)⟩ (h2.fr (((Fr.refl [] _).alloc _).alloc _) (by simp)) h2n (by decide) (by decide) (by decide) (by decide) (Ints.newAt (l := [19]) ((Blk.newAt _ _ (arr [19]) 3 (by simp)).alloc _) (by decide) rfl (Fr.refl _ _)) (Ints.newAt (l := [15, 31]) (Blk.newAt _ _ (arr [15, 31]) 3 (by simp)) (by decide) rfl (Fr.refl _ _)) (fun A n c e hm => by cases e; have h9 : w4.heap.size < _ := hT4.is.ltX _ hm; omega) (fun A n c e hm => by cases e; have h9 : w4.heap.size + 1 < _ := hT4.is.ltX _ hm; omega) (by decide) (by decide) (by decide) (by decide)).mono ?_
  rintro r w5 ⟨rfl, hT5, f5⟩
  clear c2
  have h2 := (h2.fr (((Fr.refl [] _).alloc _).alloc _) (by simp)).fr f5 h2n
  have h5 := (h5.fr (((Fr.refl [] _).alloc _).alloc _) (by simp)).fr f5 (tbX_L h5n)
  have c2 : w5.cell? ⟨b2, 0, none⟩ = some (.slice (some ⟨g, 0, none⟩) 14 cap) := h2.cell 0 rfl
  clear hT4
  clear f5
  go_wp2_with (go_at_call 142; refine (grid_some _ _).mono ?_; rintro e w' ⟨rfl, rfl⟩)
  refine (grid_infos1 w0 _ g cap bs _ b2 23 24 10 13 (8) ⟨some ⟨w5.heap.size, 0, none⟩, 3, 3⟩ ⟨some ⟨b5, 0, none⟩, 1, 1⟩ [19, 18, 16] [31] ⟨hT5.is.fr ((Fr.refl _ _).alloc _), hT5.fr.tr0 ((Fr.refl _ _).alloc _)⟩ (h2.fr ((Fr.refl [] _).alloc _) (by simp)) h2n (by decide) (by decide) (by decide) (by decide) (Ints.newAt (l := [19, 18, 16]) (Blk.newAt _ _ (arr [19, 18, 16]) 3 (by simp)) (by decide) rfl (Fr.refl _ _)) (Ints.newAt (l := [31]) (h5.fr ((Fr.refl [] _).alloc _) (by simp)) (by decide) rfl (Fr.refl _ _)) (fun A n c e hm => by cases e; have h9 : w5.heap.size < _ := hT5.is.ltX _ hm; omega) (fun A n c e => by cases e; exact h5n) (by decide) (by decide) (by decide) (by decide)).mono ?_
  rintro r w6 ⟨rfl, hT6, f6⟩
  clear c2
  have h2 := (h2.fr ((Fr.refl [] _).alloc _) (by simp)).fr f6 h2n
  have h5 := (h5.fr ((Fr.refl [] _).alloc _) (by simp)).fr f6 (tbX_L h5n)
  have c2 : w6.cell? ⟨b2, 0, none⟩ = some (.slice (some ⟨g, 0, none⟩) 14 cap) := h2.cell 0 rfl
  clear hT5
  clear f6
  go_wp2_with (go_at_call 142; refine (grid_some _ _).mono ?_; rintro e w' ⟨rfl, rfl⟩)
  refine (lay_new (w := w6) [19, 31] hT6 ((Fr.refl _ _).alloc _) (by decide) (by decide) (by decide) (by decide) (Blk.newAt _ _ _ _ (by simp)) (by simp) (by decide) rfl).mono ?_
  rintro r w7 ⟨rfl, hT7, f7⟩
  clear c2
  have h2 := (h2.fr ((Fr.refl [] _).alloc _) (by simp)).fr f7 h2n
  have h5 := (h5.fr ((Fr.refl [] _).alloc _) (by simp)).fr f7 (tbX_L h5n)
  have c2 : w7.cell? ⟨b2, 0, none⟩ = some (.slice (some ⟨g, 0, none⟩) 14 cap) := h2.cell 0 rfl
  clear hT6
  clear f7
  go_wp2_with (go_at_call 142; refine (grid_some _ _).mono ?_; rintro e w' ⟨rfl, rfl⟩)
  refine (lay_new (w := w7) [19, 24, 31] hT7 ((Fr.refl _ _).alloc _) (by decide) (by decide) (by decide) (by decide) (Blk.newAt _ _ _ _ (by simp)) (by simp) (by decide) rfl).mono ?_
  rintro r w8 ⟨rfl, hT8, f8⟩
  clear c2
  have h2 := (h2.fr ((Fr.refl [] _).alloc _) (by simp)).fr f8 h2n
  have h5 := (h5.fr ((Fr.refl [] _).alloc _) (by simp)).fr f8 (tbX_L h5n)
  have c2 : w8.cell? ⟨b2, 0, none⟩ = some (.slice (some ⟨g, 0, none⟩) 14 cap) := h2.cell 0 rfl
  clear hT7
  clear f8
  go_wp2_with (go_at_call 142; refine (grid_some _ _).mono ?_; rintro e w' ⟨rfl, rfl⟩)
  have hl : Blk (w8.alloc (.cells #[.int .i64 13, .int .i64 16] 3)) w8.heap.size (arr [13, 16]) 3 := Blk.new _ _ _
  have hln : w8.heap.size ∉ tbL bs := fun hm => by have h9 : w8.heap.size < _ := hT8.is.lt _ hm; omega
  go_loopw [37] (fun i wr => ∃ j : Nat, i = .int .i64 j ∧ j ≤ 2 ∧ Tab w0 wr g bs (infosL j (infosA T)) ∧ Fr (tbL bs) (w8.alloc (.cells #[.int .i64 13, .int .i64 16] 3)) wr) (fun i _ => 2 - (intOf i).toNat)
  case atStart => exact ⟨0, rfl, by omega, ⟨hT8.is.fr ((Fr.refl _ _).alloc _), hT8.fr.tr0 ((Fr.refl _ _).alloc _)⟩, Fr.refl _ _⟩
  case round =>
    obtain ⟨j, rfl, hj, hTj, fj⟩ := hrel
    obtain ⟨w9, rfl⟩ : ∃ wo, wo = wr := ⟨_, rfl⟩
    have h2 := ((h2.alloc _).fr fj h2n)
    have h5 := ((h5.alloc _).fr fj (tbX_L h5n))
    have hl := hl.fr fj hln
    clear c2
    have c2 : w9.cell? ⟨b2, 0, none⟩ = some (.slice (some ⟨g, 0, none⟩) 14 cap) := h2.cell 0 rfl
    by_cases e0 : j = 0
    · subst e0
      have hT9 := hTj
      have cl : w9.cell? ⟨w8.heap.size, 0, none⟩ = some (.int .i64 13) := hl.cell 0 rfl
      go_wp2_with (go_at_call 142; refine (grid_some _ _).mono ?_; rintro e w' ⟨rfl, rfl⟩)
      clear cl
      refine (grid_infos1 w0 _ g cap bs _ b2 25 26 9 13 (-1) ⟨some ⟨w9.heap.size, 0, none⟩, 1, 1⟩ ⟨some ⟨b5, 0, none⟩, 1, 1⟩ [19] [31] ⟨hT9.is.fr ((Fr.refl _ _).alloc _), hT9.fr.tr0 ((Fr.refl _ _).alloc _)⟩ (h2.fr ((Fr.refl [] _).alloc _) (by simp)) h2n (by decide) (by decide) (by decide) (by decide) (Ints.newAt (l := [19]) (Blk.newAt _ _ (arr [19]) 3 (by simp)) (by decide) rfl (Fr.refl _ _)) (Ints.newAt (l := [31]) (h5.fr ((Fr.refl [] _).alloc _) (by simp)) (by decide) rfl (Fr.refl _ _)) (fun A n c e hm => by cases e; have h9 : w9.heap.size < _ := hT9.is.ltX _ hm; omega) (fun A n c e => by cases e; exact h5n) (by decide) (by decide) (by decide) (by decide)).mono ?_
      rintro r w10 ⟨rfl, hT10, f10⟩
      clear c2
      have h2 := (h2.fr ((Fr.refl [] _).alloc _) (by simp)).fr f10 h2n
      have h5 := (h5.fr ((Fr.refl [] _).alloc _) (by simp)).fr f10 (tbX_L h5n)
      have c2 : w10.cell? ⟨b2, 0, none⟩ = some (.slice (some ⟨g, 0, none⟩) 14 cap) := h2.cell 0 rfl
      have fj := (fj.tr0 ((Fr.refl _ _).alloc _)).tr f10
      clear f10
      go_wp2_with (go_at_call 142; refine (grid_some _ _).mono ?_; rintro e w' ⟨rfl, rfl⟩)
      refine (grid_infos1 w0 _ g cap bs _ b2 25 26 12 13 (-1) ⟨some ⟨w10.heap.size, 0, none⟩, 1, 1⟩ Sl.nil [19] [] ⟨hT10.is.fr ((Fr.refl _ _).alloc _), hT10.fr.tr0 ((Fr.refl _ _).alloc _)⟩ (h2.fr ((Fr.refl [] _).alloc _) (by simp)) h2n (by decide) (by decide) (by decide) (by decide) (Ints.newAt (l := [19]) (Blk.newAt _ _ (arr [19]) 3 (by simp)) (by decide) rfl (Fr.refl _ _)) (Ints.nil _ _) (fun A n c e hm => by cases e; have h9 : w10.heap.size < _ := hT10.is.ltX _ hm; omega) (fun A n c e => by cases e) (by decide) (by decide) (by decide) (by decide)).mono ?_
      rintro r w11 ⟨rfl, hT11, f11⟩
      clear c2
      have h2 := (h2.fr ((Fr.refl [] _).alloc _) (by simp)).fr f11 h2n
      have h5 := (h5.fr ((Fr.refl [] _).alloc _) (by simp)).fr f11 (tbX_L h5n)
      have c2 : w11.cell? ⟨b2, 0, none⟩ = some (.slice (some ⟨g, 0, none⟩) 14 cap) := h2.cell 0 rfl
      have fj := (fj.tr0 ((Fr.refl _ _).alloc _)).tr f11
      clear f11
      go_wp2
      go_roundw
      case rel => exact ⟨1, by simp, by omega, hT11, fj⟩
      case measure => simp [intOf]
    by_cases e1 : j = 1
    · subst e1
      have hT9 := hTj
      have cl : w9.cell? ⟨w8.heap.size, 1, none⟩ = some (.int .i64 16) := hl.cell 1 rfl
      go_wp2_with (go_at_call 142; refine (grid_some _ _).mono ?_; rintro e w' ⟨rfl, rfl⟩)
      clear cl
      refine (grid_infos1 w0 _ g cap bs _ b2 25 26 9 16 (-1) ⟨some ⟨w9.heap.size, 0, none⟩, 1, 1⟩ ⟨some ⟨b5, 0, none⟩, 1, 1⟩ [19] [31] ⟨hT9.is.fr ((Fr.refl _ _).alloc _), hT9.fr.tr0 ((Fr.refl _ _).alloc _)⟩ (h2.fr ((Fr.refl [] _).alloc _) (by simp)) h2n (by decide) (by decide) (by decide) (by decide) (Ints.newAt (l := [19]) (Blk.newAt _ _ (arr [19]) 3 (by simp)) (by decide) rfl (Fr.refl _ _)) (Ints.newAt (l := [31]) (h5.fr ((Fr.refl [] _).alloc _) (by simp)) (by decide) rfl (Fr.refl _ _)) (fun A n c e hm => by cases e; have h9 : w9.heap.size < _ := hT9.is.ltX _ hm; omega) (fun A n c e => by cases e; exact h5n) (by decide) (by decide) (by decide) (by decide)).mono ?_
      rintro r w10 ⟨rfl, hT10, f10⟩
      clear c2
      have h2 := (h2.fr ((Fr.refl [] _).alloc _) (by simp)).fr f10 h2n
      have h5 := (h5.fr ((Fr.refl [] _).alloc _) (by simp)).fr f10 (tbX_L h5n)
      have c2 : w10.cell? ⟨b2, 0, none⟩ = some (.slice (some ⟨g, 0, none⟩) 14 cap) := h2.cell 0 rfl
      have fj := (fj.tr0 ((Fr.refl _ _).alloc _)).tr f10
      clear f10
      go_wp2_with (go_at_call 142; refine (grid_some _ _).mono ?_; rintro e w' ⟨rfl, rfl⟩)
      refine (grid_infos1 w0 _ g cap bs _ b2 25 26 12 16 (-1) ⟨some ⟨w10.heap.size, 0, none⟩, 1, 1⟩ Sl.nil [19] [] ⟨hT10.is.fr ((Fr.refl _ _).alloc _), hT10.fr.tr0 ((Fr.refl _ _).alloc _)⟩ (h2.fr ((Fr.refl [] _).alloc _) (by simp)) h2n (by decide) (by decide) (by decide) (by decide) (Ints.newAt (l := [19]) (Blk.newAt _ _ (arr [19]) 3 (by simp)) (by decide) rfl (Fr.refl _ _)) (Ints.nil _ _) (fun A n c e hm => by cases e; have h9 : w10.heap.size < _ := hT10.is.ltX _ hm; omega) (fun A n c e => by cases e) (by decide) (by decide) (by decide) (by decide)).mono ?_
      rintro r w11 ⟨rfl, hT11, f11⟩
      clear c2
      have h2 := (h2.fr ((Fr.refl [] _).alloc _) (by simp)).fr f11 h2n
      have h5 := (h5.fr ((Fr.refl [] _).alloc _) (by simp)).fr f11 (tbX_L h5n)
      have c2 : w11.cell? ⟨b2, 0, none⟩ = some (.slice (some ⟨g, 0, none⟩) 14 cap) := h2.cell 0 rfl
      have fj := (fj.tr0 ((Fr.refl _ _).alloc _)).tr f11
      clear f11
      go_wp2
      go_roundw
      case rel => exact ⟨2, by simp, by omega, hT11, fj⟩
      case measure => simp [intOf]
    obtain rfl : j = 2 := by omega
    have hT10 : Tab w0 w9 g bs (infosL 2 (infosA T)) := hTj
    obtain ⟨w10, rfl⟩ : ∃ wo, wo = w9 := ⟨_, rfl⟩
    clear hTj fj e0 e1 hj
    go_wp2_with (go_at_call 142; refine (grid_some _ _).mono ?_; rintro e w' ⟨rfl, rfl⟩)
    refine (grid_infos1 w0 _ g cap bs _ b2 23 24 11 13 (-1) ⟨some ⟨w10.heap.size, 0, none⟩, 2, 2⟩ Sl.nil [19, 18] [] ⟨hT10.is.fr ((Fr.refl _ _).alloc _), hT10.fr.tr0 ((Fr.refl _ _).alloc _)⟩ (h2.fr ((Fr.refl [] _).alloc _) (by simp)) h2n (by decide) (by decide) (by decide) (by decide) (Ints.newAt (l := [19, 18]) (Blk.newAt _ _ (arr [19, 18]) 3 (by simp)) (by decide) rfl (Fr.refl _ _)) (Ints.nil _ _) (fun A n c e hm => by cases e; have h9 : w10.heap.size < _ := hT10.is.ltX _ hm; omega) (fun A n c e => by cases e) (by decide) (by decide) (by decide) (by decide)).mono ?_
    rintro r w11 ⟨rfl, hT11, f11⟩
    clear c2
    have h2 := (h2.fr ((Fr.refl [] _).alloc _) (by simp)).fr f11 h2n
    have h5 := (h5.fr ((Fr.refl [] _).alloc _) (by simp)).fr f11 (tbX_L h5n)
    have c2 : w11.cell? ⟨b2, 0, none⟩ = some (.slice (some ⟨g, 0, none⟩) 14 cap) := h2.cell 0 rfl
    clear hT10
    clear f11
    go_wp2_with (go_at_call 142; refine (grid_some _ _).mono ?_; rintro e w' ⟨rfl, rfl⟩)
    refine (grid_infos1 w0 _ g cap bs _ b2 27 28 11 16 (13) ⟨some ⟨w11.heap.size, 0, none⟩, 1, 1⟩ ⟨some ⟨w11.heap.size + 1, 0, none⟩, 1, 1⟩ [19] [15] ⟨hT11.is.fr (((Fr.refl _ _).alloc _).alloc _), hT11.fr.tr0 (((Fr.refl _ _).alloc _).alloc _)⟩ (h2.fr (((Fr.refl [] _).alloc _).alloc _) (by simp)) h2n (by decide) (by decide) (by decide) (by decide) (Ints.newAt (l := [19]) ((Blk.newAt _ _ (arr [19]) 3 (by simp)).alloc _) (by decide) rfl (Fr.refl _ _)) (Ints.newAt (l := [15]) (Blk.newAt _ _ (arr [15]) 3 (by simp)) (by decide) rfl (Fr.refl _ _)) (fun A n c e hm => by cases e; have h9 : w11.heap.size < _ := hT11.is.ltX _ hm; omega) (fun A n c e hm => by cases e; have h9 : w11.heap.size + 1 < _ := hT11.is.ltX _ hm; omega) (by decide) (by decide) (by decide) (by decide)).mono ?_
    rintro r w12 ⟨rfl, hT12, f12⟩
    clear c2
    have h2 := (h2.fr (((Fr.refl [] _).alloc _).alloc _) (by simp)).fr f12 h2n
    have h5 := (h5.fr (((Fr.refl [] _).alloc _).alloc _) (by simp)).fr f12 (tbX_L h5n)
    have c2 : w12.cell? ⟨b2, 0, none⟩ = some (.slice (some ⟨g, 0, none⟩) 14 cap) := h2.cell 0 rfl
    clear hT11
    clear f12
    go_wp2_with (go_at_call 142; refine (grid_some _ _).mono ?_; rintro e w' ⟨rfl, rfl⟩)
    refine (grid_infos1 w0 _ g cap bs _ b2 23 24 13 13 (11) ⟨some ⟨w12.heap.size, 0, none⟩, 3, 3⟩ Sl.nil [19, 18, 16] [] ⟨hT12.is.fr ((Fr.refl _ _).alloc _), hT12.fr.tr0 ((Fr.refl _ _).alloc _)⟩ (h2.fr ((Fr.refl [] _).alloc _) (by simp)) h2n (by decide) (by decide) (by decide) (by decide) (Ints.newAt (l := [19, 18, 16]) (Blk.newAt _ _ (arr [19, 18, 16]) 3 (by simp)) (by decide) rfl (Fr.refl _ _)) (Ints.nil _ _) (fun A n c e hm => by cases e; have h9 : w12.heap.size < _ := hT12.is.ltX _ hm; omega) (fun A n c e => by cases e) (by decide) (by decide) (by decide) (by decide)).mono ?_
    rintro r w13 ⟨rfl, hT13, f13⟩
    clear c2
    have h2 := (h2.fr ((Fr.refl [] _).alloc _) (by simp)).fr f13 h2n
    have h5 := (h5.fr ((Fr.refl [] _).alloc _) (by simp)).fr f13 (tbX_L h5n)
    have c2 : w13.cell? ⟨b2, 0, none⟩ = some (.slice (some ⟨g, 0, none⟩) 14 cap) := h2.cell 0 rfl
    clear hT12
    clear f13
    go_wp2_with (go_at_call 142; refine (grid_some _ _).mono ?_; rintro e w' ⟨rfl, rfl⟩)
    refine (lay_new (w := w13) [19] hT13 ((Fr.refl _ _).alloc _) (by decide) (by decide) (by decide) (by decide) (Blk.newAt _ _ _ _ (by simp)) (by simp) (by decide) rfl).mono ?_
    rintro r w14 ⟨rfl, hT14, f14⟩
    clear c2
    have h2 := (h2.fr ((Fr.refl [] _).alloc _) (by simp)).fr f14 h2n
    have h5 := (h5.fr ((Fr.refl [] _).alloc _) (by simp)).fr f14 (tbX_L h5n)
    have c2 : w14.cell? ⟨b2, 0, none⟩ = some (.slice (some ⟨g, 0, none⟩) 14 cap) := h2.cell 0 rfl
    clear hT13
    clear f14
    go_wp2_with (go_at_call 142; refine (grid_some _ _).mono ?_; rintro e w' ⟨rfl, rfl⟩)
    refine (lay_new (w := w14) [19, 24] hT14 ((Fr.refl _ _).alloc _) (by decide) (by decide) (by decide) (by decide) (Blk.newAt _ _ _ _ (by simp)) (by simp) (by decide) rfl).mono ?_
    rintro r w15 ⟨rfl, hT15, f15⟩
    clear c2
    have h2 := (h2.fr ((Fr.refl [] _).alloc _) (by simp)).fr f15 h2n
    have h5 := (h5.fr ((Fr.refl [] _).alloc _) (by simp)).fr f15 (tbX_L h5n)
    have c2 : w15.cell? ⟨b2, 0, none⟩ = some (.slice (some ⟨g, 0, none⟩) 14 cap) := h2.cell 0 rfl
    clear hT14
    clear f15
    go_wp2_with (go_at_call 142; refine (grid_some _ _).mono ?_; rintro e w' ⟨rfl, rfl⟩)
    refine (lay_new (w := w15) [20, 19, 18, 22, 33, 23, 31] hT15 ((Fr.refl _ _).alloc _) (by decide) (by decide) (by decide) (by decide) (Blk.newAt _ _ _ _ (by simp)) (by simp) (by decide) rfl).mono ?_
    rintro r w16 ⟨rfl, hT16, f16⟩
    clear c2
    have h2 := (h2.fr ((Fr.refl [] _).alloc _) (by simp)).fr f16 h2n
    have h5 := (h5.fr ((Fr.refl [] _).alloc _) (by simp)).fr f16 (tbX_L h5n)
    have c2 : w16.cell? ⟨b2, 0, none⟩ = some (.slice (some ⟨g, 0, none⟩) 14 cap) := h2.cell 0 rfl
    clear hT15
    clear f16
    go_wp2_with (go_at_call 142; refine (grid_some _ _).mono ?_; rintro e w' ⟨rfl, rfl⟩)
    refine (lay_new (w := w16) [20, 19, 22, 33, 27, 15, 31] hT16 ((Fr.refl _ _).alloc _) (by decide) (by decide) (by decide) (by decide) (Blk.newAt _ _ _ _ (by simp)) (by simp) (by decide) rfl).mono ?_
    rintro r w17 ⟨rfl, hT17, f17⟩
    clear c2
    have h2 := (h2.fr ((Fr.refl [] _).alloc _) (by simp)).fr f17 h2n
    have h5 := (h5.fr ((Fr.refl [] _).alloc _) (by simp)).fr f17 (tbX_L h5n)
    have c2 : w17.cell? ⟨b2, 0, none⟩ = some (.slice (some ⟨g, 0, none⟩) 14 cap) := h2.cell 0 rfl
    clear hT16
    clear f17
    go_wp2_with (go_at_call 142; refine (grid_some _ _).mono ?_; rintro e w' ⟨rfl, rfl⟩)
    refine (lay_new (w := w17) [20, 19, 18, 16, 22, 33, 23, 31] hT17 ((Fr.refl _ _).alloc _) (by decide) (by decide) (by decide) (by decide) (Blk.newAt _ _ _ _ (by simp)) (by simp) (by decide) rfl).mono ?_
    rintro r w18 ⟨rfl, hT18, f18⟩
    clear c2
    have h2 := (h2.fr ((Fr.refl [] _).alloc _) (by simp)).fr f18 h2n
    have h5 := (h5.fr ((Fr.refl [] _).alloc _) (by simp)).fr f18 (tbX_L h5n)
    have c2 : w18.cell? ⟨b2, 0, none⟩ = some (.slice (some ⟨g, 0, none⟩) 14 cap) := h2.cell 0 rfl
    clear hT17
    clear f18
    go_wp2_with (go_at_call 142; refine (grid_some _ _).mono ?_; rintro e w' ⟨rfl, rfl⟩)
    refine (lay_new (w := w18) [20, 19, 22, 33, 31] hT18 ((Fr.refl _ _).alloc _) (by decide) (by decide) (by decide) (by decide) (Blk.newAt _ _ _ _ (by simp)) (by simp) (by decide) rfl).mono ?_
    rintro r w19 ⟨rfl, hT19, f19⟩
    clear c2
    have h2 := (h2.fr ((Fr.refl [] _).alloc _) (by simp)).fr f19 h2n
    have h5 := (h5.fr ((Fr.refl [] _).alloc _) (by simp)).fr f19 (tbX_L h5n)
    have c2 : w19.cell? ⟨b2, 0, none⟩ = some (.slice (some ⟨g, 0, none⟩) 14 cap) := h2.cell 0 rfl
    clear hT18
    clear f19
    go_wp2
    have hT := hT19
    have k2 : ∀ wx, Fr [] w19 wx → wx.cell? ⟨b2, 0, none⟩ = some (.slice (some ⟨g, 0, none⟩) 14 cap) := fun wx hf => hf.cell (h2.cell 0 rfl) (by simp)
    refine wp_region_keepsL [] [Is (.slice (some ⟨g, 0, none⟩) 14 cap), IsSl (tbL bs) (arr [12]) 3 1, IsSl (tbL bs) (arr [12]) 3 1, IsSl (tbL bs) (arr [15, 18]) 3 2, IsSl (tbL bs) (arr [15, 18]) 3 2, IsSl (tbX bs) (arr [20, 19, 22, 33, 25, 31]) 3 6] 6 rfl rfl (by kernel_rfl) (by kernel_rfl) (by kernel_rfl) (by kernel_rfl) (by kernel_rfl) ?hV ?hS ?hD
    case hV =>
      repeat (first | exact trivial | exact Is.keeps _ | exact Any.keeps | exact IsSl.keeps _ _ _ | exact keepsT0 _ _ _ _ | refine And.intro ?_ ?_)
    case hS =>
      (repeat' (first | exact trivial | refine And.intro ?_ ?_))
      · intro ac wx hf hs hp K hK
        simp only [zA, Region.binds, Nat.reduceAdd] at hp
        have hs1 := hs 1 (by kernel_rfl)
        simp only [Array.getD_eq_getD_getElem?, List.getElem?_toArray, List.getElem?_cons_succ, List.getElem?_cons_zero, Option.getD_some] at hs1
        clear hs
        have cx := k2 wx hf
        clear hf
        (try simp only [hp])
        go_simp
        try dsimp only
        refine hK.out _ _ ?_ ?_
        · (repeat (first | with_reducible (first | exact Fr.refl _ _ | assumption | refine Fr.drew ?_ | refine Fr.drewN ?_ _ | refine Fr.alloc ?_ _ | refine Fr.setL ?_ _ _ _ ?_) | (left; simp; done) | (right; first | (simp; done) | (simp; omega) | omega)); done)
        · simp only [nth]
          first | (unfold Is; rfl) | (unfold Any; exact trivial) | exact IsSl.new _ _ _ _ | assumption
      · intro ac wx hf hs hp K hK
        simp only [zA, Region.binds, Nat.reduceAdd] at hp
        clear hs
        go_simp
        refine hK.out _ _ ((Fr.refl _ _).alloc _) ?_
        exact ⟨_, rfl, Blk.new _ (arr [12]) _, fun hm => by have h9 : wx.heap.size < _ := hT.is.lt _ hm; have := hf.size; omega⟩
      · intro ac wx hf hs hp K hK
        simp only [zA, Region.binds, Nat.reduceAdd] at hp
        clear hs
        obtain ⟨b9, e9, hx9⟩ := hp
        go_simp
        go_at_call 142
        refine (grid_some _ _).mono ?_
        rintro e w' ⟨rfl, rfl⟩
        exact hK.out _ _ (Fr.refl _ _) ⟨b9, rfl, hx9⟩
      · intro ac wx hf hs hp K hK
        simp only [zA, Region.binds, Nat.reduceAdd] at hp
        clear hs
        go_simp
        refine hK.out _ _ ((Fr.refl _ _).alloc _) ?_
        exact ⟨_, rfl, Blk.new _ (arr [15, 18]) _, fun hm => by have h9 : wx.heap.size < _ := hT.is.lt _ hm; have := hf.size; omega⟩
      · intro ac wx hf hs hp K hK
        simp only [zA, Region.binds, Nat.reduceAdd] at hp
        clear hs
        obtain ⟨⟨b9, e9, hx9⟩, -⟩ := hp
        go_simp
        go_at_call 142
        refine (grid_some _ _).mono ?_
        rintro e w' ⟨rfl, rfl⟩
        exact hK.out _ _ (Fr.refl _ _) ⟨b9, rfl, hx9⟩
      · intro ac wx hf hs hp K hK
        simp only [zA, Region.binds, Nat.reduceAdd] at hp
        clear hs
        go_simp
        refine hK.out _ _ ((Fr.refl _ _).alloc _) ?_
        exact ⟨_, rfl, Blk.new _ (arr [20, 19, 22, 33, 25, 31]) _, fun hm => by have h9 : wx.heap.size < _ := hT.is.ltX _ hm; have := hf.size; omega⟩
    case hD =>
      intro x wx hf hp
      simp only [fill, List.setIfInBounds_toArray, List.set_cons_zero, List.set_cons_succ, Nat.reduceAdd, Act.put]
      simp only [List.length_cons, List.length_nil, Nat.reduceAdd, List.range_eq_range', List.range'_succ, List.range'_zero, Nat.zero_add, Nat.add_zero, holds, nth, Is, Any, true_and, and_true] at hp
      obtain ⟨x0, -, ⟨bi, x2, hbi, hbin⟩, -, ⟨be, x4, hbe, hben⟩, ⟨bd, x5, hbd, hbdn⟩⟩ := hp
      simp only [x0, x2, x4, x5]
      clear x0 x2 x4 x5 k2
      go_simp
      go_at_call 141
      refine (grid_each wx g cap bs _ bi 1 be 2 [12] [15, 18] (9) [20, 19, 22, 33, 25, 31] (some ⟨bd, 0, none⟩) 6 6 (hT.is.fr hf) (RowI.newAt hbi (Fr.refl _ _)) hbin (okS.of (by decide)).2 (RowI.newAt hbe (Fr.refl _ _)) hben (okE.of (by decide)).2 (by decide) (by decide) (by decide) (Ints.newAt hbd (by decide) rfl (Fr.refl _ _)) (fun B n c e => by cases e; exact hbdn)).mono ?_
      rintro r wz ⟨rfl, hTz, fz⟩
      go_wp2
      go_end0
      exact ⟨rfl, hT.step hf hTz fz⟩
end Go.Proofs.YtneggoonlmmjeaaGreat
namespace Go.Proofs.YtneggoonlmmjeaaGreat
open Go.RowKit Go.Shelf
set_option linter.unusedVariables false
set_option linter.unusedSimpArgs false
set_option maxRecDepth 100000

def pairsC : Array Value := #[.int .i64 8, .int .i64 11, .int .i64 23, .int .i64 24, .int .i64 29, .int .i64 9, .int .i64 12, .int .i64 25, .int .i64 26, .int .i64 30, .int .i64 10, .int .i64 13, .int .i64 23, .int .i64 24, .int .i64 29]
theorem grid_pairs (w : World) :
    Calls Tryz.prog 88 #[] w fun r w' => ∃ b, r = .returned (.slice (some ⟨b, 0, none⟩) 3 3) ∧ Blk w' b pairsC 145 ∧ w.heap.size ≤ b ∧ Fr [] w w' := by
  go_enter Tryz.func88, Tryz.ntmps88
  go_wp2
  go_ret
  exact ⟨_, rfl, Blk.new _ _ _, Nat.le_refl _, (Fr.refl _ _).alloc _⟩

def rowsL (j : Nat) (T : Tb) : Tb := match j with
  | 0 => T
  | 1 => answersM 8 11 23 24 29 T
  | 2 => answersM 9 12 25 26 30 (answersM 8 11 23 24 29 T)
  | _ => answersM 10 13 23 24 29 (answersM 9 12 25 26 30 (answersM 8 11 23 24 29 T))
def rowsM : Tb := infosM (rowsL 3 (busyM (sharedM (setupM blankM))))

/-- A table that is laid: rows that nothing but itself holds. -/
def IsRows (w : World) (v : Value) : Prop := ∃ g cap bs, v = .slice (some ⟨g, 0, none⟩) 14 cap ∧ IsT w g bs rowsM

set_option maxHeartbeats 2000000 in
set_option maxRecDepth 100000 in
theorem grid_Rows (w : World) :
    Calls Tryz.prog 42 #[] w fun r w' => ∃ g cap bs, r = .returned (.slice (some ⟨g, 0, none⟩) 14 cap) ∧ IsT w' g bs rowsM ∧ w.heap.size ≤ g ∧ (∀ s, s < 14 → w.heap.size ≤ bs s) ∧ bs 14 = w.heap.size ∧ Fr [] w w' := by
  go_enter Tryz.func42, Tryz.ntmps42
  go_wp2_with fail
  refine (grid_blank _).mono ?_
  rintro e w1 ⟨g, cap, bs, rfl, hI, hg, hbs, h14, f1⟩
  have h1 : Tab w1 w1 g bs blankM := ⟨hI, Fr.refl _ _⟩
  clear hI
  go_wp2_with fail
  refine (grid_setup _ _ g cap bs _ h1).mono ?_
  rintro e w2 ⟨rfl, h2⟩
  clear h1
  go_wp2_with fail
  refine (grid_shared _ _ g cap bs _ h2).mono ?_
  rintro e w3 ⟨rfl, h3⟩
  clear h2
  go_wp2_with fail
  refine (grid_busy _ _ g cap bs _ h3).mono ?_
  rintro e w4 ⟨rfl, h4⟩
  clear h3
  go_wp2_with fail
  refine (grid_pairs _).mono ?_
  rintro e w5 ⟨b, rfl, hb, hbn, f5⟩
  have hbt : b ∉ tbL bs := fun hm => by have := h4.is.lt _ hm; omega
  have h5 : Tab w1 w5 g bs (busyM (sharedM (setupM blankM))) := ⟨h4.is.fr f5, h4.fr.tr0 f5⟩
  clear h4 f5
  go_wp2
  go_loopw [13] (fun i wr => ∃ j : Nat, i = .int .i64 j ∧ j ≤ 3 ∧ Tab w1 wr g bs (rowsL j (busyM (sharedM (setupM blankM)))) ∧ Blk wr b pairsC 145) (fun i _ => 3 - (intOf i).toNat)
  case atStart => exact ⟨0, rfl, by omega, h5, hb⟩
  case round =>
    obtain ⟨j, rfl, hj, hT, hB⟩ := hrel
    by_cases e0 : j = 0
    · subst e0
      have c0 : wr.cell? ⟨b, 0, none⟩ = some (.int .i64 8) := hB.cell 0 rfl
      have c1 : wr.cell? ⟨b, 1, none⟩ = some (.int .i64 11) := hB.cell 1 rfl
      have c2 : wr.cell? ⟨b, 2, none⟩ = some (.int .i64 23) := hB.cell 2 rfl
      have c3 : wr.cell? ⟨b, 3, none⟩ = some (.int .i64 24) := hB.cell 3 rfl
      have c4 : wr.cell? ⟨b, 4, none⟩ = some (.int .i64 29) := hB.cell 4 rfl
      obtain ⟨wo, rfl⟩ : ∃ wo, wo = wr := ⟨_, rfl⟩
      go_wp2_with fail
      have hB' : Blk (wo.alloc (.cells #[.int .i64 8, .int .i64 11, .int .i64 23, .int .i64 24, .int .i64 29] 145)) b pairsC 145 := hB.alloc _
      refine (grid_answers _ _ g cap bs _ 8 11 23 24 29 ⟨hT.is.fr ((Fr.refl _ _).alloc _), Fr.refl _ _⟩ (by decide) (by decide) (by decide) (by decide) (by decide) (by decide)).mono ?_
      rintro e w6 ⟨rfl, h6'⟩
      have h6 : Tab w1 w6 g bs _ := ⟨h6'.is, (hT.fr.alloc _).tr h6'.fr⟩
      have hB6 := hB'.fr h6'.fr hbt
      clear c0 c1 c2 c3 c4
      go_wp2
      go_roundw
      case rel => exact ⟨1, by simp, by omega, h6, hB6⟩
      case measure => simp [intOf]
    by_cases e1 : j = 1
    · subst e1
      have c0 : wr.cell? ⟨b, 5, none⟩ = some (.int .i64 9) := hB.cell 5 rfl
      have c1 : wr.cell? ⟨b, 6, none⟩ = some (.int .i64 12) := hB.cell 6 rfl
      have c2 : wr.cell? ⟨b, 7, none⟩ = some (.int .i64 25) := hB.cell 7 rfl
      have c3 : wr.cell? ⟨b, 8, none⟩ = some (.int .i64 26) := hB.cell 8 rfl
      have c4 : wr.cell? ⟨b, 9, none⟩ = some (.int .i64 30) := hB.cell 9 rfl
      obtain ⟨wo, rfl⟩ : ∃ wo, wo = wr := ⟨_, rfl⟩
      go_wp2_with fail
      have hB' : Blk (wo.alloc (.cells #[.int .i64 9, .int .i64 12, .int .i64 25, .int .i64 26, .int .i64 30] 145)) b pairsC 145 := hB.alloc _
      refine (grid_answers _ _ g cap bs _ 9 12 25 26 30 ⟨hT.is.fr ((Fr.refl _ _).alloc _), Fr.refl _ _⟩ (by decide) (by decide) (by decide) (by decide) (by decide) (by decide)).mono ?_
      rintro e w6 ⟨rfl, h6'⟩
      have h6 : Tab w1 w6 g bs _ := ⟨h6'.is, (hT.fr.alloc _).tr h6'.fr⟩
      have hB6 := hB'.fr h6'.fr hbt
      clear c0 c1 c2 c3 c4
      go_wp2
      go_roundw
      case rel => exact ⟨2, by simp, by omega, h6, hB6⟩
      case measure => simp [intOf]
    by_cases e2 : j = 2
    · subst e2
      have c0 : wr.cell? ⟨b, 10, none⟩ = some (.int .i64 10) := hB.cell 10 rfl
      have c1 : wr.cell? ⟨b, 11, none⟩ = some (.int .i64 13) := hB.cell 11 rfl
      have c2 : wr.cell? ⟨b, 12, none⟩ = some (.int .i64 23) := hB.cell 12 rfl
      have c3 : wr.cell? ⟨b, 13, none⟩ = some (.int .i64 24) := hB.cell 13 rfl
      have c4 : wr.cell? ⟨b, 14, none⟩ = some (.int .i64 29) := hB.cell 14 rfl
      obtain ⟨wo, rfl⟩ : ∃ wo, wo = wr := ⟨_, rfl⟩
      go_wp2_with fail
      have hB' : Blk (wo.alloc (.cells #[.int .i64 10, .int .i64 13, .int .i64 23, .int .i64 24, .int .i64 29] 145)) b pairsC 145 := hB.alloc _
      refine (grid_answers _ _ g cap bs _ 10 13 23 24 29 ⟨hT.is.fr ((Fr.refl _ _).alloc _), Fr.refl _ _⟩ (by decide) (by decide) (by decide) (by decide) (by decide) (by decide)).mono ?_
      rintro e w6 ⟨rfl, h6'⟩
      have h6 : Tab w1 w6 g bs _ := ⟨h6'.is, (hT.fr.alloc _).tr h6'.fr⟩
      have hB6 := hB'.fr h6'.fr hbt
      clear c0 c1 c2 c3 c4
      go_wp2
      go_roundw
      case rel => exact ⟨3, by simp, by omega, h6, hB6⟩
      case measure => simp [intOf]
    obtain rfl : j = 3 := by omega
    go_wp2_with fail
    refine (grid_infos w1 _ g cap bs _ hT).mono ?_
    rintro e w6 ⟨rfl, h6⟩
    go_wp2
    go_ret
    exact ⟨g, cap, bs, rfl, h6.is, hg, hbs, h14, f1.trans h6.fr (fun x hx => .inr (by obtain ⟨s, hs, rfl⟩ := tbL_mem.1 hx; exact hbs s hs))⟩
end Go.Proofs.YtneggoonlmmjeaaGreat
