
/- Open and Close with their frames; a deed of both, the reference's SAPs being none. -/
import Derived.Test.YtgmpikaibeenmaaSapsF
import Derived.Test.YtgmpikaibeenmaaSapsR
namespace Go.Proofs.Ytgmpikaibeenmaa
open Go.RowKit Go.Shelf Go.ChangeMaps
set_option linter.unusedVariables false
set_option linter.unusedSimpArgs false
set_option maxRecDepth 100000

/-- .. and its blocks are F', of F or new. -/
def AtG (w0 w w' : World) (p : Nat) (m : List AE) (F : List Nat) : Prop := ∃ F', AtF w0 w' p m F' ∧ ∀ y ∈ F', y ∈ F ∨ w.heap.size ≤ y
theorem AtF.g {w0 w w' : World} {p : Nat} {m : List AE} {F : List Nat} (h : AtF w0 w' p m F) : AtG w0 w w' p m F := ⟨F, h, fun _ hy => .inl hy⟩
theorem AtG.atM {w0 w w' : World} {p : Nat} {m : List AE} {F : List Nat} (h : AtG w0 w w' p m F) : AtM w0 w' p m := by
  obtain ⟨F', h, _⟩ := h; exact h.atM

theorem Open_F (w0 w : World) (p : Nat) (m : List AE) (n c : Int) (F : List Nat) (h : AtF w0 w p m F) :
    Calls Try.prog 10 #[.pointer (some ⟨p, 0, none⟩), .int .i64 n, .int .i64 c] w fun e w' => e = .returned (.int .i64 (openA m n c).1) ∧ AtG w0 w w' p (openA m n c).2 F ∧ Fr F w w' := by
  have h' := h
  obtain ⟨b, k, l, ⟨hS, rfl, hF, hN⟩, hFo⟩ := h
  unfold openA
  by_cases ha : argB n c = false
  · rw [if_pos ha]
    refine (Open_arg w p b k l n c ha).mono ?_
    rintro e w' ⟨rfl, rfl⟩
    exact ⟨rfl, h'.g, Fr.refl _ _⟩
  · rw [if_neg ha, look_a, Option.isSome_map]
    have ha' : argB n c = true := by simpa using ha
    by_cases hc : 0 < clsOf l n
    · rw [if_pos ((clsOf_pos hS).1 hc)]
      refine (Open_there w p b k l n c hS ha' hc).mono ?_
      rintro e w' ⟨rfl, rfl⟩
      exact ⟨rfl, h'.g, Fr.refl _ _⟩
    · have hln : look l n = none := by
        have := mt (clsOf_pos hS).2 hc
        simpa using this
      have hc0 : clsOf l n = 0 := by unfold clsOf; rw [hln]
      rw [if_neg (fun h => hc ((clsOf_pos hS).2 h)), List.length_map]
      by_cases hf : 16 ≤ l.length
      · rw [if_pos hf]
        refine (Open_full w p b k l n c hS ha' hc0 hf).mono ?_
        rintro e w' ⟨rfl, rfl⟩
        exact ⟨rfl, h'.g, Fr.refl _ _⟩
      · rw [if_neg hf]
        refine (Open_ok w p b k l n c hS ha' hc0 (by omega)).mono ?_
        rintro e w' ⟨rfl, hS', f⟩
        have key : ∀ y ∈ foot p b (l ++ [⟨n, c, w.heap.size, [], k⟩]), y ∈ foot p b l ∨ w.heap.size ≤ y := by
          intro y hy
          simp only [foot, List.map_append, List.map_cons, List.map_nil, List.mem_cons, List.mem_append, List.not_mem_nil, or_false] at hy
          rcases hy with hy | hy | hy | hy
          · exact .inl (by simp [foot, hy])
          · exact .inl (by simp [foot, hy])
          · exact .inl (by simp only [foot, List.mem_cons]; exact .inr (.inr hy))
          · exact .inr (by omega)
        subst hFo
        refine ⟨rfl, ⟨_, ⟨b, k + 1, _, ⟨hS', by simp [SE.a], hF.trans f (fun y hy => .inr (hN y hy)), fun y hy => ?_⟩, rfl⟩, key⟩, f⟩
        rcases key y hy with hy | hy
        · exact hN y hy
        · have := hF.size; omega

theorem Close_F (w0 w : World) (p : Nat) (m : List AE) (n : Int) (F : List Nat) (h : AtF w0 w p m F) :
    Calls Try.prog 50 #[.pointer (some ⟨p, 0, none⟩), .int .i64 n] w fun e w' => e = .returned (.int .i64 (closeA m n).1) ∧ AtG w0 w w' p (closeA m n).2 F ∧ Fr F w w' := by
  have h' := h
  obtain ⟨b, k, l, ⟨hS, rfl, hF, hN⟩, hFo⟩ := h
  unfold closeA
  rw [look_a, Option.isSome_map]
  by_cases hc : 0 < clsOf l n
  · rw [if_pos ((clsOf_pos hS).1 hc)]
    refine (Close_ok w p b k l n hS hc).mono ?_
    rintro e w' ⟨rfl, hS', f⟩
    subst hFo
    have key : ∀ y ∈ foot p b (l.filter (·.k != n)), y ∈ foot p b l := fun y hy => by
      simp only [foot, List.mem_cons] at hy ⊢
      exact hy.imp id (Or.imp id (fun h => (List.filter_sublist.map _).subset h))
    exact ⟨rfl, ⟨_, ⟨b, k, _, ⟨hS', by rw [List.filter_map]; rfl, hF.trans f (fun y hy => .inr (hN y hy)), fun y hy => hN y (key y hy)⟩, rfl⟩, fun y hy => .inl (key y hy)⟩, f⟩
  · have hln : look l n = none := by
      have := mt (clsOf_pos hS).2 hc
      simpa using this
    rw [if_neg (fun h => hc ((clsOf_pos hS).2 h))]
    refine (Close_none w p b k l n hS (by unfold clsOf; rw [hln])).mono ?_
    rintro e w' ⟨rfl, rfl⟩
    exact ⟨rfl, h'.g, Fr.refl _ _⟩

/-- A deed. -/
def stepA (m : List AE) (D n c : Int) : Int × List AE := if D ≤ 2 then openA m n c else if D = 3 then closeA m n else if D ≤ 5 then joinA m n c else leaveA m n c

theorem Emp.fr {w w' : World} {L : List Nat} {q : Nat} (h : Emp w q) (f : Fr L w w') (hq : q ∉ L) : Emp w' q :=
  ⟨f.cell h.1 hq, by rw [World.frozen?_of_block (w := w) (f.block q (World.block_lt_of_cell? _ _ h.1) hq)]; exact h.2⟩
theorem AtM.frq {w0 w w' : World} {p q : Nat} {m : List AE} (h : AtM w0 w p m) (f : Fr [q] w w') (hb : w0.heap.size ≤ q) (hn : ∃ cs t f, w.heap[q]? = some (.cells cs t f)) (hp : q ≠ p) : AtM w0 w' p m := by
  have ⟨F, hF⟩ := h.atF
  have hq := hF.notin hn hp
  obtain ⟨b, c, l, ⟨h1, h2, h3, h4⟩, rfl⟩ := hF
  exact ⟨b, c, l, h1.fr f (fun x hx hm => hq (by simp at hm; subst hm; exact hx)), h2, h3.trans f (fun y hy => by simp at hy; subst hy; exact .inr hb), h4⟩

set_option maxHeartbeats 1000000 in
theorem Do0 (w0 w : World) (p q : Nat) (m : List AE) (D n c : Int) (h : AtM w0 w p m) (hE : Emp w q) (hn : ∃ cs t f, w.heap[q]? = some (.cells cs t f)) (hp : q ≠ p) (hb : w0.heap.size ≤ q) :
    Calls Try.prog 38 #[.pointer (some ⟨p, 0, none⟩), .pointer (some ⟨q, 0, none⟩), .agg #[.int .i64 D, .int .i64 n, .int .i64 c]] w fun e w' => (∃ r, e = .returned (.bool r)) ∧ AtM w0 w' p (stepA m D n c).2 := by
  have f0 : Fr [] w (w.alloc (.cells #[.int .i64 D, .int .i64 n, .int .i64 c] 87)) := (Fr.refl _ _).alloc _
  have hB := Blk.new w #[.int .i64 D, .int .i64 n, .int .i64 c] 87
  have h1 := h.on f0
  have hE1 := hE.fr f0 (by simp)
  have hn1 : ∃ cs t f, (w.alloc (.cells #[.int .i64 D, .int .i64 n, .int .i64 c] 87)).heap[q]? = some (.cells cs t f) := by
    obtain ⟨cs, t, f, e⟩ := hn
    exact ⟨cs, t, f, f0.keeps e (by simp)⟩
  have b0 := hB.cell 0 (v := .int .i64 D) rfl
  have b1 := hB.cell 1 (v := .int .i64 n) rfl
  have b2 := hB.cell 2 (v := .int .i64 c) rfl
  have hdp : w.heap.size ≠ p := by
    obtain ⟨b, c, l, h⟩ := h
    have := h.is.blk.lt; omega
  have hdn : ∃ cs t f, (w.alloc (.cells #[.int .i64 D, .int .i64 n, .int .i64 c] 87)).heap[w.heap.size]? = some (.cells cs t f) := ⟨_, _, _, hB⟩
  clear h hE hn hB f0
  obtain ⟨F, hF⟩ := h1.atF
  have hqF := hF.notin hn1 hp
  have hdF := hF.notin hdn hdp
  clear h1 hdn hdp
  by_cases c1 : D ≤ 2
  · have d1 : decide (D ≤ 2) = true := by simpa using c1
    have hst : (stepA m D n c).2 = (openA m n c).2 := by unfold stepA; rw [if_pos c1]
    rw [hst]
    clear hst c1
    go_enter Try.func38, Try.ntmps38
    go_wp2_with fail
    generalize w.alloc (.cells #[.int .i64 D, .int .i64 n, .int .i64 c] 87) = w1 at *
    generalize w.heap.size = bd at *
    refine (Open_F w0 w1 p m n c F hF).mono ?_
    rintro e w2 ⟨rfl, hG, f2⟩
    have hA2 := hG.atM
    have hE2 := hE1.fr f2 hqF
    have b1 := f2.cell b1 hdF
    have b2 := f2.cell b2 hdF
    have hn2 : ∃ cs t f, w2.heap[q]? = some (.cells cs t f) := by
      obtain ⟨cs, t, f, e⟩ := hn1
      exact ⟨cs, t, f, f2.keeps e hqF⟩
    clear hE1 hn1 hF hG
    go_wp2_with fail
    refine (r_Open0 w2 q n c hE2).mono ?_
    rintro e w3 ⟨⟨x, rfl⟩, f3⟩
    have hA3 := hA2.frq f3 hb hn2 hp
    clear hA2 hn2 hE2
    go_wp2
    go_ret
    exact ⟨⟨_, rfl⟩, hA3⟩
  · have d1 : decide (D ≤ 2) = false := by simpa using c1
    by_cases c2 : D = 3
    · have d2 : (D == 3) = true := by simpa using c2
      have hst : (stepA m D n c).2 = (closeA m n).2 := by unfold stepA; rw [if_neg c1, if_pos c2]
      rw [hst]
      clear hst c1 c2
      go_enter Try.func38, Try.ntmps38
      go_wp2_with fail
      generalize w.alloc (.cells #[.int .i64 D, .int .i64 n, .int .i64 c] 87) = w1 at *
      generalize w.heap.size = bd at *
      refine (Close_F w0 w1 p m n F hF).mono ?_
      rintro e w2 ⟨rfl, hG, f2⟩
      have hA2 := hG.atM
      have hE2 := hE1.fr f2 hqF
      have b1 := f2.cell b1 hdF
      have b2 := f2.cell b2 hdF
      have hn2 : ∃ cs t f, w2.heap[q]? = some (.cells cs t f) := by
        obtain ⟨cs, t, f, e⟩ := hn1
        exact ⟨cs, t, f, f2.keeps e hqF⟩
      clear hE1 hn1 hF hG
      go_wp2_with fail
      refine (r_Close0 w2 q n hE2).mono ?_
      rintro e w3 ⟨⟨x, rfl⟩, f3⟩
      have hA3 := hA2.frq f3 hb hn2 hp
      clear hA2 hn2 hE2
      go_wp2
      go_ret
      exact ⟨⟨_, rfl⟩, hA3⟩
    · have d2 : (D == 3) = false := by simpa using c2
      by_cases c3 : D ≤ 5
      · have d3 : decide (D ≤ 5) = true := by simpa using c3
        have hst : (stepA m D n c).2 = (joinA m n c).2 := by unfold stepA; rw [if_neg c1, if_neg c2, if_pos c3]
        rw [hst]
        clear hst c1 c2 c3
        go_enter Try.func38, Try.ntmps38
        go_wp2_with fail
        generalize w.alloc (.cells #[.int .i64 D, .int .i64 n, .int .i64 c] 87) = w1 at *
        generalize w.heap.size = bd at *
        refine (Join_F w0 w1 p m n c F hF).mono ?_
        rintro e w2 ⟨rfl, hG, f2⟩
        have hA2 := hG.atM
        have hE2 := hE1.fr f2 hqF
        have b1 := f2.cell b1 hdF
        have b2 := f2.cell b2 hdF
        have hn2 : ∃ cs t f, w2.heap[q]? = some (.cells cs t f) := by
          obtain ⟨cs, t, f, e⟩ := hn1
          exact ⟨cs, t, f, f2.keeps e hqF⟩
        clear hE1 hn1 hF hG
        go_wp2_with fail
        refine (r_Join0 w2 q n c hE2).mono ?_
        rintro e w3 ⟨⟨x, rfl⟩, f3⟩
        have hA3 := hA2.frq f3 hb hn2 hp
        clear hA2 hn2 hE2
        go_wp2
        go_ret
        exact ⟨⟨_, rfl⟩, hA3⟩
      · have d3 : decide (D ≤ 5) = false := by simpa using c3
        have hst : (stepA m D n c).2 = (leaveA m n c).2 := by unfold stepA; rw [if_neg c1, if_neg c2, if_neg c3]
        rw [hst]
        clear hst c1 c2 c3
        go_enter Try.func38, Try.ntmps38
        go_wp2_with fail
        generalize w.alloc (.cells #[.int .i64 D, .int .i64 n, .int .i64 c] 87) = w1 at *
        generalize w.heap.size = bd at *
        refine (Leave_F w0 w1 p m n c F hF).mono ?_
        rintro e w2 ⟨rfl, hG, f2⟩
        have hA2 := hG.atM
        have hE2 := hE1.fr f2 hqF
        have b1 := f2.cell b1 hdF
        have b2 := f2.cell b2 hdF
        have hn2 : ∃ cs t f, w2.heap[q]? = some (.cells cs t f) := by
          obtain ⟨cs, t, f, e⟩ := hn1
          exact ⟨cs, t, f, f2.keeps e hqF⟩
        clear hE1 hn1 hF hG
        go_wp2_with fail
        refine (r_Leave0 w2 q n c hE2).mono ?_
        rintro e w3 ⟨⟨x, rfl⟩, f3⟩
        have hA3 := hA2.frq f3 hb hn2 hp
        clear hA2 hn2 hE2
        go_wp2
        go_ret
        exact ⟨⟨_, rfl⟩, hA3⟩

/-- What holds of the SAPs, whatever was done. -/
def GA (m : List AE) : Prop := ∀ x ∈ m, sapB x.k = true ∧ ∀ g ∈ x.gs, groupB g = true
theorem look_memA {l : List AE} {n : Int} {x : AE} (h : lookA l n = some x) : x ∈ l ∧ x.k = n := ⟨List.mem_of_find?_eq_some h, by simpa using List.find?_some h⟩
theorem GA.step {m : List AE} (h : GA m) (D n c : Int) : GA (stepA m D n c).2 := by
  unfold stepA
  split
  · unfold openA
    by_cases ha : argB n c = false
    · rw [if_pos ha]; exact h
    · rw [if_neg ha]
      split
      · exact h
      · split
        · exact h
        · intro x hx
          rcases List.mem_append.1 hx with hx | hx
          · exact h x hx
          · simp at hx; subst hx
            simp only [argB] at ha
            exact ⟨by simp at ha ⊢; exact ha.1, by simp⟩
  · split
    · unfold closeA
      split
      · exact fun x hx => h x (List.mem_filter.1 hx).1
      · exact h
    · split
      · unfold joinA
        by_cases hg : groupB c = false
        · rw [if_pos hg]; exact h
        · rw [if_neg hg]
          split
          · exact h
          · split
            · exact h
            · intro x hx
              obtain ⟨y, hy, rfl⟩ := List.mem_map.1 hx
              obtain ⟨k1, k2⟩ := h y hy
              by_cases e : y.k = n
              · rw [if_pos e]
                refine ⟨k1, fun g hg' => ?_⟩
                rcases List.mem_append.1 hg' with hg' | hg'
                · exact k2 g hg'
                · simp at hg'; subst hg'; simpa using hg
              · rw [if_neg e]; exact ⟨k1, k2⟩
      · unfold leaveA
        by_cases hg : groupB c = false
        · rw [if_pos hg]; exact h
        · rw [if_neg hg]
          split
          · exact h
          · split
            · intro x hx
              obtain ⟨y, hy, rfl⟩ := List.mem_map.1 hx
              obtain ⟨k1, k2⟩ := h y hy
              by_cases e : y.k = n
              · rw [if_pos e]
                exact ⟨k1, fun g hg' => k2 g (List.mem_filter.1 hg').1⟩
              · rw [if_neg e]; exact ⟨k1, k2⟩
            · exact h
end Go.Proofs.Ytgmpikaibeenmaa
