
/- The reference's SAPs: closing one, joining a group, leaving it. -/
import Derived.Test.YtgmpikaibeenmaaSapsV
namespace Go.Proofs.Ytgmpikaibeenmaa
open Go.RowKit Go.Shelf Go.ChangeMaps
set_option linter.unusedVariables false
set_option linter.unusedSimpArgs false
set_option maxRecDepth 100000

theorem flatR_len (L : List RE) : (flatR L).length = L.length * 3 := flat_len RE.cells 3 (fun _ => rfl) L
theorem flatR_one (L : List RE) : ∀ u ∈ flatR L, u.oneCell' = true := by
  intro u hu
  simp only [flatR, List.mem_flatMap, RE.cells] at hu
  obtain ⟨x, _, hu⟩ := hu
  simp at hu
  rcases hu with rfl | rfl | rfl <;> rfl
theorem flatR_take (R : List RE) (i : Nat) : ∃ t, flatR R = flatR (R.take i) ++ t := ⟨flatR (R.drop i), by unfold flatR; rw [← List.flatMap_append, List.take_append_drop]⟩
theorem IsR.take {w : World} {q : Nat} {s : Sl} {R : List RE} (h : IsR w q s R) {b : Nat} (hA : s.A = some ⟨b, 0, none⟩) {i : Nat} (hi : i < R.length) : Rowed w.heap.size i (flatR (R.take i)) w (.slice (some ⟨b, 0, none⟩) i s.c) := by
  obtain ⟨b', hb, hc⟩ := own_at h.own (by omega)
  rw [hA] at hb
  cases hb
  refine ⟨_, _, rfl, h.lt' b (by simp [rfoot, Sl.blk, hA]), fun j u hj => ?_⟩
  rw [Go.WideShapes.add_plain, Nat.zero_add]
  refine hc j u ?_
  obtain ⟨t, ht⟩ := flatR_take R i
  rw [ht, List.getElem?_append_left (List.getElem?_eq_some_iff.1 hj).1]
  exact hj
theorem IsR.drop {w : World} {q : Nat} {s : Sl} {R : List RE} (h : IsR w q s R) {b : Nat} (hA : s.A = some ⟨b, 0, none⟩) {i : Nat} (hi : i < R.length) {o m c : Nat} (hm : m = R.length - (i + 1)) (ho : o = (i + 1) * 3 ∨ m = 0) : Rowed w.heap.size m (flatR (R.drop (i + 1))) w (.slice (some ⟨b, o, none⟩) m c) := by
  subst hm
  obtain ⟨b', hb, hc⟩ := own_at h.own (by omega)
  rw [hA] at hb
  cases hb
  refine ⟨_, _, rfl, h.lt' b (by simp [rfoot, Sl.blk, hA]), fun j u hj => ?_⟩
  rcases ho with rfl | h0
  · rw [Go.WideShapes.add_plain]
    refine hc _ u ?_
    have e : flatR R = flatR (R.take (i + 1)) ++ flatR (R.drop (i + 1)) := by unfold flatR; rw [← List.flatMap_append, List.take_append_drop]
    have hl := flatR_len (R.take (i + 1))
    rw [List.length_take_of_le (by omega)] at hl
    rw [e, List.getElem?_append_right (by omega), hl, Nat.add_sub_cancel_left]
    exact hj
  · have hl := flatR_len (R.drop (i + 1))
    rw [List.length_drop, h0] at hl
    have := (List.getElem?_eq_some_iff.1 hj).1
    omega
theorem IsR.cap {w : World} {q : Nat} {s : Sl} {R : List RE} (h : IsR w q s R) : R.length ≤ s.c ∨ R = [] := by
  rcases h.own.2 with ⟨e, h0⟩ | ⟨g, cap, cur, e, _, _, hc, _⟩
  · exact .inr (List.length_eq_zero_iff.1 h0)
  · cases s; simp only [Sl.v, Value.slice.injEq] at e; exact .inl (by simp [e.2.2]; omega)
theorem nod_erase {R : List RE} (hn : (R.map (·.k)).Nodup) {i : Nat} (hi : i < R.length) : (R.take i ++ R.drop (i + 1)).map RE.a = (R.map RE.a).filter (·.k != R[i].k) := by
  induction R generalizing i with
  | nil => simp at hi
  | cons x R ih =>
    rw [List.map_cons, List.nodup_cons] at hn
    cases i with
    | zero =>
      simp only [List.take_zero, List.nil_append, Nat.zero_add, List.drop_succ_cons, List.drop_zero, List.getElem_cons_zero, List.map_cons]
      rw [List.filter_cons_of_neg (by simp [RE.a])]
      symm
      rw [List.filter_eq_self]
      intro y hy
      obtain ⟨z, hz, rfl⟩ := List.mem_map.1 hy
      simp only [RE.a, bne_iff_ne, ne_eq]
      intro e
      exact hn.1 (e ▸ List.mem_map_of_mem hz)
    | succ i =>
      have hi' : i < R.length := by simpa using hi
      simp only [List.take_succ_cons, List.cons_append, List.drop_succ_cons, List.map_cons, List.getElem_cons_succ]
      rw [List.filter_cons_of_pos, ih hn.2 hi']
      simp only [RE.a, bne_iff_ne, ne_eq]
      intro e
      exact hn.1 (e ▸ List.mem_map_of_mem (List.getElem_mem hi'))
theorem flatR_app (A B : List RE) : flatR (A ++ B) = flatR A ++ flatR B := by unfold flatR; rw [List.flatMap_append]

set_option maxHeartbeats 1000000 in
theorem r_Close (w : World) (q : Nat) (s : Sl) (R : List RE) (n : Int) (h : IsR w q s R) (hs16 : R.length ≤ 16) (hnd : (R.map (·.k)).Nodup) :
    Calls Try.prog 51 #[.pointer (some ⟨q, 0, none⟩), .int .i64 n] w fun e w' => e = .returned (.int .i64 (closeA (R.map RE.a) n).1) ∧ AtRm w w' q s R (closeA (R.map RE.a) n).2 := by
  unfold closeA
  rw [look_ra, Option.isSome_map]
  have hat := r_at w q s R n h (by omega)
  have c0 := h.c0
  rcases idx_parts R n with ⟨h1, h2⟩ | ⟨i, hi, h1, h2, h3⟩
  · rw [h2]
    rw [h1] at hat
    simp only [Option.isSome_none, Bool.false_eq_true, if_false]
    clear h1 h2
    go_enter Try.func51, Try.ntmps51
    go_wp2_with fail
    refine (hat).mono ?_
    rintro e w' ⟨rfl, rfl⟩
    go_wp2
    go_ret
    exact ⟨rfl, AtRm.same h (Fr.refl _ _)⟩
  · rw [h2]
    rw [h1] at hat
    obtain ⟨b, hA, u1, u2, u3⟩ := h.at_ i hi
    rw [hA] at c0
    have k0 : ∀ wx, Fr [] w wx → wx.cell? ⟨q, 0, none⟩ = some (.slice (some ⟨b, 0, none⟩) R.length s.c) := fun wx hf => hf.cell c0 (by simp)
    simp only [Option.isSome_some, if_true]
    have hcap : R.length ≤ s.c := h.cap.resolve_right (fun e => by rw [e] at hi; simp at hi)
    have HT := Lib.hid (h.take hA hi)
    have HD := Lib.hid (fun (o c : Nat) ho => h.drop hA hi (o := o) (m := R.length - (i + 1)) (c := c) rfl ho)
    have HDO := Lib.hid (show (if s.c = i + 1 then 0 else (i + 1) * 3) = (i + 1) * 3 ∨ R.length - (i + 1) = 0 by split <;> omega)
    have HE := Lib.hid (show (R.take i ++ R.drop (i + 1)).map RE.a = (R.map RE.a).filter (·.k != n) by rw [← h3]; exact nod_erase hnd hi)
    have hic : i ≤ s.c := by omega
    have hil : 0 ≤ (i : Int) + 1 ∧ (i : Int) + 1 ≤ (R.length : Int) := by omega
    have z0 := h.head.free 0
    obtain ⟨ji, j0, j1, j2, j3⟩ := info_parts (show (Try.prog.info? 90).map (fun i => (i.zero, i.size, i.bytes)) = some (some (.agg #[.int .i64 0, .int .i64 0, .slice none 0 0]), 3, 40) by kernel_rfl)
    have ju : Try.prog.underlying 82 = some (.slice 90) := Try.underlying82
    clear h1 h2 u1 u2 u3
    go_enter Try.func51, Try.ntmps51
    go_wp2_with fail
    refine (hat).mono ?_
    rintro e w' ⟨rfl, rfl⟩
    clear c0 hat
    have q1 : IntKind.i64.wrap ((i : Int) + 1) = (i : Int) + 1 := IntWalk.i64_in _ (by omega)
    go_wp2
    refine wp_region_keepsC [] [false, false, false, false, false, false, false, false, true, false, false, false, false, false, false, false, true] [none, some 8, none, none, none, none, none, none, some 16, none, none, none, none, none, none, none, some 17] (fun _ => True) [Is (.pointer (some ⟨q, 0, none⟩)), (Own w.heap.size 90 3 0 []), Is (.pointer (some ⟨q, 0, none⟩)), Is (.pointer (some ⟨q, 0, none⟩)), Is (.pointer (some ⟨q, 0, none⟩)), Is (.slice (some ⟨b, 0, none⟩) R.length s.c), Is (.int .i64 (i : Int)), (Rowed w.heap.size i (flatR (R.take i))), (Own w.heap.size 90 3 i (flatR (R.take i))), Is (.pointer (some ⟨q, 0, none⟩)), Is (.pointer (some ⟨q, 0, none⟩)), Is (.pointer (some ⟨q, 0, none⟩)), Is (.slice (some ⟨b, 0, none⟩) R.length s.c), Is (.int .i64 (i : Int)), Is (.int .i64 ((i : Int) + 1)), (Rowed w.heap.size (R.length - (i + 1)) (flatR (R.drop (i + 1)))), (Own w.heap.size 90 3 (i + (R.length - (i + 1))) (flatR (R.take i) ++ flatR (R.drop (i + 1))))] 17 (by kernel_rfl) (by kernel_rfl) (by kernel_rfl) (by kernel_rfl) (by kernel_rfl) (by kernel_rfl) (by kernel_rfl) (by kernel_rfl) ?hV (fun _ _ _ h => h) trivial ?hS ?hD
    case hV =>
      repeat (first | exact trivial | exact Is.keepsN _ | exact Any.keepsN | exact Rowed.keepsN | exact Own.keeps | refine And.intro ?_ ?_)
    case hS =>
      (repeat' (first | exact trivial | refine And.intro ?_ ?_))
      · intro ac wx hf hbs hs hp K hK
        simp only [waits, holdsA, nth, Is, Any, List.filter_cons, List.filter_nil, List.map_cons, List.map_nil, Region.binds, if_true, true_and, and_true, Nat.reduceAdd, List.getElem?_cons_zero, List.getElem?_cons_succ, Option.bind_some, Array.getD_eq_getD_getElem?] at hp
        have hs0 := hs 0 (by kernel_rfl)
        simp only [Array.getD_eq_getD_getElem?, List.getElem?_toArray, List.getElem?_cons_succ, List.getElem?_cons_zero, Option.getD_some] at hs0
        clear hs
        clear hf hbs
        (try simp only [hp])
        go_simp
        try dsimp only
        refine hK.out _ _ ?_ ?_
        · change Fr [] _ _
          ((repeat (first | (with_reducible exact Fr.refl _ _) | (with_reducible assumption) | (with_reducible refine Fr.drew ?_) | (with_reducible refine Fr.drewN ?_ _) | (with_reducible refine Fr.alloc ?_ _) | (with_reducible refine Fr.setL ?_ _ _ _ ?_) | (focus (refine Or.inl ?_; simp; done)) | (focus (refine Or.inr ?_; simp; done)) | (focus (refine Or.inr ?_; simp; omega)) | (focus (refine Or.inr ?_; omega)))); done)
        · simp only [nth]
          first | (unfold Is; rfl) | (unfold Any; exact trivial) | exact IsSl.new _ _ _ _ | assumption
      · intro ac wx hf hbs hs hp K hK
        simp only [waits, holdsA, nth, Is, Any, List.filter_cons, List.filter_nil, List.map_cons, List.map_nil, Region.binds, if_true, true_and, and_true, Nat.reduceAdd, List.getElem?_cons_zero, List.getElem?_cons_succ, Option.bind_some, Array.getD_eq_getD_getElem?] at hp
        clear hs
        clear hbs
        have hsz := hf.size
        (try simp only [hp])
        go_simp
        refine hK.out _ _ ?_ ?_
        · change Fr [] _ _
          exact (Fr.refl _ _).alloc _
        · simp only [nth]
          exact Own.new _ _ hsz
      · intro ac wx hf hbs hs hp K hK
        simp only [waits, holdsA, nth, Is, Any, List.filter_cons, List.filter_nil, List.map_cons, List.map_nil, Region.binds, if_true, true_and, and_true, Nat.reduceAdd, List.getElem?_cons_zero, List.getElem?_cons_succ, Option.bind_some, Array.getD_eq_getD_getElem?] at hp
        have hs0 := hs 0 (by kernel_rfl)
        simp only [Array.getD_eq_getD_getElem?, List.getElem?_toArray, List.getElem?_cons_succ, List.getElem?_cons_zero, Option.getD_some] at hs0
        clear hs
        clear hf hbs
        (try simp only [hp])
        go_simp
        try dsimp only
        refine hK.out _ _ ?_ ?_
        · change Fr [] _ _
          ((repeat (first | (with_reducible exact Fr.refl _ _) | (with_reducible assumption) | (with_reducible refine Fr.drew ?_) | (with_reducible refine Fr.drewN ?_ _) | (with_reducible refine Fr.alloc ?_ _) | (with_reducible refine Fr.setL ?_ _ _ _ ?_) | (focus (refine Or.inl ?_; simp; done)) | (focus (refine Or.inr ?_; simp; done)) | (focus (refine Or.inr ?_; simp; omega)) | (focus (refine Or.inr ?_; omega)))); done)
        · simp only [nth]
          first | (unfold Is; rfl) | (unfold Any; exact trivial) | exact IsSl.new _ _ _ _ | assumption
      · intro ac wx hf hbs hs hp K hK
        simp only [waits, holdsA, nth, Is, Any, List.filter_cons, List.filter_nil, List.map_cons, List.map_nil, Region.binds, if_true, true_and, and_true, Nat.reduceAdd, List.getElem?_cons_zero, List.getElem?_cons_succ, Option.bind_some, Array.getD_eq_getD_getElem?] at hp
        clear hs
        clear hf hbs
        (try simp only [hp])
        go_simp
        try dsimp only
        refine hK.out _ _ ?_ ?_
        · change Fr [] _ _
          ((repeat (first | (with_reducible exact Fr.refl _ _) | (with_reducible assumption) | (with_reducible refine Fr.drew ?_) | (with_reducible refine Fr.drewN ?_ _) | (with_reducible refine Fr.alloc ?_ _) | (with_reducible refine Fr.setL ?_ _ _ _ ?_) | (focus (refine Or.inl ?_; simp; done)) | (focus (refine Or.inr ?_; simp; done)) | (focus (refine Or.inr ?_; simp; omega)) | (focus (refine Or.inr ?_; omega)))); done)
        · simp only [nth]
          first | (unfold Is; rfl) | (unfold Any; exact trivial) | exact IsSl.new _ _ _ _ | assumption
      · intro ac wx hf hbs hs hp K hK
        simp only [waits, holdsA, nth, Is, Any, List.filter_cons, List.filter_nil, List.map_cons, List.map_nil, Region.binds, if_true, true_and, and_true, Nat.reduceAdd, List.getElem?_cons_zero, List.getElem?_cons_succ, Option.bind_some, Array.getD_eq_getD_getElem?] at hp
        clear hs
        clear hf hbs
        (try simp only [hp])
        go_simp
        try dsimp only
        refine hK.out _ _ ?_ ?_
        · change Fr [] _ _
          ((repeat (first | (with_reducible exact Fr.refl _ _) | (with_reducible assumption) | (with_reducible refine Fr.drew ?_) | (with_reducible refine Fr.drewN ?_ _) | (with_reducible refine Fr.alloc ?_ _) | (with_reducible refine Fr.setL ?_ _ _ _ ?_) | (focus (refine Or.inl ?_; simp; done)) | (focus (refine Or.inr ?_; simp; done)) | (focus (refine Or.inr ?_; simp; omega)) | (focus (refine Or.inr ?_; omega)))); done)
        · simp only [nth]
          first | (unfold Is; rfl) | (unfold Any; exact trivial) | exact IsSl.new _ _ _ _ | assumption
      · intro ac wx hf hbs hs hp K hK
        simp only [waits, holdsA, nth, Is, Any, List.filter_cons, List.filter_nil, List.map_cons, List.map_nil, Region.binds, if_true, true_and, and_true, Nat.reduceAdd, List.getElem?_cons_zero, List.getElem?_cons_succ, Option.bind_some, Array.getD_eq_getD_getElem?] at hp
        clear hs
        clear hbs
        have cx := k0 wx hf
        clear hf
        (try simp only [hp])
        go_simp
        try dsimp only
        refine hK.out _ _ ?_ ?_
        · change Fr [] _ _
          ((repeat (first | (with_reducible exact Fr.refl _ _) | (with_reducible assumption) | (with_reducible refine Fr.drew ?_) | (with_reducible refine Fr.drewN ?_ _) | (with_reducible refine Fr.alloc ?_ _) | (with_reducible refine Fr.setL ?_ _ _ _ ?_) | (focus (refine Or.inl ?_; simp; done)) | (focus (refine Or.inr ?_; simp; done)) | (focus (refine Or.inr ?_; simp; omega)) | (focus (refine Or.inr ?_; omega)))); done)
        · simp only [nth]
          first | (unfold Is; rfl) | (unfold Any; exact trivial) | exact IsSl.new _ _ _ _ | assumption
      · intro ac wx hf hbs hs hp K hK
        simp only [waits, holdsA, nth, Is, Any, List.filter_cons, List.filter_nil, List.map_cons, List.map_nil, Region.binds, if_true, true_and, and_true, Nat.reduceAdd, List.getElem?_cons_zero, List.getElem?_cons_succ, Option.bind_some, Array.getD_eq_getD_getElem?] at hp
        have hs5 := hs 5 (by kernel_rfl)
        simp only [Array.getD_eq_getD_getElem?, List.getElem?_toArray, List.getElem?_cons_succ, List.getElem?_cons_zero, Option.getD_some] at hs5
        clear hs
        clear hf hbs
        (try simp only [hp])
        go_simp
        try dsimp only
        refine hK.out _ _ ?_ ?_
        · change Fr [] _ _
          ((repeat (first | (with_reducible exact Fr.refl _ _) | (with_reducible assumption) | (with_reducible refine Fr.drew ?_) | (with_reducible refine Fr.drewN ?_ _) | (with_reducible refine Fr.alloc ?_ _) | (with_reducible refine Fr.setL ?_ _ _ _ ?_) | (focus (refine Or.inl ?_; simp; done)) | (focus (refine Or.inr ?_; simp; done)) | (focus (refine Or.inr ?_; simp; omega)) | (focus (refine Or.inr ?_; omega)))); done)
        · simp only [nth]
          first | (unfold Is; rfl) | (unfold Any; exact trivial) | exact IsSl.new _ _ _ _ | assumption
      · intro ac wx hf hbs hs hp K hK
        simp only [waits, holdsA, nth, Is, Any, List.filter_cons, List.filter_nil, List.map_cons, List.map_nil, Region.binds, if_true, true_and, and_true, Nat.reduceAdd, List.getElem?_cons_zero, List.getElem?_cons_succ, Option.bind_some, Array.getD_eq_getD_getElem?] at hp
        clear hs
        clear hbs
        have HF := HT.out.fr hf
        clear hf
        (try simp only [hp])
        go_simp
        refine hK.out _ _ ?_ ?_
        · change Fr [] _ _
          exact Fr.refl _ _
        · simp only [nth]
          exact HF
      · intro ac wx hf hbs hs hp K hK
        simp only [waits, holdsA, nth, Is, Any, List.filter_cons, List.filter_nil, List.map_cons, List.map_nil, Region.binds, if_true, true_and, and_true, Nat.reduceAdd, List.getElem?_cons_zero, List.getElem?_cons_succ, Option.bind_some, Array.getD_eq_getD_getElem?] at hp
        clear hs
        clear hbs
        obtain ⟨ad, cx, hx, hxb, hxc⟩ := hp.2
        have ho := hp.1
        have hsz := hf.size
        refine Eq.mpr (if_pos (by rfl)) ?_
        refine wp_append_own _ (.tmp 12) (.tmp 18) 82 rfl (w.heap.size) 90 ji (.agg #[.int .i64 0, .int .i64 0, .slice none 0 0]) 3 40 ju j0 j1 j2 j3 rfl (by decide) _ (0) _ (eval_tmp _ _) ho ad _ cx (flatR (R.take i)) ((eval_tmp _ _).trans hx) (by rw [flatR_len, List.length_take_of_le (by omega)]) hxc (flatR_one _) (by unfold maxLen; omega) (by omega) hsz ?_
        intro v' w' ho' hg' _
        refine hK.out _ _ ?_ ?_
        · exact stC_grown hg' (fun k hk => .inr (World.ownsRow.lt ho k hk).1)
        · simp only [nth]
          rw [Nat.zero_add, List.nil_append] at ho'
          exact ho'
      · intro ac wx hf hbs hs hp K hK
        simp only [waits, holdsA, nth, Is, Any, List.filter_cons, List.filter_nil, List.map_cons, List.map_nil, Region.binds, if_true, true_and, and_true, Nat.reduceAdd, List.getElem?_cons_zero, List.getElem?_cons_succ, Option.bind_some, Array.getD_eq_getD_getElem?] at hp
        have hs0 := hs 0 (by kernel_rfl)
        simp only [Array.getD_eq_getD_getElem?, List.getElem?_toArray, List.getElem?_cons_succ, List.getElem?_cons_zero, Option.getD_some] at hs0
        clear hs
        clear hf hbs
        (try simp only [hp])
        go_simp
        try dsimp only
        refine hK.out _ _ ?_ ?_
        · change Fr [] _ _
          ((repeat (first | (with_reducible exact Fr.refl _ _) | (with_reducible assumption) | (with_reducible refine Fr.drew ?_) | (with_reducible refine Fr.drewN ?_ _) | (with_reducible refine Fr.alloc ?_ _) | (with_reducible refine Fr.setL ?_ _ _ _ ?_) | (focus (refine Or.inl ?_; simp; done)) | (focus (refine Or.inr ?_; simp; done)) | (focus (refine Or.inr ?_; simp; omega)) | (focus (refine Or.inr ?_; omega)))); done)
        · simp only [nth]
          first | (unfold Is; rfl) | (unfold Any; exact trivial) | exact IsSl.new _ _ _ _ | assumption
      · intro ac wx hf hbs hs hp K hK
        simp only [waits, holdsA, nth, Is, Any, List.filter_cons, List.filter_nil, List.map_cons, List.map_nil, Region.binds, if_true, true_and, and_true, Nat.reduceAdd, List.getElem?_cons_zero, List.getElem?_cons_succ, Option.bind_some, Array.getD_eq_getD_getElem?] at hp
        clear hs
        clear hf hbs
        (try simp only [hp])
        go_simp
        try dsimp only
        refine hK.out _ _ ?_ ?_
        · change Fr [] _ _
          ((repeat (first | (with_reducible exact Fr.refl _ _) | (with_reducible assumption) | (with_reducible refine Fr.drew ?_) | (with_reducible refine Fr.drewN ?_ _) | (with_reducible refine Fr.alloc ?_ _) | (with_reducible refine Fr.setL ?_ _ _ _ ?_) | (focus (refine Or.inl ?_; simp; done)) | (focus (refine Or.inr ?_; simp; done)) | (focus (refine Or.inr ?_; simp; omega)) | (focus (refine Or.inr ?_; omega)))); done)
        · simp only [nth]
          first | (unfold Is; rfl) | (unfold Any; exact trivial) | exact IsSl.new _ _ _ _ | assumption
      · intro ac wx hf hbs hs hp K hK
        simp only [waits, holdsA, nth, Is, Any, List.filter_cons, List.filter_nil, List.map_cons, List.map_nil, Region.binds, if_true, true_and, and_true, Nat.reduceAdd, List.getElem?_cons_zero, List.getElem?_cons_succ, Option.bind_some, Array.getD_eq_getD_getElem?] at hp
        clear hs
        clear hf hbs
        (try simp only [hp])
        go_simp
        try dsimp only
        refine hK.out _ _ ?_ ?_
        · change Fr [] _ _
          ((repeat (first | (with_reducible exact Fr.refl _ _) | (with_reducible assumption) | (with_reducible refine Fr.drew ?_) | (with_reducible refine Fr.drewN ?_ _) | (with_reducible refine Fr.alloc ?_ _) | (with_reducible refine Fr.setL ?_ _ _ _ ?_) | (focus (refine Or.inl ?_; simp; done)) | (focus (refine Or.inr ?_; simp; done)) | (focus (refine Or.inr ?_; simp; omega)) | (focus (refine Or.inr ?_; omega)))); done)
        · simp only [nth]
          first | (unfold Is; rfl) | (unfold Any; exact trivial) | exact IsSl.new _ _ _ _ | assumption
      · intro ac wx hf hbs hs hp K hK
        simp only [waits, holdsA, nth, Is, Any, List.filter_cons, List.filter_nil, List.map_cons, List.map_nil, Region.binds, if_true, true_and, and_true, Nat.reduceAdd, List.getElem?_cons_zero, List.getElem?_cons_succ, Option.bind_some, Array.getD_eq_getD_getElem?] at hp
        clear hs
        clear hbs
        have cx := k0 wx hf
        clear hf
        (try simp only [hp])
        go_simp
        try dsimp only
        refine hK.out _ _ ?_ ?_
        · change Fr [] _ _
          ((repeat (first | (with_reducible exact Fr.refl _ _) | (with_reducible assumption) | (with_reducible refine Fr.drew ?_) | (with_reducible refine Fr.drewN ?_ _) | (with_reducible refine Fr.alloc ?_ _) | (with_reducible refine Fr.setL ?_ _ _ _ ?_) | (focus (refine Or.inl ?_; simp; done)) | (focus (refine Or.inr ?_; simp; done)) | (focus (refine Or.inr ?_; simp; omega)) | (focus (refine Or.inr ?_; omega)))); done)
        · simp only [nth]
          first | (unfold Is; rfl) | (unfold Any; exact trivial) | exact IsSl.new _ _ _ _ | assumption
      · intro ac wx hf hbs hs hp K hK
        simp only [waits, holdsA, nth, Is, Any, List.filter_cons, List.filter_nil, List.map_cons, List.map_nil, Region.binds, if_true, true_and, and_true, Nat.reduceAdd, List.getElem?_cons_zero, List.getElem?_cons_succ, Option.bind_some, Array.getD_eq_getD_getElem?] at hp
        have hs5 := hs 5 (by kernel_rfl)
        simp only [Array.getD_eq_getD_getElem?, List.getElem?_toArray, List.getElem?_cons_succ, List.getElem?_cons_zero, Option.getD_some] at hs5
        clear hs
        clear hf hbs
        (try simp only [hp])
        go_simp
        try dsimp only
        refine hK.out _ _ ?_ ?_
        · change Fr [] _ _
          ((repeat (first | (with_reducible exact Fr.refl _ _) | (with_reducible assumption) | (with_reducible refine Fr.drew ?_) | (with_reducible refine Fr.drewN ?_ _) | (with_reducible refine Fr.alloc ?_ _) | (with_reducible refine Fr.setL ?_ _ _ _ ?_) | (focus (refine Or.inl ?_; simp; done)) | (focus (refine Or.inr ?_; simp; done)) | (focus (refine Or.inr ?_; simp; omega)) | (focus (refine Or.inr ?_; omega)))); done)
        · simp only [nth]
          first | (unfold Is; rfl) | (unfold Any; exact trivial) | exact IsSl.new _ _ _ _ | assumption
      · intro ac wx hf hbs hs hp K hK
        simp only [waits, holdsA, nth, Is, Any, List.filter_cons, List.filter_nil, List.map_cons, List.map_nil, Region.binds, if_true, true_and, and_true, Nat.reduceAdd, List.getElem?_cons_zero, List.getElem?_cons_succ, Option.bind_some, Array.getD_eq_getD_getElem?] at hp
        clear hs
        clear hf hbs
        (try simp only [hp])
        go_simp
        try dsimp only
        refine hK.out _ _ ?_ ?_
        · change Fr [] _ _
          ((repeat (first | (with_reducible exact Fr.refl _ _) | (with_reducible assumption) | (with_reducible refine Fr.drew ?_) | (with_reducible refine Fr.drewN ?_ _) | (with_reducible refine Fr.alloc ?_ _) | (with_reducible refine Fr.setL ?_ _ _ _ ?_) | (focus (refine Or.inl ?_; simp; done)) | (focus (refine Or.inr ?_; simp; done)) | (focus (refine Or.inr ?_; simp; omega)) | (focus (refine Or.inr ?_; omega)))); done)
        · simp only [nth]
          first | (unfold Is; rfl) | (unfold Any; exact trivial) | exact IsSl.new _ _ _ _ | assumption
      · intro ac wx hf hbs hs hp K hK
        simp only [waits, holdsA, nth, Is, Any, List.filter_cons, List.filter_nil, List.map_cons, List.map_nil, Region.binds, if_true, true_and, and_true, Nat.reduceAdd, List.getElem?_cons_zero, List.getElem?_cons_succ, Option.bind_some, Array.getD_eq_getD_getElem?] at hp
        clear hs
        clear hbs
        have HF := (HD.out (if s.c = i + 1 then 0 else (i + 1) * 3) (s.c - (i + 1)) HDO.out).fr hf
        clear hf
        (try simp only [hp])
        go_simp
        refine hK.out _ _ ?_ ?_
        · change Fr [] _ _
          exact Fr.refl _ _
        · simp only [nth]
          have e : (if s.c = i + 1 then some (⟨b, 0, none⟩ : Addr) else some ⟨b, (i + 1) * 3, none⟩) = some ⟨b, if s.c = i + 1 then 0 else (i + 1) * 3, none⟩ := by split <;> rfl
          rw [e]
          exact HF
      · intro ac wx hf hbs hs hp K hK
        simp only [waits, holdsA, nth, Is, Any, List.filter_cons, List.filter_nil, List.map_cons, List.map_nil, Region.binds, if_true, true_and, and_true, Nat.reduceAdd, List.getElem?_cons_zero, List.getElem?_cons_succ, Option.bind_some, Array.getD_eq_getD_getElem?] at hp
        clear hs
        clear hbs
        obtain ⟨ad, cx, hx, hxb, hxc⟩ := hp.2.1
        have ho := hp.1
        have hsz := hf.size
        refine Eq.mpr (if_pos (by rfl)) ?_
        refine wp_append_own _ (.tmp 19) (.tmp 26) 82 rfl (w.heap.size) 90 ji (.agg #[.int .i64 0, .int .i64 0, .slice none 0 0]) 3 40 ju j0 j1 j2 j3 rfl (by decide) _ (i) _ (eval_tmp _ _) ho ad _ cx (flatR (R.drop (i + 1))) ((eval_tmp _ _).trans hx) (by rw [flatR_len, List.length_drop]) hxc (flatR_one _) (by unfold maxLen; omega) (by omega) hsz ?_
        intro v' w' ho' hg' _
        refine hK.out _ _ ?_ ?_
        · exact stC_grown hg' (fun k hk => .inr (World.ownsRow.lt ho k hk).1)
        · simp only [nth]
          exact ho'
    case hD =>
      intro xv wx hf hp
      simp only [List.take_succ_cons, List.take_zero, List.drop_succ_cons, List.drop_zero, fill, List.setIfInBounds_toArray, List.set_cons_zero, List.set_cons_succ, Nat.reduceAdd, Act.put]
      rw [show live 17 (deadC [none, some 8, none, none, none, none, none, none, some 16, none, none, none, none, none, none, none, some 17]) = [0, 2, 3, 4, 5, 6, 7, 9, 10, 11, 12, 13, 14, 15, 16] from by decide] at hp
      simp only [holds, nth, Is, Any, true_and, and_true] at hp
      obtain ⟨p0, p2, p3, p4, p5, p6, p7, p9, p10, p11, p12, p13, p14, p15, p16⟩ := hp
      obtain ⟨s2, hs2⟩ := own_sl p16
      have hput := h.put (R2 := R.take i ++ R.drop (i + 1)) (s2 := s2) hf (by
        have := p16
        rw [hs2] at this
        rw [flatR_app, List.length_append, List.length_take_of_le (by omega), List.length_drop]
        exact this) (fun x hx => .inl ((List.mem_append.1 hx).elim List.mem_of_mem_take List.mem_of_mem_drop))
      rw [HE.out] at hput
      have HPUT := Lib.hid hput
      have HF2 := Lib.hid hf
      have z1 : wx.frozen? ⟨q, 0, none⟩ = false := (h.fr0 hf).head.free 0
      have c1 := hf.cell h.c0 (by simp)
      simp only [p0, hs2]
      clear p0 p2 p3 p4 p5 p6 p7 p9 p10 p11 p12 p13 p14 p15 p16 hput hf
      go_wp2
      go_ret
      exact ⟨rfl, HPUT.out⟩

end Go.Proofs.Ytgmpikaibeenmaa
