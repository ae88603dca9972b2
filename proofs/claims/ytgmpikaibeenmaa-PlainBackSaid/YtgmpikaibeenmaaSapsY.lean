
/- The reference's SAPs: joining a group, leaving it. -/
import Derived.Test.YtgmpikaibeenmaaSapsX
namespace Go.Proofs.Ytgmpikaibeenmaa
open Go.RowKit Go.Shelf Go.ChangeMaps
set_option linter.unusedVariables false
set_option linter.unusedSimpArgs false
set_option maxRecDepth 100000

theorem own_set {w : World} {B g n c : Nat} {e : TypeId} {z : Nat} {xs : List Value} (h : w.ownsRow B e z (.slice (some ⟨g, 0, none⟩) n c) n xs) {j : Nat} (hj : j < n * z) (v : Value) : (w.setCell ⟨g, j, none⟩ v).ownsRow B e z (.slice (some ⟨g, 0, none⟩) n c) n (xs.set j v) := by
  refine ⟨by rw [List.length_set]; exact h.1, ?_⟩
  rcases h.2 with ⟨e, _⟩ | ⟨g', cap, cur, e', hg, hb, hc, hm, hs, ht⟩
  · cases e
  · cases e'
    refine .inr ⟨g, c, cur.setIfInBounds j v, rfl, hg, ?_, hc, hm, by simp [hs], ?_⟩
    · simp only [World.setCell, Array.getElem?_modify, if_true, hb, Option.map_some]
      rfl
    · rw [Array.toList_setIfInBounds, ← ht, List.take_set]
theorem flatR_set : ∀ (R : List RE) (i : Nat) (hi : i < R.length) (y : RE), y.k = R[i].k → y.cls = R[i].cls → flatR (R.set i y) = (flatR R).set (i * 3 + 2) (.slice y.g.A y.g.n y.g.c)
  | x :: R, 0, _, y, h1, h2 => by
    simp only [List.getElem_cons_zero] at h1 h2
    simp [flatR, RE.cells, h1, h2]
  | x :: R, i + 1, hi, y, h1, h2 => by
    have ih := flatR_set R i (by simpa using hi) y (by simpa using h1) (by simpa using h2)
    simp only [List.set_cons_succ, flatR, List.flatMap_cons] at ih ⊢
    rw [ih]
    have e : (i + 1) * 3 + 2 = (i * 3 + 2) + 3 := by omega
    rw [e]
    simp [RE.cells]
theorem nod_set {R : List RE} (hn : (R.map (·.k)).Nodup) {i : Nat} (hi : i < R.length) {y : RE} (f : List Int → List Int) (h1 : y.k = R[i].k) (h2 : y.cls = R[i].cls) (h3 : y.gs = f R[i].gs) : (R.set i y).map RE.a = (R.map RE.a).map fun x => if x.k = R[i].k then { x with gs := f x.gs } else x := by
  induction R generalizing i with
  | nil => simp at hi
  | cons x R ih =>
    rw [List.map_cons, List.nodup_cons] at hn
    cases i with
    | zero =>
      simp only [List.getElem_cons_zero] at h1 h2 h3
      simp only [List.set_cons_zero, List.map_cons, List.getElem_cons_zero]
      congr 1
      · simp [RE.a, h1, h2, h3]
      · rw [List.map_map]
        apply List.map_congr_left
        intro z hz
        have : z.k ≠ x.k := fun e => hn.1 (e ▸ List.mem_map_of_mem hz)
        simp [RE.a, this]
    | succ i =>
      have hi' : i < R.length := by simpa using hi
      simp only [List.getElem_cons_succ] at h1 h2 h3
      simp only [List.set_cons_succ, List.map_cons, List.getElem_cons_succ]
      rw [ih hn.2 hi' h1 h2 h3]
      have : x.k ≠ R[i].k := fun e => hn.1 (e ▸ List.mem_map_of_mem (List.getElem_mem hi'))
      simp [RE.a, this]
theorem IsR.regroup {w w1 : World} {q : Nat} {s s2 : Sl} {R : List RE} (h : IsR w q s R) (f : Fr [] w w1) {b i : Nat} (hi : i < R.length) (hA : s.A = some ⟨b, 0, none⟩) {gs' : List Int} (hown : w1.ownsRow w.heap.size 3 1 s2.v gs'.length (gs'.map (Value.int .i64))) (hw : ∀ x ∈ gs', (Lit.int .i64 x).wf = true)
    {RA : List AE} (hRA : (R.set i ⟨R[i].k, R[i].cls, gs', s2⟩).map RE.a = RA) :
    AtRm w (w1.setCell ⟨b, i * 3 + 2, none⟩ (.slice s2.A s2.n s2.c)) q s R RA := by
  have hy := young_blk hown
  have h1 := h.fr0 f
  have hsb : s.blk = [b] := by simp [Sl.blk, hA]
  have hbw : b < w.heap.size := h.lt' b (by simp [rfoot, hsb])
  have hqb : q ≠ b := fun e => h.sq (by rw [hsb]; simp [e])
  have hsf : Fr [b] w1 (w1.setCell ⟨b, i * 3 + 2, none⟩ (.slice s2.A s2.n s2.c)) := (Fr.refl _ _).setCell _ (.inl (by simp))
  have hsn := h.n_
  have hown1 := h1.own
  have hmem : ∀ x ∈ R.set i ⟨R[i].k, R[i].cls, gs', s2⟩, x ∈ R ∨ x = ⟨R[i].k, R[i].cls, gs', s2⟩ := fun x hx => List.mem_or_eq_of_mem_set hx
  refine ⟨s, R.set i ⟨R[i].k, R[i].cls, gs', s2⟩, ⟨h1.head.fr hsf (by simp [hqb]), ?_, fun x hx => ?_, fun x hx b' hb' => ?_, h.sq, fun x hx b' hb' => ?_⟩, hRA, ?_, fun b' hb' => ?_⟩
  · rw [List.length_set, flatR_set R i hi ⟨R[i].k, R[i].cls, gs', s2⟩ rfl rfl]
    have e : s.v = .slice (some ⟨b, 0, none⟩) R.length s.c := by rw [← hA, ← hsn]
    rw [e] at hown1 ⊢
    exact own_set hown1 (by omega) _
  · rcases hmem x hx with hx | rfl
    · refine (h1.grp x hx).frL hsf fun A n c e => ?_
      have hb : A.block ∈ x.g.blk := by
        cases hg : x.g
        rw [hg] at e
        simp only [Sl.v, Value.slice.injEq] at e
        simp [Sl.blk, e.1]
      have := (h.off x hx _ hb).2
      rwa [hsb] at this
    · refine (Ints.own hown hw).frL hsf fun A n c e => ?_
      have : A.block ∈ s2.blk := by cases s2; simp only [Sl.v, Value.slice.injEq] at e; simp [Sl.blk, e.1]
      have := hy _ this
      simp; omega
  · rcases hmem x hx with hx | rfl
    · exact h.off x hx b' hb'
    · have := hy _ hb'
      have hq : q < w.heap.size := h.head.lt
      refine ⟨by omega, ?_⟩
      rw [hsb]; simp; omega
  · rcases hmem x hx with hx | rfl
    · obtain ⟨cs, t, fz, e⟩ := h1.exi x hx b' hb'
      exact ⟨cs, t, fz, hsf.keeps e (by have := (h.off x hx _ hb').2; rwa [hsb] at this)⟩
    · rcases hown.2 with ⟨e, _⟩ | ⟨g, cap, cur, e, hg, hc, _⟩
      · cases s2; simp only [Sl.v, Value.slice.injEq] at e; simp [Sl.blk, e.1] at hb'
      · cases s2; simp only [Sl.v, Value.slice.injEq] at e; simp [Sl.blk, e.1] at hb'; subst hb'
        exact ⟨_, _, _, hsf.keeps hc (by simp; omega)⟩
  · exact (f.mono (by simp)).setCell _ (.inl (by simp [rmut, hsb]))
  · simp only [rfoot, List.mem_cons, List.mem_append, List.mem_flatMap] at hb' ⊢
    rcases hb' with hb' | hb' | ⟨x, hx, hb'⟩
    · exact .inl (.inl hb')
    · exact .inl (.inr (.inl hb'))
    · rcases hmem x hx with hx | rfl
      · exact .inl (.inr (.inr ⟨x, hx, hb'⟩))
      · exact .inr (hy _ hb')
theorem IsR.frz {w : World} {q : Nat} {s : Sl} {R : List RE} (h : IsR w q s R) {b : Nat} (hA : s.A = some ⟨b, 0, none⟩) (j : Nat) : w.frozen? ⟨b, j, none⟩ = false := by
  rcases h.own.2 with ⟨e, _⟩ | ⟨g, cap, cur, e, hg, hc, _⟩
  · cases s; simp only [Sl.v, Value.slice.injEq] at e; rw [e.1] at hA; cases hA
  · cases s; simp only [Sl.v, Value.slice.injEq] at e; rw [e.1] at hA; cases hA; simp [World.frozen?, hc]
theorem look_setk {R : List RE} {i : Nat} (hi : i < R.length) {n : Int} (h : lookR R n = some R[i]) : lookA (R.map RE.a) n = some R[i].a := by rw [look_ra, h]; rfl

set_option maxHeartbeats 1000000 in
theorem r_Join (w : World) (q : Nat) (s : Sl) (R : List RE) (n g : Int) (h : IsR w q s R) (hs16 : R.length ≤ 16) (hnd : (R.map (·.k)).Nodup) (hgl : ∀ x ∈ R, x.gs.length ≤ 1000) (hgw : ∀ x ∈ R, ∀ y ∈ x.gs, (Lit.int .i64 y).wf = true) :
    Calls Try.prog 53 #[.pointer (some ⟨q, 0, none⟩), .int .i64 n, .int .i64 g] w fun e w' => e = .returned (.int .i64 (joinA (R.map RE.a) n g).1) ∧ AtRm w w' q s R (joinA (R.map RE.a) n g).2 := by
  have hat := r_at w q s R n h (by omega)
  have c0 := h.c0
  unfold joinA
  cases hg : groupB g with
  | false =>
    have HG := Lib.hid hg
    simp only [if_true]
    rcases idx_parts R n with ⟨h1, h2⟩ | ⟨i, hi, h1, h2, h3⟩
    all_goals
      rw [h1] at hat
      clear h1 h2 hg
      go_enter Try.func53, Try.ntmps53
      go_wp2_with fail
      refine (hat).mono ?_
      rintro e w' ⟨rfl, rfl⟩
      go_wp2_with fail
      refine (r_group g _).mono ?_
      rintro e w' ⟨rfl, rfl⟩
      rw [HG.out]
      go_wp2
      go_ret
      exact ⟨rfl, AtRm.same h (Fr.refl _ _)⟩
  | true =>
    have HG := Lib.hid hg
    simp only [Bool.true_eq_false, if_false]
    rcases idx_parts R n with ⟨h1, h2⟩ | ⟨i, hi, h1, h2, h3⟩
    · rw [look_ra, h2]
      rw [h1] at hat
      simp only [Option.map_none]
      clear h1 h2 hg
      go_enter Try.func53, Try.ntmps53
      go_wp2_with fail
      refine (hat).mono ?_
      rintro e w' ⟨rfl, rfl⟩
      go_wp2_with fail
      refine (r_group g _).mono ?_
      rintro e w' ⟨rfl, rfl⟩
      rw [HG.out]
      go_wp2
      go_ret
      exact ⟨rfl, AtRm.same h (Fr.refl _ _)⟩
    · rw [look_setk hi h2]
      rw [h1] at hat
      have hxm : R[i] ∈ R := List.getElem_mem hi
      have hgx := h.grp _ hxm
      have hgl' := hgl _ hxm
      have hgw' := hgw _ hxm
      obtain ⟨b, hA, u1, u2, u3⟩ := h.at_ i hi
      rw [hA] at c0
      have HSET := fun (f : List Int → List Int) (y : RE) (e1 : y.k = R[i].k) (e2 : y.cls = R[i].cls) (e3 : y.gs = f R[i].gs) => nod_set hnd hi f e1 e2 e3
      have HS2 := Lib.hid HSET
      have HRG := Lib.hid fun (w1 : World) (f : Fr [] w w1) (s2 : Sl) (gs' : List Int) (ho : w1.ownsRow w.heap.size 3 1 s2.v gs'.length (gs'.map (Value.int .i64))) (hw : ∀ x ∈ gs', (Lit.int .i64 x).wf = true) (RA : List AE) (hRA : (R.set i ⟨R[i].k, R[i].cls, gs', s2⟩).map RE.a = RA) => h.regroup f hi hA ho hw hRA
      obtain ⟨x, hx⟩ : ∃ x, R[i] = x := ⟨_, rfl⟩
      rw [hx] at u1 u2 u3 hgx hgl' hgw' h3 HS2 HRG
      simp only [hx, RE.a]
      clear hx hxm h1 h2 HSET hg
      have HGX := Lib.hid hgx
      cases hc : x.gs.contains g with
      | true =>
        have HC := Lib.hid hc
        simp only [if_true]
        clear hc
        go_enter Try.func53, Try.ntmps53
        go_wp2_with fail
        refine (hat).mono ?_
        rintro e w' ⟨rfl, rfl⟩
        go_wp2_with fail
        refine (r_group g _).mono ?_
        rintro e w' ⟨rfl, rfl⟩
        rw [HG.out]
        go_wp2_with fail
        refine (r_in _ x.g x.gs g hgx (by omega)).mono ?_
        rintro e w' ⟨rfl, rfl⟩
        rw [HC.out]
        go_wp2
        go_ret
        exact ⟨rfl, AtRm.same h (Fr.refl _ _)⟩
      | false =>
        have HC := Lib.hid hc
        simp only [Bool.false_eq_true, if_false]
        have HW := Lib.hid (show ∀ y ∈ x.gs ++ [g], (Lit.int .i64 y).wf = true from fun y hy => by
          rcases List.mem_append.1 hy with hy | hy
          · exact hgw' y hy
          · simp at hy; subst hy
            have := HG.out
            unfold groupB at this
            simp [Lit.wf, IntKind.min, IntKind.max, IntKind.signed, IntKind.bits] at this ⊢
            try omega)
        have k0 : ∀ wx, Fr [] w wx → wx.cell? ⟨q, 0, none⟩ = some (.slice (some ⟨b, 0, none⟩) R.length s.c) := fun wx hf => hf.cell c0 (by simp)
        have kg : ∀ wx, Fr [] w wx → wx.cell? ⟨b, i * 3 + 2, none⟩ = some (.slice x.g.A x.g.n x.g.c) := fun wx hf => hf.cell u3 (by simp)
        have di : decide ((i : Int) < (R.length : Int)) = true := by simp; omega
        have dn : decide ((i : Int) < 0) = false := by simp
        obtain ⟨ji, j0, j1, j2, j3⟩ := info_parts (show (Try.prog.info? 3).map (fun i => (i.zero, i.size, i.bytes)) = some (some (.int .i64 0), 1, 8) by kernel_rfl)
        have ju : Try.prog.underlying 53 = some (.slice 3) := Try.underlying53
        clear hc hgw' hgw hgl
        go_enter Try.func53, Try.ntmps53
        go_wp2_with fail
        refine (hat).mono ?_
        rintro e w' ⟨rfl, rfl⟩
        go_wp2_with fail
        refine (r_group g _).mono ?_
        rintro e w' ⟨rfl, rfl⟩
        rw [HG.out]
        go_wp2_with fail
        refine (r_in _ x.g x.gs g hgx (by omega)).mono ?_
        rintro e w' ⟨rfl, rfl⟩
        rw [HC.out]
        clear hat c0 hgx u1 u2 u3
        go_wp2
        refine wp_region_keepsC [] [false, false, false, false, false, false, false, false, false, false, false, false, false, false, false, false, false, true] [none, none, none, none, none, some 14, none, none, none, none, none, none, none, none, some 17, none, some 17, some 18] (fun _ => True) [Is (.pointer (some ⟨q, 0, none⟩)), Is (.pointer (some ⟨q, 0, none⟩)), Is (.pointer (some ⟨q, 0, none⟩)), Is (.slice (some ⟨b, 0, none⟩) R.length s.c), Is (.int .i64 (i : Int)), (Bare w.heap.size 3 1), Is (.pointer (some ⟨q, 0, none⟩)), Is (.pointer (some ⟨q, 0, none⟩)), Is (.pointer (some ⟨q, 0, none⟩)), Is (.slice (some ⟨b, 0, none⟩) R.length s.c), Is (.int .i64 (i : Int)), Is (.pointer (some ⟨b, i * 3, none⟩)), Is (.pointer (some ⟨b, i * 3 + 2, none⟩)), Is (.slice x.g.A x.g.n x.g.c), (Own w.heap.size 3 1 x.gs.length (x.gs.map (Value.int .i64))), Is (.int .i64 g), (Src 1 [.int .i64 g]), (Own w.heap.size 3 1 (x.gs.length + 1) (x.gs.map (Value.int .i64) ++ [.int .i64 g]))] 18 (by kernel_rfl) (by kernel_rfl) (by kernel_rfl) (by kernel_rfl) (by kernel_rfl) (by kernel_rfl) (by kernel_rfl) (by kernel_rfl) ?hV (fun _ _ _ h => h) trivial ?hS ?hD
        case hV =>
          repeat (first | exact trivial | exact Is.keepsN _ | exact Any.keepsN | exact Bare.keeps | exact Own.keeps | exact Src.keeps | refine And.intro ?_ ?_)
        case hS =>
          (repeat' (first | exact trivial | refine And.intro ?_ ?_))
          · intro ac wx hf hbs hs hp K hK
            simp only [waits, holdsA, nth, Is, Any, List.filter_cons, List.filter_nil, List.map_cons, List.map_nil, Region.binds, if_true, true_and, and_true, Nat.reduceAdd, List.getElem?_cons_zero, List.getElem?_cons_succ, Option.bind_some, Array.getD_eq_getD_getElem?] at hp
            have hs0 := hs 0 (by kernel_rfl)
            simp only [Array.getD_eq_getD_getElem?, List.getElem?_toArray, List.getElem?_cons_succ, List.getElem?_cons_zero, Option.getD_some] at hs0
            clear hs
            clear hf hbs
            (try simp only [hp])
            go_simp
            try dsimp only
            refine hK.out _ _ ?_ ?_
            · change Fr [] _ _
              ((repeat (first | (with_reducible exact Fr.refl _ _) | (with_reducible assumption) | (with_reducible refine Fr.drew ?_) | (with_reducible refine Fr.drewN ?_ _) | (with_reducible refine Fr.alloc ?_ _) | (with_reducible refine Fr.setL ?_ _ _ _ ?_) | (focus (refine Or.inl ?_; simp; done)) | (focus (refine Or.inr ?_; simp; done)) | (focus (refine Or.inr ?_; simp; omega)) | (focus (refine Or.inr ?_; omega)))); done)
            · simp only [nth]
              first | (unfold Is; rfl) | (unfold Any; exact trivial) | exact IsSl.new _ _ _ _ | assumption
          · intro ac wx hf hbs hs hp K hK
            simp only [waits, holdsA, nth, Is, Any, List.filter_cons, List.filter_nil, List.map_cons, List.map_nil, Region.binds, if_true, true_and, and_true, Nat.reduceAdd, List.getElem?_cons_zero, List.getElem?_cons_succ, Option.bind_some, Array.getD_eq_getD_getElem?] at hp
            clear hs
            clear hf hbs
            (try simp only [hp])
            go_simp
            try dsimp only
            refine hK.out _ _ ?_ ?_
            · change Fr [] _ _
              ((repeat (first | (with_reducible exact Fr.refl _ _) | (with_reducible assumption) | (with_reducible refine Fr.drew ?_) | (with_reducible refine Fr.drewN ?_ _) | (with_reducible refine Fr.alloc ?_ _) | (with_reducible refine Fr.setL ?_ _ _ _ ?_) | (focus (refine Or.inl ?_; simp; done)) | (focus (refine Or.inr ?_; simp; done)) | (focus (refine Or.inr ?_; simp; omega)) | (focus (refine Or.inr ?_; omega)))); done)
            · simp only [nth]
              first | (unfold Is; rfl) | (unfold Any; exact trivial) | exact IsSl.new _ _ _ _ | assumption
          · intro ac wx hf hbs hs hp K hK
            simp only [waits, holdsA, nth, Is, Any, List.filter_cons, List.filter_nil, List.map_cons, List.map_nil, Region.binds, if_true, true_and, and_true, Nat.reduceAdd, List.getElem?_cons_zero, List.getElem?_cons_succ, Option.bind_some, Array.getD_eq_getD_getElem?] at hp
            clear hs
            clear hf hbs
            (try simp only [hp])
            go_simp
            try dsimp only
            refine hK.out _ _ ?_ ?_
            · change Fr [] _ _
              ((repeat (first | (with_reducible exact Fr.refl _ _) | (with_reducible assumption) | (with_reducible refine Fr.drew ?_) | (with_reducible refine Fr.drewN ?_ _) | (with_reducible refine Fr.alloc ?_ _) | (with_reducible refine Fr.setL ?_ _ _ _ ?_) | (focus (refine Or.inl ?_; simp; done)) | (focus (refine Or.inr ?_; simp; done)) | (focus (refine Or.inr ?_; simp; omega)) | (focus (refine Or.inr ?_; omega)))); done)
            · simp only [nth]
              first | (unfold Is; rfl) | (unfold Any; exact trivial) | exact IsSl.new _ _ _ _ | assumption
          · intro ac wx hf hbs hs hp K hK
            simp only [waits, holdsA, nth, Is, Any, List.filter_cons, List.filter_nil, List.map_cons, List.map_nil, Region.binds, if_true, true_and, and_true, Nat.reduceAdd, List.getElem?_cons_zero, List.getElem?_cons_succ, Option.bind_some, Array.getD_eq_getD_getElem?] at hp
            clear hs
            clear hbs
            have cx := k0 wx hf
            clear hf
            (try simp only [hp])
            go_simp
            try dsimp only
            refine hK.out _ _ ?_ ?_
            · change Fr [] _ _
              ((repeat (first | (with_reducible exact Fr.refl _ _) | (with_reducible assumption) | (with_reducible refine Fr.drew ?_) | (with_reducible refine Fr.drewN ?_ _) | (with_reducible refine Fr.alloc ?_ _) | (with_reducible refine Fr.setL ?_ _ _ _ ?_) | (focus (refine Or.inl ?_; simp; done)) | (focus (refine Or.inr ?_; simp; done)) | (focus (refine Or.inr ?_; simp; omega)) | (focus (refine Or.inr ?_; omega)))); done)
            · simp only [nth]
              first | (unfold Is; rfl) | (unfold Any; exact trivial) | exact IsSl.new _ _ _ _ | assumption
          · intro ac wx hf hbs hs hp K hK
            simp only [waits, holdsA, nth, Is, Any, List.filter_cons, List.filter_nil, List.map_cons, List.map_nil, Region.binds, if_true, true_and, and_true, Nat.reduceAdd, List.getElem?_cons_zero, List.getElem?_cons_succ, Option.bind_some, Array.getD_eq_getD_getElem?] at hp
            have hs7 := hs 7 (by kernel_rfl)
            simp only [Array.getD_eq_getD_getElem?, List.getElem?_toArray, List.getElem?_cons_succ, List.getElem?_cons_zero, Option.getD_some] at hs7
            clear hs
            clear hf hbs
            (try simp only [hp])
            go_simp
            try dsimp only
            refine hK.out _ _ ?_ ?_
            · change Fr [] _ _
              ((repeat (first | (with_reducible exact Fr.refl _ _) | (with_reducible assumption) | (with_reducible refine Fr.drew ?_) | (with_reducible refine Fr.drewN ?_ _) | (with_reducible refine Fr.alloc ?_ _) | (with_reducible refine Fr.setL ?_ _ _ _ ?_) | (focus (refine Or.inl ?_; simp; done)) | (focus (refine Or.inr ?_; simp; done)) | (focus (refine Or.inr ?_; simp; omega)) | (focus (refine Or.inr ?_; omega)))); done)
            · simp only [nth]
              first | (unfold Is; rfl) | (unfold Any; exact trivial) | exact IsSl.new _ _ _ _ | assumption
          · intro ac wx hf hbs hs hp K hK
            simp only [waits, holdsA, nth, Is, Any, List.filter_cons, List.filter_nil, List.map_cons, List.map_nil, Region.binds, if_true, true_and, and_true, Nat.reduceAdd, List.getElem?_cons_zero, List.getElem?_cons_succ, Option.bind_some, Array.getD_eq_getD_getElem?] at hp
            clear hs
            clear hbs
            have hsz := hf.size
            (try simp only [hp])
            go_simp
            refine hK.out _ _ ?_ ?_
            · change Fr [] _ _
              exact (Fr.refl _ _).alloc _
            · simp only [nth]
              exact Bare.new _ _ hsz
          · intro ac wx hf hbs hs hp K hK
            simp only [waits, holdsA, nth, Is, Any, List.filter_cons, List.filter_nil, List.map_cons, List.map_nil, Region.binds, if_true, true_and, and_true, Nat.reduceAdd, List.getElem?_cons_zero, List.getElem?_cons_succ, Option.bind_some, Array.getD_eq_getD_getElem?] at hp
            have hs0 := hs 0 (by kernel_rfl)
            simp only [Array.getD_eq_getD_getElem?, List.getElem?_toArray, List.getElem?_cons_succ, List.getElem?_cons_zero, Option.getD_some] at hs0
            clear hs
            clear hf hbs
            (try simp only [hp])
            go_simp
            try dsimp only
            refine hK.out _ _ ?_ ?_
            · change Fr [] _ _
              ((repeat (first | (with_reducible exact Fr.refl _ _) | (with_reducible assumption) | (with_reducible refine Fr.drew ?_) | (with_reducible refine Fr.drewN ?_ _) | (with_reducible refine Fr.alloc ?_ _) | (with_reducible refine Fr.setL ?_ _ _ _ ?_) | (focus (refine Or.inl ?_; simp; done)) | (focus (refine Or.inr ?_; simp; done)) | (focus (refine Or.inr ?_; simp; omega)) | (focus (refine Or.inr ?_; omega)))); done)
            · simp only [nth]
              first | (unfold Is; rfl) | (unfold Any; exact trivial) | exact IsSl.new _ _ _ _ | assumption
          · intro ac wx hf hbs hs hp K hK
            simp only [waits, holdsA, nth, Is, Any, List.filter_cons, List.filter_nil, List.map_cons, List.map_nil, Region.binds, if_true, true_and, and_true, Nat.reduceAdd, List.getElem?_cons_zero, List.getElem?_cons_succ, Option.bind_some, Array.getD_eq_getD_getElem?] at hp
            clear hs
            clear hf hbs
            (try simp only [hp])
            go_simp
            try dsimp only
            refine hK.out _ _ ?_ ?_
            · change Fr [] _ _
              ((repeat (first | (with_reducible exact Fr.refl _ _) | (with_reducible assumption) | (with_reducible refine Fr.drew ?_) | (with_reducible refine Fr.drewN ?_ _) | (with_reducible refine Fr.alloc ?_ _) | (with_reducible refine Fr.setL ?_ _ _ _ ?_) | (focus (refine Or.inl ?_; simp; done)) | (focus (refine Or.inr ?_; simp; done)) | (focus (refine Or.inr ?_; simp; omega)) | (focus (refine Or.inr ?_; omega)))); done)
            · simp only [nth]
              first | (unfold Is; rfl) | (unfold Any; exact trivial) | exact IsSl.new _ _ _ _ | assumption
          · intro ac wx hf hbs hs hp K hK
            simp only [waits, holdsA, nth, Is, Any, List.filter_cons, List.filter_nil, List.map_cons, List.map_nil, Region.binds, if_true, true_and, and_true, Nat.reduceAdd, List.getElem?_cons_zero, List.getElem?_cons_succ, Option.bind_some, Array.getD_eq_getD_getElem?] at hp
            clear hs
            clear hf hbs
            (try simp only [hp])
            go_simp
            try dsimp only
            refine hK.out _ _ ?_ ?_
            · change Fr [] _ _
              ((repeat (first | (with_reducible exact Fr.refl _ _) | (with_reducible assumption) | (with_reducible refine Fr.drew ?_) | (with_reducible refine Fr.drewN ?_ _) | (with_reducible refine Fr.alloc ?_ _) | (with_reducible refine Fr.setL ?_ _ _ _ ?_) | (focus (refine Or.inl ?_; simp; done)) | (focus (refine Or.inr ?_; simp; done)) | (focus (refine Or.inr ?_; simp; omega)) | (focus (refine Or.inr ?_; omega)))); done)
            · simp only [nth]
              first | (unfold Is; rfl) | (unfold Any; exact trivial) | exact IsSl.new _ _ _ _ | assumption
          · intro ac wx hf hbs hs hp K hK
            simp only [waits, holdsA, nth, Is, Any, List.filter_cons, List.filter_nil, List.map_cons, List.map_nil, Region.binds, if_true, true_and, and_true, Nat.reduceAdd, List.getElem?_cons_zero, List.getElem?_cons_succ, Option.bind_some, Array.getD_eq_getD_getElem?] at hp
            clear hs
            clear hbs
            have cx := k0 wx hf
            clear hf
            (try simp only [hp])
            go_simp
            try dsimp only
            refine hK.out _ _ ?_ ?_
            · change Fr [] _ _
              ((repeat (first | (with_reducible exact Fr.refl _ _) | (with_reducible assumption) | (with_reducible refine Fr.drew ?_) | (with_reducible refine Fr.drewN ?_ _) | (with_reducible refine Fr.alloc ?_ _) | (with_reducible refine Fr.setL ?_ _ _ _ ?_) | (focus (refine Or.inl ?_; simp; done)) | (focus (refine Or.inr ?_; simp; done)) | (focus (refine Or.inr ?_; simp; omega)) | (focus (refine Or.inr ?_; omega)))); done)
            · simp only [nth]
              first | (unfold Is; rfl) | (unfold Any; exact trivial) | exact IsSl.new _ _ _ _ | assumption
          · intro ac wx hf hbs hs hp K hK
            simp only [waits, holdsA, nth, Is, Any, List.filter_cons, List.filter_nil, List.map_cons, List.map_nil, Region.binds, if_true, true_and, and_true, Nat.reduceAdd, List.getElem?_cons_zero, List.getElem?_cons_succ, Option.bind_some, Array.getD_eq_getD_getElem?] at hp
            have hs7 := hs 7 (by kernel_rfl)
            simp only [Array.getD_eq_getD_getElem?, List.getElem?_toArray, List.getElem?_cons_succ, List.getElem?_cons_zero, Option.getD_some] at hs7
            clear hs
            clear hf hbs
            (try simp only [hp])
            go_simp
            try dsimp only
            refine hK.out _ _ ?_ ?_
            · change Fr [] _ _
              ((repeat (first | (with_reducible exact Fr.refl _ _) | (with_reducible assumption) | (with_reducible refine Fr.drew ?_) | (with_reducible refine Fr.drewN ?_ _) | (with_reducible refine Fr.alloc ?_ _) | (with_reducible refine Fr.setL ?_ _ _ _ ?_) | (focus (refine Or.inl ?_; simp; done)) | (focus (refine Or.inr ?_; simp; done)) | (focus (refine Or.inr ?_; simp; omega)) | (focus (refine Or.inr ?_; omega)))); done)
            · simp only [nth]
              first | (unfold Is; rfl) | (unfold Any; exact trivial) | exact IsSl.new _ _ _ _ | assumption
          · intro ac wx hf hbs hs hp K hK
            simp only [waits, holdsA, nth, Is, Any, List.filter_cons, List.filter_nil, List.map_cons, List.map_nil, Region.binds, if_true, true_and, and_true, Nat.reduceAdd, List.getElem?_cons_zero, List.getElem?_cons_succ, Option.bind_some, Array.getD_eq_getD_getElem?] at hp
            clear hs
            clear hf hbs
            (try simp only [hp])
            go_simp
            try dsimp only
            refine hK.out _ _ ?_ ?_
            · change Fr [] _ _
              ((repeat (first | (with_reducible exact Fr.refl _ _) | (with_reducible assumption) | (with_reducible refine Fr.drew ?_) | (with_reducible refine Fr.drewN ?_ _) | (with_reducible refine Fr.alloc ?_ _) | (with_reducible refine Fr.setL ?_ _ _ _ ?_) | (focus (refine Or.inl ?_; simp; done)) | (focus (refine Or.inr ?_; simp; done)) | (focus (refine Or.inr ?_; simp; omega)) | (focus (refine Or.inr ?_; omega)))); done)
            · simp only [nth]
              first | (unfold Is; rfl) | (unfold Any; exact trivial) | exact IsSl.new _ _ _ _ | assumption
          · intro ac wx hf hbs hs hp K hK
            simp only [waits, holdsA, nth, Is, Any, List.filter_cons, List.filter_nil, List.map_cons, List.map_nil, Region.binds, if_true, true_and, and_true, Nat.reduceAdd, List.getElem?_cons_zero, List.getElem?_cons_succ, Option.bind_some, Array.getD_eq_getD_getElem?] at hp
            clear hs
            clear hf hbs
            (try simp only [hp])
            go_simp
            try dsimp only
            refine hK.out _ _ ?_ ?_
            · change Fr [] _ _
              ((repeat (first | (with_reducible exact Fr.refl _ _) | (with_reducible assumption) | (with_reducible refine Fr.drew ?_) | (with_reducible refine Fr.drewN ?_ _) | (with_reducible refine Fr.alloc ?_ _) | (with_reducible refine Fr.setL ?_ _ _ _ ?_) | (focus (refine Or.inl ?_; simp; done)) | (focus (refine Or.inr ?_; simp; done)) | (focus (refine Or.inr ?_; simp; omega)) | (focus (refine Or.inr ?_; omega)))); done)
            · simp only [nth]
              first | (unfold Is; rfl) | (unfold Any; exact trivial) | exact IsSl.new _ _ _ _ | assumption
          · intro ac wx hf hbs hs hp K hK
            simp only [waits, holdsA, nth, Is, Any, List.filter_cons, List.filter_nil, List.map_cons, List.map_nil, Region.binds, if_true, true_and, and_true, Nat.reduceAdd, List.getElem?_cons_zero, List.getElem?_cons_succ, Option.bind_some, Array.getD_eq_getD_getElem?] at hp
            clear hs
            clear hbs
            have cx := kg wx hf
            clear hf
            (try simp only [hp])
            go_simp
            try dsimp only
            refine hK.out _ _ ?_ ?_
            · change Fr [] _ _
              ((repeat (first | (with_reducible exact Fr.refl _ _) | (with_reducible assumption) | (with_reducible refine Fr.drew ?_) | (with_reducible refine Fr.drewN ?_ _) | (with_reducible refine Fr.alloc ?_ _) | (with_reducible refine Fr.setL ?_ _ _ _ ?_) | (focus (refine Or.inl ?_; simp; done)) | (focus (refine Or.inr ?_; simp; done)) | (focus (refine Or.inr ?_; simp; omega)) | (focus (refine Or.inr ?_; omega)))); done)
            · simp only [nth]
              first | (unfold Is; rfl) | (unfold Any; exact trivial) | exact IsSl.new _ _ _ _ | assumption
          · intro ac wx hf hbs hs hp K hK
            simp only [waits, holdsA, nth, Is, Any, List.filter_cons, List.filter_nil, List.map_cons, List.map_nil, Region.binds, if_true, true_and, and_true, Nat.reduceAdd, List.getElem?_cons_zero, List.getElem?_cons_succ, Option.bind_some, Array.getD_eq_getD_getElem?] at hp
            clear hs
            clear hbs
            have hsz := hf.size
            have hb0 := hp.1
            have hs0 := (by rw [hp.2]; exact Src.ints (HGX.out.fr hf) : Src x.gs.length (x.gs.map (Value.int .i64)) wx (ac.tmps[42]?.getD undef))
            refine Eq.mpr (if_pos (by rfl)) ?_
            refine wp_append_bare (.tmp 34) (.tmp 42) 53 rfl (w.heap.size) 3 ji (.int .i64 0) 1 8 ju j0 j1 j2 j3 rfl (by decide) _ (eval_tmp _ _) hb0 _ (x.gs.length) (x.gs.map (Value.int .i64)) (eval_tmp _ _) hs0 (by simp) (ints_one) (by unfold maxLen; omega) (by omega) hsz ?_
            intro v' w' ho' fz
            refine hK.out _ _ ?_ ?_
            · change Fr [] _ _
              exact fz
            · simp only [nth]
              exact ho'
          · intro ac wx hf hbs hs hp K hK
            simp only [waits, holdsA, nth, Is, Any, List.filter_cons, List.filter_nil, List.map_cons, List.map_nil, Region.binds, if_true, true_and, and_true, Nat.reduceAdd, List.getElem?_cons_zero, List.getElem?_cons_succ, Option.bind_some, Array.getD_eq_getD_getElem?] at hp
            have hs2 := hs 2 (by kernel_rfl)
            simp only [Array.getD_eq_getD_getElem?, List.getElem?_toArray, List.getElem?_cons_succ, List.getElem?_cons_zero, Option.getD_some] at hs2
            clear hs
            clear hf hbs
            (try simp only [hp])
            go_simp
            try dsimp only
            refine hK.out _ _ ?_ ?_
            · change Fr [] _ _
              ((repeat (first | (with_reducible exact Fr.refl _ _) | (with_reducible assumption) | (with_reducible refine Fr.drew ?_) | (with_reducible refine Fr.drewN ?_ _) | (with_reducible refine Fr.alloc ?_ _) | (with_reducible refine Fr.setL ?_ _ _ _ ?_) | (focus (refine Or.inl ?_; simp; done)) | (focus (refine Or.inr ?_; simp; done)) | (focus (refine Or.inr ?_; simp; omega)) | (focus (refine Or.inr ?_; omega)))); done)
            · simp only [nth]
              first | (unfold Is; rfl) | (unfold Any; exact trivial) | exact IsSl.new _ _ _ _ | assumption
          · intro ac wx hf hbs hs hp K hK
            simp only [waits, holdsA, nth, Is, Any, List.filter_cons, List.filter_nil, List.map_cons, List.map_nil, Region.binds, if_true, true_and, and_true, Nat.reduceAdd, List.getElem?_cons_zero, List.getElem?_cons_succ, Option.bind_some, Array.getD_eq_getD_getElem?] at hp
            clear hs
            clear hbs
            clear hf
            (try simp only [hp])
            go_simp
            refine hK.out _ _ ?_ ?_
            · change Fr [] _ _
              exact (Fr.refl _ _).alloc _
            · simp only [nth]
              exact Src.one
          · intro ac wx hf hbs hs hp K hK
            simp only [waits, holdsA, nth, Is, Any, List.filter_cons, List.filter_nil, List.map_cons, List.map_nil, Region.binds, if_true, true_and, and_true, Nat.reduceAdd, List.getElem?_cons_zero, List.getElem?_cons_succ, Option.bind_some, Array.getD_eq_getD_getElem?] at hp
            clear hs
            clear hbs
            have hsz := hf.size
            have ho0 := hp.1
            have hs0 := hp.2.1
            refine Eq.mpr (if_pos (by rfl)) ?_
            refine wp_append_src (.tmp 43) (.tmp 45) 53 rfl (w.heap.size) 3 ji (.int .i64 0) 1 8 ju j0 j1 j2 j3 rfl (by decide) _ (x.gs.length) _ (eval_tmp _ _) ho0 _ (1) ([.int .i64 g]) (eval_tmp _ _) hs0 (rfl) (by intro u hu; simp at hu; subst hu; rfl) (by unfold maxLen; omega) (by omega) hsz ?_
            intro v' w' ho' hg'
            refine hK.out _ _ ?_ ?_
            · exact stC_grown hg' (fun k hk => .inr (World.ownsRow.lt ho0 k hk).1)
            · simp only [nth]
              exact ho'
        case hD =>
          intro xv wx hf hp
          simp only [List.take_succ_cons, List.take_zero, List.drop_succ_cons, List.drop_zero, fill, List.setIfInBounds_toArray, List.set_cons_zero, List.set_cons_succ, Nat.reduceAdd, Act.put]
          rw [show live 18 (deadC [none, none, none, none, none, some 14, none, none, none, none, none, none, none, none, some 17, none, some 17, some 18]) = [0, 1, 2, 3, 4, 6, 7, 8, 9, 10, 11, 12, 13, 15, 17] from by decide] at hp
          simp only [holds, nth, Is, Any, true_and, and_true] at hp
          obtain ⟨p0, p1, p2, p3, p4, p6, p7, p8, p9, p10, p11, p12, p13, p15, p17⟩ := hp
          obtain ⟨s2, hs2⟩ := own_sl p17
          rw [hs2] at p17
          have hfin := HRG.out wx hf s2 (x.gs ++ [g]) (by simpa [Own] using p17) HW.out _ (HS2.out (· ++ [g]) _ rfl rfl rfl)
          rw [h3] at hfin
          have HFIN := Lib.hid hfin
          have z1 : wx.frozen? ⟨b, i * 3 + 2, none⟩ = false := (h.fr0 hf).frz hA _
          have c1 := hf.cell h.c0 (by simp)
          have cg := kg wx hf
          simp only [p3, p4, hs2]
          clear p0 p1 p2 p3 p4 p6 p7 p8 p9 p10 p11 p12 p13 p15 p17 hfin hf k0 kg
          go_wp2
          go_ret
          exact ⟨rfl, HFIN.out⟩

set_option maxHeartbeats 1000000 in
theorem r_Leave (w : World) (q : Nat) (s : Sl) (R : List RE) (n g : Int) (h : IsR w q s R) (hs16 : R.length ≤ 16) (hnd : (R.map (·.k)).Nodup) (hgl : ∀ x ∈ R, x.gs.length ≤ 1000) (hgw : ∀ x ∈ R, ∀ y ∈ x.gs, (Lit.int .i64 y).wf = true) :
    Calls Try.prog 55 #[.pointer (some ⟨q, 0, none⟩), .int .i64 n, .int .i64 g] w fun e w' => e = .returned (.int .i64 (leaveA (R.map RE.a) n g).1) ∧ AtRm w w' q s R (leaveA (R.map RE.a) n g).2 := by
  have hat := r_at w q s R n h (by omega)
  have c0 := h.c0
  unfold leaveA
  cases hg : groupB g with
  | false =>
    have HG := Lib.hid hg
    simp only [if_true]
    rcases idx_parts R n with ⟨h1, h2⟩ | ⟨i, hi, h1, h2, h3⟩
    all_goals
      rw [h1] at hat
      clear h1 h2 hg
      go_enter Try.func55, Try.ntmps55
      go_wp2_with fail
      refine (hat).mono ?_
      rintro e w' ⟨rfl, rfl⟩
      go_wp2_with fail
      refine (r_group g _).mono ?_
      rintro e w' ⟨rfl, rfl⟩
      rw [HG.out]
      go_wp2
      go_ret
      exact ⟨rfl, AtRm.same h (Fr.refl _ _)⟩
  | true =>
    have HG := Lib.hid hg
    simp only [Bool.true_eq_false, if_false]
    rcases idx_parts R n with ⟨h1, h2⟩ | ⟨i, hi, h1, h2, h3⟩
    · rw [look_ra, h2]
      rw [h1] at hat
      simp only [Option.map_none]
      clear h1 h2 hg
      go_enter Try.func55, Try.ntmps55
      go_wp2_with fail
      refine (hat).mono ?_
      rintro e w' ⟨rfl, rfl⟩
      go_wp2_with fail
      refine (r_group g _).mono ?_
      rintro e w' ⟨rfl, rfl⟩
      rw [HG.out]
      go_wp2
      go_ret
      exact ⟨rfl, AtRm.same h (Fr.refl _ _)⟩
    · rw [look_setk hi h2]
      rw [h1] at hat
      have hxm : R[i] ∈ R := List.getElem_mem hi
      have hgx := h.grp _ hxm
      have hgl' := hgl _ hxm
      have hgw' := hgw _ hxm
      obtain ⟨b, hA, u1, u2, u3⟩ := h.at_ i hi
      rw [hA] at c0
      have HSET := fun (f : List Int → List Int) (y : RE) (e1 : y.k = R[i].k) (e2 : y.cls = R[i].cls) (e3 : y.gs = f R[i].gs) => nod_set hnd hi f e1 e2 e3
      have HS2 := Lib.hid HSET
      have HRG := Lib.hid fun (w1 : World) (f : Fr [] w w1) (s2 : Sl) (gs' : List Int) (ho : w1.ownsRow w.heap.size 3 1 s2.v gs'.length (gs'.map (Value.int .i64))) (hw : ∀ x ∈ gs', (Lit.int .i64 x).wf = true) (RA : List AE) (hRA : (R.set i ⟨R[i].k, R[i].cls, gs', s2⟩).map RE.a = RA) => h.regroup f hi hA ho hw hRA
      obtain ⟨x, hx⟩ : ∃ x, R[i] = x := ⟨_, rfl⟩
      rw [hx] at u1 u2 u3 hgx hgl' hgw' h3 HS2 HRG
      simp only [hx, RE.a]
      have dn : decide ((i : Int) < 0) = false := by simp
      have di : decide ((i : Int) < (R.length : Int)) = true := by simp; omega
      clear hx hxm h1 h2 HSET hg
      have HGX := Lib.hid hgx
      cases hc : x.gs.contains g with
      | false =>
        have HC := Lib.hid hc
        simp only [Bool.false_eq_true, if_false]
        clear hc
        go_enter Try.func55, Try.ntmps55
        go_wp2_with fail
        refine (hat).mono ?_
        rintro e w' ⟨rfl, rfl⟩
        go_wp2_with fail
        refine (r_group g _).mono ?_
        rintro e w' ⟨rfl, rfl⟩
        rw [HG.out]
        go_wp2_with fail
        refine (r_in _ x.g x.gs g hgx (by omega)).mono ?_
        rintro e w' ⟨rfl, rfl⟩
        rw [HC.out]
        go_wp2
        go_ret
        exact ⟨rfl, AtRm.same h (Fr.refl _ _)⟩
      | true =>
        have HC := Lib.hid hc
        simp only [if_true]
        have HW2 := Lib.hid (show ∀ y ∈ x.gs.filter (· != g), (Lit.int .i64 y).wf = true from fun y hy => hgw' y (List.mem_filter.1 hy).1)
        obtain ⟨ji, j0, j1, j2, j3⟩ := info_parts (show (Try.prog.info? 3).map (fun i => (i.zero, i.size, i.bytes)) = some (some (.int .i64 0), 1, 8) by kernel_rfl)
        have ju : Try.prog.underlying 53 = some (.slice 3) := Try.underlying53
        clear hc hgw' hgw hgl
        go_enter Try.func55, Try.ntmps55
        go_wp2_with fail
        refine (hat).mono ?_
        rintro e w' ⟨rfl, rfl⟩
        go_wp2_with fail
        refine (r_group g _).mono ?_
        rintro e w' ⟨rfl, rfl⟩
        rw [HG.out]
        go_wp2_with fail
        refine (r_in _ x.g x.gs g hgx (by omega)).mono ?_
        rintro e w' ⟨rfl, rfl⟩
        rw [HC.out]
        clear hat
        rw [hgx.n_] at u3
        go_wp2
        go_loopw [8, 9] (fun v j wr => ∃ k : Nat, j = .int .i64 k ∧ k ≤ x.gs.length ∧ Fr [] w wr ∧ wr.ownsRow w.heap.size 3 1 v ((x.gs.take k).filter (· != g)).length (((x.gs.take k).filter (· != g)).map (Value.int .i64))) (fun _ j _ => x.gs.length - (intOf j).toNat)
        case atStart => exact ⟨0, rfl, by omega, Fr.refl _ _, World.ownsRow_nil _ _ _ _⟩
        case round =>
          obtain ⟨k, rfl, hk, hf, hown⟩ := hrel
          have hsz := hf.size
          have e0 := hf.cell c0 (by simp)
          have e3 := hf.cell u3 (by simp)
          have hlen : ((x.gs.take k).filter (· != g)).length ≤ k := Nat.le_trans (List.length_filter_le _ _) (List.length_take_le _ _)
          by_cases hlt : k < x.gs.length
          · obtain ⟨b', o', hB, c1⟩ := (HGX.out.fr hf).at_ k hlt
            rw [hB] at e3
            have htk : x.gs.take (k + 1) = x.gs.take k ++ [x.gs[k]] := List.take_succ_eq_append_getElem hlt
            obtain ⟨y, hy⟩ : ∃ y, x.gs[k] = y := ⟨_, rfl⟩
            rw [hy] at c1 htk
            by_cases he : y = g
            · have e1 : (y == g) = true := by simpa using he
              have e2 : (y != g) = false := by simpa using he
              have HW := Lib.hid (show (x.gs.take (k + 1)).filter (· != g) = (x.gs.take k).filter (· != g) by rw [htk, List.filter_append, List.filter_cons_of_neg (by simp [he])]; simp)
              clear hy htk he hB
              go_wp2
              go_roundw
              case rel => exact ⟨k + 1, by go_num, by omega, hf, by rw [HW.out]; exact hown⟩
              case measure => simp [intOf]; omega
            · have e1 : (y == g) = false := by simpa using he
              have e2 : (y != g) = true := by simpa using he
              have HW := Lib.hid (show (x.gs.take (k + 1)).filter (· != g) = (x.gs.take k).filter (· != g) ++ [y] by rw [htk, List.filter_append, List.filter_cons_of_pos (by simp [he])]; simp)
              clear hy htk he hB
              go_wp2_with (at_builtin; refine wpList_append_src rfl _ _ 53 rfl (w.heap.size) 3 ji (.int .i64 0) 1 8 ju j0 j1 j2 j3 rfl (by decide) _ _ _ rfl (hown.alloc _) _ 1 [.int .i64 y] rfl Src.one rfl (by intro u hu; simp at hu; subst hu; rfl) (by unfold maxLen; omega) (by omega) (by first | (simp; done) | (simp; omega)) ?_)
              intro v' w4 hown4 hgrow
              have f4 : Fr [] w w4 := (hf.alloc _).grown hgrow (fun k hk => .inr (hown.lt k hk).1)
              have hown5 : w4.ownsRow w.heap.size 3 1 v' ((x.gs.take (k + 1)).filter (· != g)).length (((x.gs.take (k + 1)).filter (· != g)).map (Value.int .i64)) := by rw [HW.out]; simpa using hown4
              go_wp2
              go_roundw
              case rel => exact ⟨k + 1, by go_num, by omega, f4, hown5⟩
              case measure => simp [intOf]; omega
          · have HT := Lib.hid (show x.gs.take k = x.gs from List.take_of_length_le (by omega))
            obtain ⟨s2, rfl⟩ := own_sl hown
            rw [HT.out] at hown
            have hfin := HRG.out wr hf s2 _ hown HW2.out _ (HS2.out (fun l => l.filter (· != g)) _ rfl rfl rfl)
            rw [h3] at hfin
            have HFIN := Lib.hid hfin
            have z1 : wr.frozen? ⟨b, i * 3 + 2, none⟩ = false := (h.fr0 hf).frz hA _
            clear hfin h3
            go_wp2
            go_ret
            exact ⟨rfl, by have h9 := HFIN.out; first | exact h9 | (rw [List.map_map] at h9; exact h9)⟩

end Go.Proofs.Ytgmpikaibeenmaa
