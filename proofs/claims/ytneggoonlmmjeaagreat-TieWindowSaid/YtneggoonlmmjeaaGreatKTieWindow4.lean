/- Lemmas: TieAc, MixP, TieAd, TieAe, TieAf, TieL, TieM, TieH, TieI, TieJ, TieR, TieBa, TieBb, TieBc, TieBd. No condition. -/
import Derived.Test.YtneggoonlmmjeaaGreatKTieElder3
import Derived.BigQuiet
namespace Go.Proofs.YtneggoonlmmjeaaGreat
open Go.RowKit Go.Shelf
set_option linter.unusedVariables false
set_option linter.unusedSimpArgs false
set_option maxRecDepth 100000

/-- What is taken. -/
theorem IsTie.setOk {w w1 : World} {v : TV} {m : TM} {s' : Sl} {l : List (List Int)} (h : IsTie w v m) (hr : BRow s' l w1) (f : Fr v.ok.blk w w1) (n : ∀ x ∈ s'.blk, x ∈ v.ok.blk ∨ w.heap.size ≤ x) : TieTo w (w1.setCell ⟨v.t, 32, none⟩ (.slice s'.A s'.n s'.c)) v { m with took := l } := by
  obtain ⟨ys, hok⟩ := h.ok.own
  have to : ∀ t, 49 ≠ t → TyOut w v.ok.blk t := fun t ne => TyOut.own hok ne
  have hf : ∀ x ∈ v.ok.blk, x ∈ v.foot := fun x hx => by simp [TV.foot, hx]
  have hn : ∀ x ∈ ({ v with ok := s' } : TV).foot, x ∈ v.foot ∨ w.heap.size ≤ x := fun x hx => by
    simp only [TV.foot, List.mem_cons, List.mem_append] at hx ⊢
    rcases hx with hx | hx | hx | hx | hx | hx | hx | hx | hx | hx
    any_goals (left; simp [hx]; done)
    rcases n x hx with h1 | h1
    · left; simp [h1]
    · exact .inr h1
  have hb : Blk w1 v.t (m.cells v) 105 := h.blk.ofTy f (to _ (by decide))
  have f2 : Fr [v.t] w1 (w1.setCell ⟨v.t, 32, none⟩ (.slice s'.A s'.n s'.c)) := (Fr.refl [v.t] w1).setCell _ (.inl (by simp))
  have t2 : ∀ t, 105 ≠ t → TyOut w1 [v.t] t := fun t ne => TyOut.cons hb ne (TyOut.nil _ _)
  have hbk : IsBack w1 v.k v.q v.ql 64 m.out m.q := h.back.ofTy f (to _ (by decide)) (to _ (by decide)) h.dis (to _ (by decide))
  have hos1 : PRow 0 0 v.os m.send w1 := h.os.ofTy f (to _ (by decide)) (to _ (by decide))
  have F : Fr v.foot w (w1.setCell ⟨v.t, 32, none⟩ (.slice s'.A s'.n s'.c)) := (fsub f hf).setCell _ (.inl v.t_foot)
  refine ⟨{ v with ok := s' }, ⟨Blk.set hb 32 _ rfl, ?_, (h.win.ofTy f (to _ (by decide))).ofTy f2 (t2 _ (by decide)), (h.clk.ofTy f (to _ (by decide)) (to _ (by decide))).ofTy f2 (t2 _ (by decide)) (t2 _ (by decide)), hos1.ofTy f2 (t2 _ (by decide)) (t2 _ (by decide)), own_ofTy (own_ofTy h.oy f (to _ (by decide))) f2 (t2 _ (by decide)), ?_, fun x hx hm => ?_, h.tab.fr F h.lohi, Nat.le_trans h.hile F.size, ?_, (h.hd.frL f (to _ (by decide)) (to _ (by decide)) (fun x hx => h.low.2 x (hf x hx))).frL f2 (t2 _ (by decide)) (t2 _ (by decide)) (fun x hx => by simp at hx; subst hx; exact h.low.2 _ v.t_foot), ?_⟩, rfl, rfl, F, hn⟩
  · exact hbk.ofTy f2 (t2 _ (by decide)) (t2 _ (by decide)) (by obtain ⟨_, ho⟩ := hbk.que.row.own; exact own_nin ho (t2 _ (by decide))) (t2 _ (by decide))
  · exact hr.frL f2 (t2 _ (by decide)) (by obtain ⟨_, ho⟩ := hr.own; exact own_nin ho (t2 _ (by decide)))
  · rcases n x hm with h1 | h1
    · exact h.dis x hx h1
    · have := h.lt x (by simp [TV.foot, hx]); omega
  · intro x hx
    rcases hn x hx with h1 | h1
    · exact h.lohi x h1
    · exact .inr (Nat.le_trans h.hile h1)
  · refine ⟨h.low.1, fun x hx => ?_⟩
    rcases hn x hx with h1 | h1
    · exact h.low.2 x h1
    · exact Nat.le_trans h.low.1 (Nat.le_trans h.hile h1)


def takeM (m : TM) : TM := match m.p with | none => m | some d => { m with took := m.took ++ [d.info], vr := (m.vr + 1) % 128 }
set_option maxHeartbeats 2000000 in
theorem tie_take (w : World) (v : TV) (m : TM) (d : PD) (h : IsTie w v m) (hp : m.p = some d) (hl : d.info.length ≤ 100000) (ht : m.took.length ≤ 100000) :
    Calls Tryz.prog 154 #[.pointer (some ⟨v.t, 0, none⟩)] w fun e w' => e = .returned (.tuple #[]) ∧ TieTo w w' v (takeM m) := by
  obtain ⟨i0, hi0, hz0, hz1, hz2⟩ := bb_info
  have hun : Tryz.prog.underlying 34 = some (.slice 49) := Tryz.underlying34
  have eM : takeM m = { m with took := m.took ++ [d.info], vr := (m.vr + 1) % 128 } := by unfold takeM; rw [hp]
  rw [eM]
  have hd := h.hd
  rw [hp] at hd
  obtain ⟨b, s, epp, hb, hs, hbo⟩ := hd
  have c34 := h.c34
  rw [epp] at c34
  have nb : b ∉ v.ok.blk := fun hm => by
    obtain ⟨_, hok⟩ := h.ok.own
    obtain ⟨_, cs, e⟩ := own_blk hok b hm
    exact absurd (Blk.ty hb e) (by decide)
  have nt : v.t ∉ v.ok.blk := fun hm => by
    obtain ⟨_, hok⟩ := h.ok.own
    obtain ⟨_, cs, e⟩ := own_blk hok _ hm
    exact absurd (Blk.ty h.blk e) (by decide)
  have k32 : ∀ wx, Fr v.ok.blk w wx → wx.cell? ⟨v.t, 32, none⟩ = some (.slice v.ok.A v.ok.n v.ok.c) := fun wx hf => hf.cell h.c32 nt
  have k34 : ∀ wx, Fr v.ok.blk w wx → wx.cell? ⟨v.t, 34, none⟩ = some (.pointer (some ⟨b, 0, none⟩)) := fun wx hf => hf.cell c34 nt
  have k8 : ∀ wx, Fr v.ok.blk w wx → wx.cell? ⟨b, 8, none⟩ = some (.slice s.A s.n s.c) := fun wx hf => hf.cell (hb.cell 8 rfl) nb
  have hs : ∀ wx, Fr v.ok.blk w wx → Bts v.n0 wx s d.info := fun wx hf => hs.frL hf fun x hx => ⟨h.low.2 x (by simp [TV.foot, hx]), BRow.off h.ok x hx⟩
  have HT := Lib.hid h
  have HS := Lib.hid hs
  have HLT := Lib.hid ht
  clear h eM hp hb hs hbo epp ht nb nt
  go_enter Tryz.func154, Tryz.ntmps154
  go_wp2
  clear c34
  refine wp_region_keepsC v.ok.blk [false, false, false, false, false, false, false, false, false, false, false, false, false, false, false, true] [none, none, none, none, none, some 15, none, none, none, none, none, none, none, some 15, some 15, some 16] (BRow v.ok m.took) [Is (.pointer (some ⟨v.t, 0, none⟩)), Is (.pointer (some ⟨v.t, 0, none⟩)), Is (.pointer (some ⟨v.t, 0, none⟩)), Is (.pointer (some ⟨v.t, 30, none⟩)), Is (.pointer (some ⟨v.t, 32, none⟩)), (IsW (.slice v.ok.A v.ok.n v.ok.c) (BRow v.ok m.took)), Is (.pointer (some ⟨v.t, 0, none⟩)), Is (.pointer (some ⟨v.t, 0, none⟩)), Is (.pointer (some ⟨v.t, 34, none⟩)), Is (.pointer (some ⟨b, 0, none⟩)), Is (.pointer (some ⟨b, 0, none⟩)), Is (.pointer (some ⟨b, 8, none⟩)), Is (.slice s.A s.n s.c), (CloneF 0 d.info), (SrcF 0 d.info (fun s => #[.slice s.A s.n s.c])), (RowF (fun s l W => BRow s l W ∧ ∀ x ∈ s.blk, x ∈ v.ok.blk ∨ w.heap.size ≤ x) (m.took ++ [d.info]))] 16 (by kernel_rfl) (by kernel_rfl) (by kernel_rfl) (by kernel_rfl) (by kernel_rfl) (by kernel_rfl) (by kernel_rfl) (by kernel_rfl) ?hV (fun _ _ f h => BRow.fr f h) (HT.out.ok) ?hS ?hD
  case hV =>
    repeat (first | exact trivial | exact Is.keepsN _ | exact Any.keepsN | exact IsW.keeps (fun _ _ f h => BRow.fr f h) | exact CloneF.keeps | exact SrcF.keeps | exact RowF.keeps (fun _ _ _ f h => ⟨BRow.fr f h.1, h.2⟩) | refine And.intro ?_ ?_)
  case hS =>
    (repeat' (first | exact trivial | refine And.intro ?_ ?_))
    · intro ac wx hf hbs hs hp K hK
      simp only [zA, Region.binds, Nat.reduceAdd] at hp
      have hs0 := hs 0 (by kernel_rfl)
      simp only [Array.getD_eq_getD_getElem?, List.getElem?_toArray, List.getElem?_cons_succ, List.getElem?_cons_zero, Option.getD_some] at hs0
      clear hs
      clear hbs
      clear hp
      clear hf
      go_simp
      try dsimp only
      refine hK.out _ _ ?_ ?_
      · change Fr [] _ _
        (repeat (first | with_reducible (first | exact Fr.refl _ _ | assumption | refine Fr.drew ?_ | refine Fr.drewN ?_ _ | refine Fr.alloc ?_ _ | refine Fr.setL ?_ _ _ _ ?_) | (left; simp; done) | (right; first | (simp; done) | (simp; omega) | omega)); done)
      · simp only [nth]
        first | (unfold Is; rfl) | (unfold Any; exact trivial) | exact IsSl.new _ _ _ _ | assumption
    · intro ac wx hf hbs hs hp K hK
      simp only [zA, Region.binds, Nat.reduceAdd] at hp
      have hs0 := hs 0 (by kernel_rfl)
      simp only [Array.getD_eq_getD_getElem?, List.getElem?_toArray, List.getElem?_cons_succ, List.getElem?_cons_zero, Option.getD_some] at hs0
      clear hs
      clear hbs
      clear hp
      clear hf
      go_simp
      try dsimp only
      refine hK.out _ _ ?_ ?_
      · change Fr [] _ _
        (repeat (first | with_reducible (first | exact Fr.refl _ _ | assumption | refine Fr.drew ?_ | refine Fr.drewN ?_ _ | refine Fr.alloc ?_ _ | refine Fr.setL ?_ _ _ _ ?_) | (left; simp; done) | (right; first | (simp; done) | (simp; omega) | omega)); done)
      · simp only [nth]
        first | (unfold Is; rfl) | (unfold Any; exact trivial) | exact IsSl.new _ _ _ _ | assumption
    · intro ac wx hf hbs hs hp K hK
      simp only [zA, Region.binds, Nat.reduceAdd] at hp
      clear hs
      clear hbs
      have h1 := hp
      clear hp
      clear hf
      (try simp only [h1])
      go_simp
      try dsimp only
      refine hK.out _ _ ?_ ?_
      · change Fr [] _ _
        (repeat (first | with_reducible (first | exact Fr.refl _ _ | assumption | refine Fr.drew ?_ | refine Fr.drewN ?_ _ | refine Fr.alloc ?_ _ | refine Fr.setL ?_ _ _ _ ?_) | (left; simp; done) | (right; first | (simp; done) | (simp; omega) | omega)); done)
      · simp only [nth]
        first | (unfold Is; rfl) | (unfold Any; exact trivial) | exact IsSl.new _ _ _ _ | assumption
    · intro ac wx hf hbs hs hp K hK
      simp only [zA, Region.binds, Nat.reduceAdd] at hp
      clear hs
      clear hbs
      have h2 := hp
      clear hp
      clear hf
      (try simp only [h2])
      go_simp
      try dsimp only
      refine hK.out _ _ ?_ ?_
      · change Fr [] _ _
        (repeat (first | with_reducible (first | exact Fr.refl _ _ | assumption | refine Fr.drew ?_ | refine Fr.drewN ?_ _ | refine Fr.alloc ?_ _ | refine Fr.setL ?_ _ _ _ ?_) | (left; simp; done) | (right; first | (simp; done) | (simp; omega) | omega)); done)
      · simp only [nth]
        first | (unfold Is; rfl) | (unfold Any; exact trivial) | exact IsSl.new _ _ _ _ | assumption
    · intro ac wx hf hbs hs hp K hK
      simp only [zA, Region.binds, Nat.reduceAdd] at hp
      clear hs
      clear hbs
      have h3 := hp
      clear hp
      clear hf
      (try simp only [h3])
      go_simp
      try dsimp only
      refine hK.out _ _ ?_ ?_
      · change Fr [] _ _
        (repeat (first | with_reducible (first | exact Fr.refl _ _ | assumption | refine Fr.drew ?_ | refine Fr.drewN ?_ _ | refine Fr.alloc ?_ _ | refine Fr.setL ?_ _ _ _ ?_) | (left; simp; done) | (right; first | (simp; done) | (simp; omega) | omega)); done)
      · simp only [nth]
        first | (unfold Is; rfl) | (unfold Any; exact trivial) | exact IsSl.new _ _ _ _ | assumption
    · intro ac wx hf hbs hs hp K hK
      simp only [zA, Region.binds, Nat.reduceAdd] at hp
      clear hs
      have h4 := hp
      clear hp
      have hb0 := hbs (by kernel_rfl)
      have cx := k32 wx hf
      clear hf hbs
      (try simp only [h4])
      go_simp
      refine hK.out _ _ ?_ ?_
      · change Fr [] _ _
        exact Fr.refl _ _
      · simp only [nth]
        exact ⟨rfl, hb0⟩
    · intro ac wx hf hbs hs hp K hK
      simp only [zA, Region.binds, Nat.reduceAdd] at hp
      have hs0 := hs 0 (by kernel_rfl)
      simp only [Array.getD_eq_getD_getElem?, List.getElem?_toArray, List.getElem?_cons_succ, List.getElem?_cons_zero, Option.getD_some] at hs0
      clear hs
      clear hbs
      clear hp
      clear hf
      go_simp
      try dsimp only
      refine hK.out _ _ ?_ ?_
      · change Fr [] _ _
        (repeat (first | with_reducible (first | exact Fr.refl _ _ | assumption | refine Fr.drew ?_ | refine Fr.drewN ?_ _ | refine Fr.alloc ?_ _ | refine Fr.setL ?_ _ _ _ ?_) | (left; simp; done) | (right; first | (simp; done) | (simp; omega) | omega)); done)
      · simp only [nth]
        first | (unfold Is; rfl) | (unfold Any; exact trivial) | exact IsSl.new _ _ _ _ | assumption
    · intro ac wx hf hbs hs hp K hK
      simp only [zA, Region.binds, Nat.reduceAdd] at hp
      clear hs
      clear hbs
      have h6 := hp
      clear hp
      clear hf
      (try simp only [h6])
      go_simp
      try dsimp only
      refine hK.out _ _ ?_ ?_
      · change Fr [] _ _
        (repeat (first | with_reducible (first | exact Fr.refl _ _ | assumption | refine Fr.drew ?_ | refine Fr.drewN ?_ _ | refine Fr.alloc ?_ _ | refine Fr.setL ?_ _ _ _ ?_) | (left; simp; done) | (right; first | (simp; done) | (simp; omega) | omega)); done)
      · simp only [nth]
        first | (unfold Is; rfl) | (unfold Any; exact trivial) | exact IsSl.new _ _ _ _ | assumption
    · intro ac wx hf hbs hs hp K hK
      simp only [zA, Region.binds, Nat.reduceAdd] at hp
      clear hs
      clear hbs
      have h7 := hp
      clear hp
      clear hf
      (try simp only [h7])
      go_simp
      try dsimp only
      refine hK.out _ _ ?_ ?_
      · change Fr [] _ _
        (repeat (first | with_reducible (first | exact Fr.refl _ _ | assumption | refine Fr.drew ?_ | refine Fr.drewN ?_ _ | refine Fr.alloc ?_ _ | refine Fr.setL ?_ _ _ _ ?_) | (left; simp; done) | (right; first | (simp; done) | (simp; omega) | omega)); done)
      · simp only [nth]
        first | (unfold Is; rfl) | (unfold Any; exact trivial) | exact IsSl.new _ _ _ _ | assumption
    · intro ac wx hf hbs hs hp K hK
      simp only [zA, Region.binds, Nat.reduceAdd] at hp
      clear hs
      clear hbs
      have h8 := hp
      clear hp
      have cx := k34 wx hf
      clear hf
      (try simp only [h8])
      go_simp
      try dsimp only
      refine hK.out _ _ ?_ ?_
      · change Fr [] _ _
        (repeat (first | with_reducible (first | exact Fr.refl _ _ | assumption | refine Fr.drew ?_ | refine Fr.drewN ?_ _ | refine Fr.alloc ?_ _ | refine Fr.setL ?_ _ _ _ ?_) | (left; simp; done) | (right; first | (simp; done) | (simp; omega) | omega)); done)
      · simp only [nth]
        first | (unfold Is; rfl) | (unfold Any; exact trivial) | exact IsSl.new _ _ _ _ | assumption
    · intro ac wx hf hbs hs hp K hK
      simp only [zA, Region.binds, Nat.reduceAdd] at hp
      clear hs
      clear hbs
      have h9 := hp
      clear hp
      clear hf
      (try simp only [h9])
      go_simp
      try dsimp only
      refine hK.out _ _ ?_ ?_
      · change Fr [] _ _
        (repeat (first | with_reducible (first | exact Fr.refl _ _ | assumption | refine Fr.drew ?_ | refine Fr.drewN ?_ _ | refine Fr.alloc ?_ _ | refine Fr.setL ?_ _ _ _ ?_) | (left; simp; done) | (right; first | (simp; done) | (simp; omega) | omega)); done)
      · simp only [nth]
        first | (unfold Is; rfl) | (unfold Any; exact trivial) | exact IsSl.new _ _ _ _ | assumption
    · intro ac wx hf hbs hs hp K hK
      simp only [zA, Region.binds, Nat.reduceAdd] at hp
      clear hs
      clear hbs
      have h10 := hp
      clear hp
      clear hf
      (try simp only [h10])
      go_simp
      try dsimp only
      refine hK.out _ _ ?_ ?_
      · change Fr [] _ _
        (repeat (first | with_reducible (first | exact Fr.refl _ _ | assumption | refine Fr.drew ?_ | refine Fr.drewN ?_ _ | refine Fr.alloc ?_ _ | refine Fr.setL ?_ _ _ _ ?_) | (left; simp; done) | (right; first | (simp; done) | (simp; omega) | omega)); done)
      · simp only [nth]
        first | (unfold Is; rfl) | (unfold Any; exact trivial) | exact IsSl.new _ _ _ _ | assumption
    · intro ac wx hf hbs hs hp K hK
      simp only [zA, Region.binds, Nat.reduceAdd] at hp
      clear hs
      clear hbs
      have h11 := hp
      clear hp
      have cx := k8 wx hf
      clear hf
      (try simp only [h11])
      go_simp
      try dsimp only
      refine hK.out _ _ ?_ ?_
      · change Fr [] _ _
        (repeat (first | with_reducible (first | exact Fr.refl _ _ | assumption | refine Fr.drew ?_ | refine Fr.drewN ?_ _ | refine Fr.alloc ?_ _ | refine Fr.setL ?_ _ _ _ ?_) | (left; simp; done) | (right; first | (simp; done) | (simp; omega) | omega)); done)
      · simp only [nth]
        first | (unfold Is; rfl) | (unfold Any; exact trivial) | exact IsSl.new _ _ _ _ | assumption
    · intro ac wx hf hbs hs hp K hK
      simp only [zA, Region.binds, Nat.reduceAdd] at hp
      clear hs
      have h12 := hp
      clear hp
      (try simp only [h12])
      go_simp
      go_at_call 96
      refine (b_Clone _ s d.info (HS.out wx hf).1 hl).mono ?_
      rintro e w' ⟨sb, rfl, hbs2, fz⟩
      refine hK.out _ _ ?_ ?_
      · change Fr [] _ _
        exact fz
      · simp only [nth]
        exact ⟨sb, rfl, hbs2⟩
    · intro ac wx hf hbs hs hp K hK
      simp only [zA, Region.binds, Nat.reduceAdd] at hp
      clear hs
      clear hbs
      have h13 := hp
      clear hp
      obtain ⟨sb, e13, hb13⟩ := h13
      clear hf
      (try simp only [e13])
      go_simp
      refine hK.out _ _ ?_ ?_
      · change Fr [] _ _
        exact (Fr.refl _ _).alloc _
      · simp only [nth]
        exact ⟨sb, Src.one, hb13.fr ((Fr.refl _ _).alloc _)⟩
    · intro ac wx hf hbs hs hp K hK
      simp only [zA, Region.binds, Nat.reduceAdd] at hp
      clear hs
      clear hbs
      obtain ⟨h5, h14, h13⟩ := hp
      obtain ⟨e5, hr5⟩ := h5
      obtain ⟨sb, hs14, hb14⟩ := h14
      have hsz := hf.size
      obtain ⟨xs, ho5, hx2, hx3⟩ := id hr5
      have hLt := HLT.out
      refine Eq.mpr (if_pos (by rfl)) ?_
      refine wp_push (.tmp 12) (.tmp 21) 34 rfl 49 i0 (.slice none 0 0) 1 24 hun hi0 hz0 hz1 hz2 rfl (by decide) v.ok m.took.length xs.flatten ((eval_tmp _ _).trans e5) ho5 _ 1 _ (eval_tmp _ _) hs14 rfl (by intro u hu; simp at hu; subst hu; rfl) (by unfold maxLen; omega) (by omega) ?_
      intro s' w' hp'
      refine hK.out _ _ ?_ ?_
      · exact ⟨v.ok.blk, hp'.2.1, fun x hx => .inl hx⟩
      · simp only [nth]
        exact ⟨s', rfl, BRow.push hx2 hx3 hp' (BRow.off hr5) hb14, fun x hx => (hp'.2.2 x hx).imp id (fun h => Nat.le_trans hsz h)⟩
  case hD =>
    intro xv wx hf hp
    simp only [List.take_succ_cons, List.take_zero, List.drop_succ_cons, List.drop_zero, fill, List.setIfInBounds_toArray, List.set_cons_zero, List.set_cons_succ, Nat.reduceAdd, Act.put]
    rw [show live 16 (deadC [none, none, none, none, none, some 15, none, none, none, none, none, none, none, some 15, some 15, some 16]) = [0, 1, 2, 3, 4, 6, 7, 8, 9, 10, 11, 12, 15] from by decide] at hp
    simp only [holds, nth, Is, Any, true_and, and_true] at hp
    obtain ⟨p0, p1, p2, p3, p4, p6, p7, p8, p9, p10, p11, p12, p15⟩ := hp
    obtain ⟨s', e15, hrow, hnew⟩ := p15
    have htb : Blk wx v.t (m.cells v) 105 := HT.out.blk.ofTy hf (by obtain ⟨_, hok⟩ := HT.out.ok.own; exact TyOut.own hok (by decide))
    have c32' : wx.cell? ⟨v.t, 32, none⟩ = some (.slice v.ok.A v.ok.n v.ok.c) := htb.cell 32 rfl
    have z32 := htb.free 32
    have hto := HT.out.setOk hrow hf hnew
    simp only [p0, e15]
    have HTO := Lib.hid hto
    clear hrow htb hto hf hnew e15 k32 k34 k8 p0 p1 p2 p3 p4 p6 p7 p8 p9 p10 p11 p12
    go_wp2_with fail
    obtain ⟨v2, hh2, et, ef, f2, n2⟩ := HTO.out
    have hV := vars_Took v2.t (TM.cells { m with took := m.took ++ [d.info] } v2) m.vs m.vr m.va _ hh2.v3
    rw [et] at hV
    refine hV.mono ?_
    rintro e w4 ⟨rfl, hv, f4⟩
    have f4 : Fr [v2.t] (wx.setCell ⟨v.t, 32, none⟩ (.slice s'.A s'.n s'.c)) w4 := by rw [et]; exact f4
    rw [← et] at hv
    have h4 : IsTie w4 v2 { m with took := m.took ++ [d.info], vr := (m.vr + 1) % 128 } := hh2.upd f4 hv.2 rfl
    have HFIN := Lib.hid (TieTo.trans f2 n2 et ef (h4.toT f4))
    clear hh2 h4 hv f4 f2 n2 hV c32' z32
    go_wp2
    go_end0
    exact ⟨rfl, HFIN.out⟩
end Go.Proofs.YtneggoonlmmjeaaGreat
namespace Go.Proofs.YtneggoonlmmjeaaGreat
open Go.RowKit
set_option linter.unusedVariables false
set_option linter.unusedSimpArgs false
set_option maxRecDepth 100000

def pick1 : Option Oper → List Oper → List Oper
  | none, l => l
  | some o, l => o :: l
def pickL (ops : Array Oper) : List Nat → List Oper
  | [] => []
  | k :: ks => pick1 ops[k]? (pickL ops ks)
/-- The walk: reads, or one write. -/
def wpMixP (P : Program) (ops : Array Oper) (S : World → Prop) (Q : Act → World → Prop) : List (List Nat × Option Nat) → Act → World → Prop
  | [], a, w => Q a w
  | (ks, none) :: r, a, w => wpQuiet P ops S (fun a' => wpMixP P ops S Q r a' w) (pickL ops ks) a
  | (ks, some k) :: r, a, w => wpQuiet P ops S (fun a' => wpList P ops (loudPost S fun a' w' => wpMixP P ops S Q r a' w') (pickL ops [k]) a' w) (pickL ops ks) a
def quietP (md : Region.Mode) (ops : Array Oper) : List Nat → Array Bool → Bool
  | [], _ => true
  | k :: ks, listed => (Region.ready md ops listed).contains k && Region.free md ops listed k && ((ops[k]?).map fun o => tells o.op).getD false && quietP md ops ks (listed.setIfInBounds k true)
def markedP : List Nat → Array Bool → Array Bool
  | [], listed => listed
  | k :: ks, listed => markedP ks (listed.setIfInBounds k true)
def mixP (md : Region.Mode) (ops : Array Oper) : List (List Nat × Option Nat) → Array Bool → Bool
  | [], listed => (Region.ready md ops listed).isEmpty
  | (ks, none) :: r, listed => quietP md ops ks listed && mixP md ops r (markedP ks listed)
  | (ks, some k) :: r, listed => quietP md ops ks listed && decide (Region.ready md ops (markedP ks listed) = [k]) && mixP md ops r ((markedP ks listed).setIfInBounds k true)
def countP : List (List Nat × Option Nat) → Nat
  | [] => 0
  | (ks, none) :: r => ks.length + countP r
  | (ks, some _) :: r => ks.length + (countP r + 1)

theorem anyH_quietP {P : Program} {md : Region.Mode} {ops : Array Oper} {Q : Exit → Act → World → Prop} {S : World → Prop} {w : World} (hsel : Region.noSelect ops = true) (hQ : ∀ c a w, ¬ Q (.panic c) a w) (hS : S w)
    {K : Act → Prop} {f : Nat} : ∀ (ks : List Nat) (listed : Array Bool) (a : Act), quietP md ops ks listed = true →
      (∀ a', K a' → wpAnyH P md ops Q S f (markedP ks listed) a' w) → wpQuiet P ops S K (pickL ops ks) a → wpAnyH P md ops Q S (ks.length + f) listed a w
  | [], listed, a, _, hK, h => by rw [List.length_nil, Nat.zero_add]; exact hK a h
  | k :: ks, listed, a, hB, hK, h => by
    simp only [quietP, Bool.and_eq_true] at hB
    obtain ⟨⟨⟨hr, hf⟩, ht⟩, hB'⟩ := hB
    cases h0 : ops[k]? with
    | none => rw [h0] at ht; simp at ht
    | some o =>
      rw [h0] at ht
      simp only [Option.map_some, Option.getD_some] at ht
      have hp : pickL ops (k :: ks) = o :: pickL ops ks := by simp [pickL, pick1, h0]
      rw [hp] at h
      obtain ⟨v, hy, hK'⟩ := yieldsIf_of_quiet (K := wpQuiet P ops S K (pickL ops ks)) ht h
      rw [List.length_cons, show ks.length + 1 + f = (ks.length + f) + 1 by omega]
      refine wpAnyH_take h0 hsel hf hr (fun c a w h => absurd h (hQ _ _ _)) hy hS ?_
      exact anyH_quietP hsel hQ hS ks _ _ hB' (fun a' h' => hK a' h') hK'

theorem anyH_mixP {P : Program} {md : Region.Mode} {ops : Array Oper} {Q : Exit → Act → World → Prop} {S : World → Prop} (hsel : Region.noSelect ops = true) (hQ : ∀ c a w, ¬ Q (.panic c) a w) :
    ∀ (r : List (List Nat × Option Nat)) (listed : Array Bool) (a : Act) (w : World), S w → mixP md ops r listed = true →
      wpMixP P ops S (Q .normal) r a w → wpAnyH P md ops Q S (countP r) listed a w
  | [], listed, a, w, hS, hB, h => by
    simp only [mixP] at hB
    exact wpAnyH_done (by simpa using hB) h _
  | (ks, none) :: r, listed, a, w, hS, hB, h => by
    simp only [mixP, Bool.and_eq_true] at hB
    simp only [wpMixP] at h
    exact anyH_quietP hsel hQ hS ks listed a hB.1 (fun a' h' => anyH_mixP hsel hQ r _ a' w hS hB.2 h') h
  | (ks, some k) :: r, listed, a, w, hS, hB, h => by
    simp only [mixP, Bool.and_eq_true, decide_eq_true_eq] at hB
    simp only [wpMixP] at h
    refine anyH_quietP hsel hQ hS ks listed a hB.1.1 (fun a' h' => ?_) h
    have h2 : k ∈ Region.ready md ops (markedP ks listed) := by rw [hB.1.2]; simp
    obtain ⟨_, o, h0, _⟩ := mem_ready.1 h2
    have hp : pickL ops [k] = [o] := by simp [pickL, pick1, h0]
    rw [hp] at h'
    refine wpAnyH_all hB.1.2 (by simp) fun i hi => ?_
    have hik : i = k := by simpa using hi
    subst hik
    have hw : wpOp P ops (loudPost S fun a' w' => wpMixP P ops S (Q .normal) r a' w') i (fun a' w' => S w' ∧ wpMixP P ops S (Q .normal) r a' w') a' w := by
      unfold wpOp; simp only [h0]; exact h'
    unfold wpOp at hw ⊢
    simp only [h0] at hw ⊢
    by_cases hwn : Region.wanted o (yielded ops a'.tmps) = true
    · simp only [hwn, if_true] at hw ⊢
      rcases hw with h1 | h1
      · exact .inl (wp_shut (fun a' w' h' => ⟨h'.1, anyH_mixP hsel hQ r _ a' w' h'.1 hB.2 h'.2⟩) (fun _ _ _ h => h) (fun ⟨_, _, h⟩ => h) h1)
      · exact absurd h1.2 (fun ⟨_, _, h⟩ => h)
    · simp only [hwn, Bool.false_eq_true, if_false] at hw ⊢
      exact ⟨hw.1, anyH_mixP hsel hQ r _ _ w hw.1 hB.2 hw.2⟩

theorem wpAny_mixP {P : Program} {Q : Exit → Act → World → Prop} {S : World → Prop} {l : List Oper} {a : Act} {w : World} (r : List (List Nat × Option Nat)) (hsel : Region.noSelect l.toArray = true) (hc : countP r = l.toArray.size) (hB : mixP .any l.toArray r (Array.replicate l.toArray.size false) = true) (hS : S w)
    (h : wpMixP P l.toArray S (Q .normal) r a w) : wpAny P .any l.toArray (goesOn Q) l.toArray.size (Array.replicate l.toArray.size false) a w := by
  have := anyH_mixP (P := P) (md := .any) (ops := l.toArray) (Q := goesOn Q) (S := S) hsel (fun _ _ _ h => h) r (Array.replicate l.toArray.size false) a w hS hB h
  rw [hc] at this
  exact wpAny_of_held _ _ _ _ this

/-- **A region that draws its order, in the plain calculus: the order of one's choice.** -/
theorem wp_region_mixP {P : Program} {id : Nat} {Q : Exit → Act → World → Prop} {a : Act} {w : World} {l : List Oper} (S : World → Prop) (r : List (List Nat × Option Nat)) (hm : P.follows .mixedOrders = true) (hsel : Region.noSelect l.toArray = true) (hc : countP r = l.toArray.size)
    (hB : mixP .any l.toArray r (Array.replicate l.toArray.size false) = true) (hS : S w.drew)
    (h : wpMixP P l.toArray S (Q .normal) r a w.drew) : (Code.region id l.toArray true).wp P Q a w :=
  Code.wp_mono goesOn_imp (wp_region_any hm (wpAny_mixP r hsel hc hB hS h))
end Go.Proofs.YtneggoonlmmjeaaGreat
namespace Go.Proofs.YtneggoonlmmjeaaGreat
open Go.RowKit Go.Shelf
set_option linter.unusedVariables false
set_option linter.unusedSimpArgs false
set_option maxRecDepth 100000

/-- The way from one state of a connection to another one. -/
structure Went (w w' : World) (v v' : TV) : Prop where
  t : v'.t = v.t
  fix : v'.fix = v.fix
  fr : Fr v.foot w w'
  new : ∀ x ∈ v'.foot, x ∈ v.foot ∨ w.heap.size ≤ x
theorem Went.refl (w : World) (v : TV) : Went w w v v := ⟨rfl, rfl, Fr.refl _ _, fun _ hx => .inl hx⟩
theorem Went.of {w w' : World} {v : TV} (f : Fr v.foot w w') : Went w w' v v := ⟨rfl, rfl, f, fun _ hx => .inl hx⟩
theorem Went.fr0 {w w1 w2 : World} {v v1 : TV} (h : Went w w1 v v1) (f : Fr [] w1 w2) : Went w w2 v v1 := ⟨h.t, h.fix, h.fr.tr0 f, h.new⟩
theorem Went.trans {w w1 w2 : World} {v v1 v2 : TV} (h : Went w w1 v v1) (k : Went w1 w2 v1 v2) : Went w w2 v v2 :=
  ⟨k.t.trans h.t, k.fix.trans h.fix, h.fr.trans k.fr h.new, fun x hx => by
    rcases k.new x hx with h1 | h1
    · exact h.new x h1
    · exact .inr (Nat.le_trans h.fr.size h1)⟩
theorem Went.step {w w1 w2 : World} {v v1 : TV} {m : TM} (h : Went w w1 v v1) (k : TieTo w1 w2 v1 m) : ∃ v2, IsTie w2 v2 m ∧ Went w w2 v v2 := by
  obtain ⟨v2, h2, et, ef, f, n⟩ := k
  exact ⟨v2, h2, h.trans ⟨et, ef, f, n⟩⟩
theorem Went.to {w w' : World} {v v' : TV} {m : TM} (h : Went w w' v v') (k : IsTie w' v' m) : TieTo w w' v m := ⟨v', k, h.t, h.fix, h.fr, h.new⟩
theorem TieTo.went {w w' : World} {v : TV} {m : TM} (h : TieTo w w' v m) : ∃ v', IsTie w' v' m ∧ Went w w' v v' := (Went.refl w v).step h
theorem Went.same {w w1 w2 : World} {v v1 : TV} (h : Went w w1 v v1) (f : Fr v1.foot w1 w2) : Went w w2 v v1 := h.trans (Went.of f)
theorem Went.own {w w1 w2 : World} {v v1 : TV} (h : Went w w1 v v1) (f : Fr [v1.t] w1 w2) : Went w w2 v v1 := h.same f.foot

theorem TV.fix_pp {v v1 : TV} (h : v1.fix = v.fix) : v1.pp = v.pp := by simp only [TV.fix, Prod.mk.injEq] at h; exact h.1
theorem TV.fix_k {v v1 : TV} (h : v1.fix = v.fix) : v1.k = v.k := by simp only [TV.fix, Prod.mk.injEq] at h; exact h.2.1
theorem TV.fix_w {v v1 : TV} (h : v1.fix = v.fix) : v1.w = v.w := by simp only [TV.fix, Prod.mk.injEq] at h; exact h.2.2.2.1
theorem TV.fix_n0 {v v1 : TV} (h : v1.fix = v.fix) : v1.n0 = v.n0 := by simp only [TV.fix, Prod.mk.injEq] at h; exact h.2.2.2.2.2.2.2.1

set_option maxHeartbeats 1000000 in
theorem tie_clearA (w : World) (v : TV) (m : TM) (h : IsTie w v m) (hq : m.q.length ≤ 1000) (he : 0 ≤ m.epoch ∧ m.epoch ≤ 1000000) :
    Calls Tryz.prog 150 #[.pointer (some ⟨v.t, 0, none⟩)] w fun e w' => e = .returned (.tuple #[]) ∧ TieTo w w' v (clearM m) := by
  have hw : IntKind.i64.wrap (m.epoch + 1) = m.epoch + 1 := IntWalk.i64_in _ (by omega)
  go_enter Tryz.func150, Tryz.ntmps150
  go_wp2_with fail
  refine (vars_Clear v.t (m.cells v) m.vs m.vr m.va w h.v3).mono ?_
  rintro e w1 ⟨rfl, hv, f1⟩
  have h1 : IsTie w1 v { m with vs := 0, vr := 0, va := 0 } := h.upd f1 hv.2 rfl
  have W1 : Went w w1 v v := Went.of f1.foot
  have c13 := h1.c13
  clear hv f1 h
  go_wp2_with fail
  refine (back_Clear w1 v.k v.q v.ql 64 m.out m.q h1.back hq).mono ?_
  rintro e w2 ⟨⟨_, rfl⟩, hk⟩
  obtain ⟨v2, h2, W2⟩ := W1.step (h1.setBack (out := 0) hk)
  have c14 := h2.c14
  rw [W2.t] at c14
  clear hk h1 W1 c13
  go_wp2_with fail
  refine (win_Fresh v2.w m.cw m.wide m.count w2 h2.win).mono ?_
  rintro e w3 ⟨rfl, hn, f3⟩
  obtain ⟨h3, g3⟩ := h2.setWin (d := m.cw) (c := 0) hn f3
  have W3 := W2.same g3
  have c19 := h3.c19
  have z19 := h3.z 19
  clear hn f3 g3 h2 W2 c14
  obtain ⟨h4, g4⟩ := h3.set1 19 (.bool false) { m with vs := 0, vr := 0, va := 0, out := 0, q := [], wide := m.cw, count := 0, busy := false } rfl rfl
  have W4 := W3.own g4
  have c20 := h4.c20
  have z20 := h4.z 20
  obtain ⟨h5, g5⟩ := h4.set1 20 (.int .i64 (m.epoch + 1)) (clearM m) rfl rfl
  have W5 := W4.own g5
  have HFIN := Lib.hid (W5.to h5)
  have et := W4.t
  rw [et] at c19 z19 c20 z20 HFIN
  clear h3 h4 h5 g4 g5 W3 W4 W5
  go_wp2
  go_end0
  exact ⟨rfl, HFIN.out⟩

def goBackM (m : TM) : TM := { m with vs := m.va, out := 0, tm := tstop m.tm 29 }
set_option maxHeartbeats 1000000 in
theorem tie_goBack (w : World) (v : TV) (m : TM) (h : IsTie w v m) (hl : m.tm.length ≤ 1000) :
    Calls Tryz.prog 157 #[.pointer (some ⟨v.t, 0, none⟩)] w fun e w' => e = .returned (.tuple #[]) ∧ TieTo w w' v (goBackM m) := by
  go_enter Tryz.func157, Tryz.ntmps157
  go_wp2_with fail
  refine (vars_Back v.t (m.cells v) m.vs m.vr m.va w h.v3).mono ?_
  rintro e w1 ⟨rfl, hv, f1⟩
  have h1 : IsTie w1 v { m with vs := m.va } := h.upd f1 hv.2 rfl
  have W1 : Went w w1 v v := Went.of f1.foot
  have c13 := h1.c13
  clear hv f1 h
  go_wp2_with fail
  refine (back_Again w1 v.k v.q v.ql 64 m.out m.q h1.back).mono ?_
  rintro e w2 ⟨rfl, hk, f2⟩
  obtain ⟨h2, g2⟩ := h1.setBack1 (out := 0) hk f2
  have W2 := W1.same g2
  have c15 := h2.c15
  clear hk h1 W1 c13 f2 g2
  go_wp2_with fail
  refine (clk_Stop _ v.c v.cl 4 v.now m.tm 29 h2.clk hl).mono ?_
  rintro e w3 ⟨rfl, hc⟩
  obtain ⟨v3, h3, W3⟩ := W2.step (h2.setClk hc)
  have HFIN := Lib.hid (W3.to h3)
  clear h3 W3 W2 h2 hc c15
  go_wp2
  go_end0
  exact ⟨rfl, HFIN.out⟩
end Go.Proofs.YtneggoonlmmjeaaGreat
namespace Go.Proofs.YtneggoonlmmjeaaGreat
open Go.RowKit Go.Shelf
set_option linter.unusedVariables false
set_option linter.unusedSimpArgs false
set_option maxRecDepth 100000

/-- What is acknowledged, by how many. -/
def ackedM (m : TM) (nr : Int) (n : Nat) : TM := { m with va := nr, out := m.out - n, q := m.q.drop n, wide := (ackedW m.cw n m.wide m.count).d, count := (ackedW m.cw n m.wide m.count).c, retries := 0, tm := tstop m.tm 29 }
def ackM (m : TM) : TM := match m.p with
  | none => m
  | some d => if ackN m.vs m.va d.nr < 1 then { m with va := ackA m.vs m.va d.nr } else
    if 0 < (m.vs - d.nr) % 128 then startM (ackedM m d.nr (ackN m.vs m.va d.nr).toNat) 29 else ackedM m d.nr (ackN m.vs m.va d.nr).toNat
/-- What is so ahead of it. -/
def ackP (m : TM) : Prop := m.tm.length ≤ 1000 ∧ m.q.length ≤ 1000 ∧ m.out ≤ m.q.length ∧ (m.out : Int) = (m.vs - m.va) % 128 ∧ m.cw ≤ 64 ∧ 0 ≤ m.wide ∧ 0 ≤ m.count ∧ m.count ≤ 64 ∧ 1 ≤ m.ca ∧ m.ca ≤ 10000 ∧ (tstop m.tm 29).length < 4

def PNr (t b : Nat) (nr : Int) (x : World) : Prop := x.cell? ⟨t, 34, none⟩ = some (.pointer (some ⟨b, 0, none⟩)) ∧ x.cell? ⟨b, 6, none⟩ = some (.int .i64 nr)
set_option maxHeartbeats 1000000 in
theorem tie_ack (w : World) (v : TV) (m : TM) (d : PD) (h : IsTie w v m) (hp : m.p = some d) (hk : ackP m) :
    Calls Tryz.prog 155 #[.pointer (some ⟨v.t, 0, none⟩)] w fun e w' => e = .returned (.tuple #[]) ∧ TieTo w w' v (ackM m) := by
  have hd := h.hd
  rw [hp] at hd
  obtain ⟨b, s, epp, hb, hs, hbo⟩ := hd
  have c34 := h.c34
  rw [epp] at c34
  have c6 := hb.cell 6 rfl
  simp only [PD.arr, List.getElem_toArray, List.getElem_cons_zero, List.getElem_cons_succ] at c6
  have eM : ackM m = if ackN m.vs m.va d.nr < 1 then { m with va := ackA m.vs m.va d.nr } else
    if 0 < (m.vs - d.nr) % 128 then startM (ackedM m d.nr (ackN m.vs m.va d.nr).toNat) 29 else ackedM m d.nr (ackN m.vs m.va d.nr).toNat := by unfold ackM; rw [hp]
  obtain ⟨R, hR⟩ : ∃ R, ackM m = R := ⟨_, rfl⟩
  rw [hR]
  rw [hR] at eM
  have HP := Lib.hid hp
  have HK := Lib.hid hk
  obtain ⟨N, hN⟩ : ∃ N, ackN m.vs m.va d.nr = N := ⟨_, rfl⟩
  have HN := Lib.hid hN
  have fd : Fr [] w w.drew := (Fr.refl [] w).drew
  have hD := h.fr0 fd
  have hV := vars_Acked v.t (m.cells v) m.vs m.vr m.va d.nr w.drew hD.v3
  rw [hN] at hV eM
  have HR := Lib.hid eM
  have hbt : b ≠ v.t := fun e => by
    subst e
    exact absurd (Blk.ty hb h.blk) (by decide)
  have hp0 : PNr v.t b d.nr w.drew := ⟨fd.cell c34 (by simp), fd.cell c6 (by simp)⟩
  haveI : Nonempty (Held (PNr v.t b d.nr)) := ⟨⟨_, hp0⟩⟩
  have q34 : ∀ n : Held (PNr v.t b d.nr), n.x.cell? ⟨v.t, 34, none⟩ = some (.pointer (some ⟨b, 0, none⟩)) := fun n => n.ok.1
  have q6 : ∀ n : Held (PNr v.t b d.nr), n.x.cell? ⟨b, 6, none⟩ = some (.int .i64 d.nr) := fun n => n.ok.2
  have HD := Lib.hid (And.intro hD (And.intro fd (And.intro hbt hp0)))
  clear eM hp hk hb hs hbo epp hN h hD fd hbt hR
  go_enter Tryz.func155, Tryz.ntmps155
  go_wp2_with fail
  refine wp_region_mixP (fun x => ∃ n : Held (PNr v.t b d.nr), x = n.x) [([0, 1, 2, 3, 4, 5, 6, 7, 8, 9], some 10), ([11], none)] (by kernel_rfl) (by kernel_rfl) (by kernel_rfl) (by kernel_rfl) ⟨⟨_, hp0⟩, rfl⟩ ?_
  clear hp0 c34 c6
  simp only [wpMixP, pickL, pick1, List.getElem?_toArray, List.getElem?_cons_zero, List.getElem?_cons_succ]
  repeat (go_big_quiet_step (fail))
  refine wpQuiet_nil ?_
  clear q34 q6
  go_wp2_with fail
  refine hV.mono ?_
  rintro e w1 ⟨rfl, hv, f1⟩
  obtain ⟨hD, fd, hbt, hp0⟩ := HD.out
  have h1 : IsTie w1 v { m with va := ackA m.vs m.va d.nr } := hD.upd f1 hv.2 rfl
  have W1 : Went w w1 v v := ((Went.refl w v).fr0 fd).own f1
  have hp1 : PNr v.t b d.nr w1 := ⟨by have := h1.c34; rw [show v.pp = .pointer (some ⟨b, 0, none⟩) by have := hD.c34.symm.trans hp0.1; simpa using this] at this; exact this, f1.cell hp0.2 (by simpa using hbt)⟩
  have H1 := Lib.hid (And.intro h1 W1)
  clear hD fd hbt hp0 hv h1 W1 HD hV
  go_wp2_with fail
  refine ⟨⟨⟨_, hp1⟩, rfl⟩, ?_⟩
  dsimp only
  repeat (go_big_quiet_step (fail))
  refine wpQuiet_nil ?_
  clear hp1 this f1
  by_cases hN1 : N < 1
  · have d1 : decide (N < 1) = true := by simpa using hN1
    have HFIN := Lib.hid (H1.out.2.to H1.out.1)
    rw [show _ = R from ((if_pos hN1).symm.trans HR.out.symm)] at HFIN
    clear hN1 H1
    go_wp2
    exact bodyPost_ret (results_none rfl _ _ _) rfl ⟨rfl, HFIN.out⟩
  · have d1 : decide (N < 1) = false := by simpa using hN1
    have eR := HR.out
    rw [if_neg hN1] at eR
    obtain ⟨h1, W1⟩ := H1.out
    obtain ⟨k1, k2, k3, k4, k5, k6, k7, k8, k9, k10, k11⟩ := HK.out
    have hNn : N = (m.vs - d.nr) % 128 → True := fun _ => trivial
    obtain ⟨n, hn⟩ : ∃ n : Nat, N = n := ⟨N.toNat, by omega⟩
    have hno : 0 < n ∧ n ≤ m.out ∧ ackA m.vs m.va d.nr = d.nr := by
      have e1 := HN.out
      unfold ackN at e1
      unfold ackA
      split at e1
      · rename_i hc
        rw [if_pos hc]
        omega
      · omega
    obtain ⟨n0, n1, n2⟩ := hno
    rw [n2] at h1
    subst hn
    rw [Int.toNat_natCast] at eR
    have HE := Lib.hid eR
    clear eR HR
    have c13 := h1.c13
    have HKK := Lib.hid (And.intro k2 (And.intro k3 (And.intro k1 (And.intro k9 (And.intro k10 (And.intro k11 (And.intro k5 (And.intro k6 (And.intro k7 k8)))))))))
    clear k1 k2 k3 k4 k5 k6 k7 k8 k9 k10 k11 hN1 H1 HK hNn
    have HNN := Lib.hid (And.intro n0 n1)
    clear n0 n1 n2
    go_wp2_with fail
    refine (back_Acked w1 v.k v.q v.ql 64 m.out n m.q h1.back HNN.out.1 HNN.out.2 HKK.out.2.1 HKK.out.1).mono ?_
    rintro e w2 ⟨rfl, hk⟩
    obtain ⟨v2, h2, W2⟩ := W1.step (h1.setBack hk)
    have c14 := h2.c14
    rw [W2.t] at c14
    clear hk h1 W1 c13
    go_wp2_with fail
    obtain ⟨k2, k3, k1, k9, k10, k11, k5, k6, k7, k8⟩ := HKK.out
    refine (win_Acked v2.w m.cw m.wide m.count n w2 h2.win k5 k6 k7 k8 (by have := HNN.out; omega)).mono ?_
    rintro e w3 ⟨rfl, hw, f3⟩
    obtain ⟨h3, g3⟩ := h2.setWin (d := (ackedW m.cw n m.wide m.count).d) (c := (ackedW m.cw n m.wide m.count).c) hw f3
    have W3 := W2.same g3
    have c18 := h3.c18
    have z18 := h3.z 18
    have et := W3.t
    obtain ⟨h4, g4⟩ := h3.set1 18 (.int .i64 0) { m with va := d.nr, out := m.out - n, q := m.q.drop n, wide := (ackedW m.cw n m.wide m.count).d, count := (ackedW m.cw n m.wide m.count).c, retries := 0 } rfl rfl
    have W4 := W3.own g4
    have c15 := h4.c15
    rw [et] at c18 z18 c15 h4 W4
    clear hw f3 g3 h2 W2 c14 h3 W3 g4 k2 k3 k5 k6 k7 k8 k9 k10 k11
    go_wp2_with fail
    refine (clk_Stop _ v2.c v2.cl 4 v2.now m.tm 29 h4.clk k1).mono ?_
    rintro e w4 ⟨rfl, hc⟩
    obtain ⟨v5, h5, W5⟩ := W4.step (h4.setClk hc)
    clear hc h4 W4 c18 z18 c15
    have h5 : IsTie w4 v5 (ackedM m d.nr n) := h5
    have et5 := W5.t
    have H5 := Lib.hid (And.intro h5 W5)
    have hV := vars_Out v5.t ((ackedM m d.nr n).cells v5) (ackedM m d.nr n).vs (ackedM m d.nr n).vr (ackedM m d.nr n).va w4 h5.v3
    rw [et5] at hV
    clear h5 W5 et et5
    go_wp2_with fail
    refine hV.mono ?_
    rintro e w5 ⟨rfl, f5⟩
    have eV : ((ackedM m d.nr n).vs - (ackedM m d.nr n).va) % 128 = (m.vs - d.nr) % 128 := rfl
    rw [eV]
    obtain ⟨h5, W5⟩ := H5.out
    have h6 := h5.fr0 f5
    have W6 := W5.fr0 f5
    have et6 := W6.t
    clear hV eV h5 W5 H5 f5
    by_cases hpos : 0 < (m.vs - d.nr) % 128
    · have d2 : decide (0 < (m.vs - d.nr) % 128) = true := by simpa using hpos
      have eR := HE.out
      rw [if_pos hpos] at eR
      have HE2 := Lib.hid eR
      have hst := tie_start w5 v5 (ackedM m d.nr n) 29 h6
      rw [et6] at hst
      have H6 := Lib.hid (And.intro h6 W6)
      clear hpos eR HE h6 W6 et6
      go_wp2_with fail
      refine hst.mono ?_
      rintro e w6 ⟨b0, b1, b2, M, rfl, c0, c1, c2, hM, l0, l1, l2, l3, f6⟩
      obtain ⟨h6, W6⟩ := H6.out
      have h7 := h6.fr0 f6
      have W7 := W6.fr0 f6
      have hcl := tie_start1 w6 v5 (ackedM m d.nr n) 29 b0 b1 b2 M h7 (by rw [W6.t]; exact c0) c1 c2 hM (by omega) (by omega) (by have := HKK.out.2.2.2.2.2.1; show (tstop m.tm 29).length ≤ 1000; omega) HKK.out.2.2.2.1 HKK.out.2.2.2.2.1 (fun _ => by have := HKK.out.2.2.2.2.2.1; show ((tstop m.tm 29).length : Int) < 4; omega)
      have HCL := Lib.hid hcl
      have HW := Lib.hid W7
      clear hst H6 h6 W6 h7 W7 hcl hM c0 c1 c2 l0 l1 l2 l3 f6
      go_wp2_with fail
      refine HCL.out.mono ?_
      rintro e w7 ⟨rfl, ht⟩
      obtain ⟨v8, h8, W8⟩ := HW.out.step ht
      have HFIN := Lib.hid (W8.to h8)
      rw [← HE2.out] at HFIN
      clear h8 W8 ht HCL HW
      go_wp2
      go_end0
      exact ⟨rfl, HFIN.out⟩
    · have d2 : decide (0 < (m.vs - d.nr) % 128) = false := by simpa using hpos
      have eR := HE.out
      rw [if_neg hpos] at eR
      have HFIN := Lib.hid (W6.to h6)
      rw [← eR] at HFIN
      clear hpos eR HE h6 W6 et6
      go_wp2
      go_end0
      exact ⟨rfl, HFIN.out⟩
end Go.Proofs.YtneggoonlmmjeaaGreat
namespace Go.Proofs.YtneggoonlmmjeaaGreat
open Go.RowKit Go.Shelf
set_option linter.unusedVariables false
set_option linter.unusedSimpArgs false
set_option maxRecDepth 100000

/-- One goes. -/
def pushD (m : TM) : PD := ⟨0, 0, false, 0, 0, m.vs, m.vr, false, m.q.getD m.out []⟩
def pushS (m : TM) : TM := { sendM m (pushD m) with vs := (m.vs + 1) % 128, out := m.out + 1 }
def mayPush (m : TM) : Prop := m.busy = false ∧ (m.vs - m.va) % 128 < m.wide ∧ m.out < m.q.length
instance (m : TM) : Decidable (mayPush m) := by unfold mayPush; infer_instance
def pushL : Nat → TM → TM
  | 0, m => m
  | k + 1, m => if mayPush m then pushL k (pushS m) else m
def pushM (m : TM) : TM := let m1 := pushL (m.q.length - m.out) m; if 0 < (m1.vs - m1.va) % 128 ∧ tleft m1.tm 29 = 0 then startM m1 29 else m1
/-- What is so ahead of it. -/
structure pushP (m : TM) : Prop where
  tm : m.tm.length ≤ 1000
  q : m.q.length ≤ 1000
  out : m.out ≤ m.q.length
  dist : (m.out : Int) = (m.vs - m.va) % 128
  wide : m.wide ≤ 64
  sdu : ∀ x ∈ m.q, x.length ≤ 100000
  send : m.send.length + (m.q.length - m.out) ≤ 100000
  ca1 : 1 ≤ m.ca
  ca2 : m.ca ≤ 10000
  room : (tstop m.tm 29).length < 4
theorem pushP.step {m : TM} (h : pushP m) (k : mayPush m) : pushP (pushS m) := by
  obtain ⟨k1, k2, k3⟩ := k
  refine ⟨h.tm, h.q, ?_, ?_, h.wide, h.sdu, ?_, h.ca1, h.ca2, h.room⟩
  · show m.out + 1 ≤ m.q.length
    omega
  · show ((m.out + 1 : Nat) : Int) = ((m.vs + 1) % 128 - m.va) % 128
    have := h.dist; have := h.wide
    omega
  · show (m.send ++ [_]).length + (m.q.length - (m.out + 1)) ≤ 100000
    have := h.send
    rw [List.length_append]; simp only [List.length_cons, List.length_nil]
    omega

def outOf : Option Value → Nat
  | some (.int _ n) => n.toNat
  | _ => 0
set_option maxHeartbeats 2000000 in
theorem tie_push (w : World) (v : TV) (m : TM) (h : IsTie w v m) (hp : pushP m) :
    Calls Tryz.prog 160 #[.pointer (some ⟨v.t, 0, none⟩)] w fun e w' => e = .returned (.tuple #[]) ∧ TieTo w w' v (pushM m) := by
  obtain ⟨R, hR⟩ : ∃ R, pushM m = R := ⟨_, rfl⟩
  rw [hR]
  have HR := Lib.hid hR
  have HP := Lib.hid hp
  have H0 := Lib.hid h
  clear hR hp
  go_enter Tryz.func160, Tryz.ntmps160
  go_wp2
  go_loopw [] (fun wr => ∃ v' m', IsTie wr v' m' ∧ Went w wr v v' ∧ pushP m' ∧ pushL (m'.q.length - m'.out) m' = pushL (m.q.length - m.out) m ∧ m'.q.length = m.q.length) (fun wr => m.q.length - outOf (wr.cell? ⟨v.k, 1, none⟩))
  case atStart => exact ⟨v, m, H0.out, Went.refl _ _, HP.out, rfl, rfl⟩
  case round =>
    obtain ⟨v', m', h', W', hP', eL, eq⟩ := hrel
    have et := W'.t
    have efk := TV.fix_k W'.fix
    have e8 : (if 0 < ((pushL (m'.q.length - m'.out) m').vs - (pushL (m'.q.length - m'.out) m').va) % 128 ∧ tleft (pushL (m'.q.length - m'.out) m').tm 29 = 0 then startM (pushL (m'.q.length - m'.out) m') 29 else pushL (m'.q.length - m'.out) m') = R := by rw [eL]; exact HR.out
    have stop : ¬ mayPush m' → pushL (m'.q.length - m'.out) m' = m' := fun hn => by
      cases m'.q.length - m'.out with
      | zero => rfl
      | succ k => simp only [pushL]; rw [if_neg hn]
    have HN : ¬ mayPush m' → Hid (IsTie wr v' m' ∧ Went w wr v v' ∧ pushP m' ∧ (if 0 < (m'.vs - m'.va) % 128 ∧ tleft m'.tm 29 = 0 then startM m' 29 else m') = R) := fun hn => Lib.hid ⟨h', W', hP', by have := e8; rw [stop hn] at this; exact this⟩
    have k19 : ∀ wx, Fr [] wr wx → wx.cell? ⟨v.t, 19, none⟩ = some (.bool m'.busy) := fun wx hf => by rw [← et]; exact hf.cell h'.c19 (by simp)
    cases hb : m'.busy with
    | true =>
      rw [hb] at k19
      have HN := HN (fun h => by rw [h.1] at hb; cases hb)
      clear h' W' hP' eL eq et efk e8 stop hb
      go_wp2_with fail
      refine wp_region_keepsC [] [false, false, false, false, false, false, false, false, false, false, false, false, false, false, false, false, false] [none, none, none, none, none, none, none, none, none, none, none, none, none, none, none, none, none] (fun _ => True) [Is (.pointer (some ⟨v.t, 0, none⟩)), Is (.pointer (some ⟨v.t, 0, none⟩)), Is (.pointer (some ⟨v.t, 19, none⟩)), Is (.bool true), Is (.bool false), Is (.bool false), Any, Any, Any, Any, Any, Any, Any, Any, Any, Any, Is (.bool false)] 17 (by kernel_rfl) (by kernel_rfl) (by kernel_rfl) (by kernel_rfl) (by kernel_rfl) (by kernel_rfl) (by kernel_rfl) (by kernel_rfl) ?hV (fun _ _ _ h => h) trivial ?hS ?hD
      case hV =>
        repeat (first | exact trivial | exact Is.keepsN _ | exact Any.keepsN | refine And.intro ?_ ?_)
      case hS =>
        (repeat' (first | exact trivial | refine And.intro ?_ ?_))
        · intro ac wx hf hbs hs hp K hK
          simp only [zA, Region.binds, Nat.reduceAdd] at hp
          have hs0 := hs 0 (by kernel_rfl)
          simp only [Array.getD_eq_getD_getElem?, List.getElem?_toArray, List.getElem?_cons_succ, List.getElem?_cons_zero, Option.getD_some] at hs0
          clear hs
          clear hbs
          clear hp
          clear hf
          go_simp
          try dsimp only
          refine hK.out _ _ ?_ ?_
          · change Fr [] _ _
            (repeat (first | with_reducible (first | exact Fr.refl _ _ | assumption | refine Fr.drew ?_ | refine Fr.drewN ?_ _ | refine Fr.alloc ?_ _ | refine Fr.setL ?_ _ _ _ ?_) | (left; simp; done) | (right; first | (simp; done) | (simp; omega) | omega)); done)
          · simp only [nth]
            first | (unfold Is; rfl) | (unfold Any; exact trivial) | exact IsSl.new _ _ _ _ | assumption
        · intro ac wx hf hbs hs hp K hK
          simp only [zA, Region.binds, Nat.reduceAdd] at hp
          clear hs
          clear hbs
          have h0 := hp
          clear hp
          clear hf
          (try simp only [h0])
          go_simp
          try dsimp only
          refine hK.out _ _ ?_ ?_
          · change Fr [] _ _
            (repeat (first | with_reducible (first | exact Fr.refl _ _ | assumption | refine Fr.drew ?_ | refine Fr.drewN ?_ _ | refine Fr.alloc ?_ _ | refine Fr.setL ?_ _ _ _ ?_) | (left; simp; done) | (right; first | (simp; done) | (simp; omega) | omega)); done)
          · simp only [nth]
            first | (unfold Is; rfl) | (unfold Any; exact trivial) | exact IsSl.new _ _ _ _ | assumption
        · intro ac wx hf hbs hs hp K hK
          simp only [zA, Region.binds, Nat.reduceAdd] at hp
          clear hs
          clear hbs
          have h1 := hp
          clear hp
          clear hf
          (try simp only [h1])
          go_simp
          try dsimp only
          refine hK.out _ _ ?_ ?_
          · change Fr [] _ _
            (repeat (first | with_reducible (first | exact Fr.refl _ _ | assumption | refine Fr.drew ?_ | refine Fr.drewN ?_ _ | refine Fr.alloc ?_ _ | refine Fr.setL ?_ _ _ _ ?_) | (left; simp; done) | (right; first | (simp; done) | (simp; omega) | omega)); done)
          · simp only [nth]
            first | (unfold Is; rfl) | (unfold Any; exact trivial) | exact IsSl.new _ _ _ _ | assumption
        · intro ac wx hf hbs hs hp K hK
          simp only [zA, Region.binds, Nat.reduceAdd] at hp
          clear hs
          clear hbs
          have h2 := hp
          clear hp
          have cx := k19 wx hf
          clear hf
          (try simp only [h2])
          go_simp
          try dsimp only
          refine hK.out _ _ ?_ ?_
          · change Fr [] _ _
            (repeat (first | with_reducible (first | exact Fr.refl _ _ | assumption | refine Fr.drew ?_ | refine Fr.drewN ?_ _ | refine Fr.alloc ?_ _ | refine Fr.setL ?_ _ _ _ ?_) | (left; simp; done) | (right; first | (simp; done) | (simp; omega) | omega)); done)
          · simp only [nth]
            first | (unfold Is; rfl) | (unfold Any; exact trivial) | exact IsSl.new _ _ _ _ | assumption
        · intro ac wx hf hbs hs hp K hK
          simp only [zA, Region.binds, Nat.reduceAdd] at hp
          clear hs
          clear hbs
          have h3 := hp
          clear hp
          clear hf
          (try simp only [h3])
          go_simp
          try dsimp only
          refine hK.out _ _ ?_ ?_
          · change Fr [] _ _
            (repeat (first | with_reducible (first | exact Fr.refl _ _ | assumption | refine Fr.drew ?_ | refine Fr.drewN ?_ _ | refine Fr.alloc ?_ _ | refine Fr.setL ?_ _ _ _ ?_) | (left; simp; done) | (right; first | (simp; done) | (simp; omega) | omega)); done)
          · simp only [nth]
            first | (unfold Is; rfl) | (unfold Any; exact trivial) | exact IsSl.new _ _ _ _ | assumption
        · intro ac wx hf hbs hs hp K hK
          simp only [zA, Region.binds, Nat.reduceAdd] at hp
          clear hs
          clear hbs
          have h4 := hp
          clear hp
          clear hf
          (try simp only [h4])
          go_simp
          try dsimp only
          refine hK.out _ _ ?_ ?_
          · change Fr [] _ _
            (repeat (first | with_reducible (first | exact Fr.refl _ _ | assumption | refine Fr.drew ?_ | refine Fr.drewN ?_ _ | refine Fr.alloc ?_ _ | refine Fr.setL ?_ _ _ _ ?_) | (left; simp; done) | (right; first | (simp; done) | (simp; omega) | omega)); done)
          · simp only [nth]
            first | (unfold Is; rfl) | (unfold Any; exact trivial) | exact IsSl.new _ _ _ _ | assumption
        · intro ac wx hf hbs hs hp K hK
          simp only [zA, Region.binds, Nat.reduceAdd] at hp
          have hs0 := hs 0 (by kernel_rfl)
          simp only [Array.getD_eq_getD_getElem?, List.getElem?_toArray, List.getElem?_cons_succ, List.getElem?_cons_zero, Option.getD_some] at hs0
          clear hs
          clear hbs
          have h5 := hp
          clear hp
          have hg5 := (getD_bool _ _).1 h5
          clear hf
          (try simp only [h5, hg5])
          go_simp
          try dsimp only
          refine hK.out _ _ ?_ ?_
          · change Fr [] _ _
            (repeat (first | with_reducible (first | exact Fr.refl _ _ | assumption | refine Fr.drew ?_ | refine Fr.drewN ?_ _ | refine Fr.alloc ?_ _ | refine Fr.setL ?_ _ _ _ ?_) | (left; simp; done) | (right; first | (simp; done) | (simp; omega) | omega)); done)
          · simp only [nth]
            first | (unfold Is; rfl) | (unfold Any; exact trivial) | exact IsSl.new _ _ _ _ | assumption
        · intro ac wx hf hbs hs hp K hK
          simp only [zA, Region.binds, Nat.reduceAdd] at hp
          clear hs
          clear hbs
          have h5 := hp
          clear hp
          have hg5 := (getD_bool _ _).1 h5
          clear hf
          (try simp only [h5, hg5])
          go_simp
          try dsimp only
          refine hK.out _ _ ?_ ?_
          · change Fr [] _ _
            (repeat (first | with_reducible (first | exact Fr.refl _ _ | assumption | refine Fr.drew ?_ | refine Fr.drewN ?_ _ | refine Fr.alloc ?_ _ | refine Fr.setL ?_ _ _ _ ?_) | (left; simp; done) | (right; first | (simp; done) | (simp; omega) | omega)); done)
          · simp only [nth]
            first | (unfold Is; rfl) | (unfold Any; exact trivial) | exact IsSl.new _ _ _ _ | assumption
        · intro ac wx hf hbs hs hp K hK
          simp only [zA, Region.binds, Nat.reduceAdd] at hp
          clear hs
          clear hbs
          have h5 := hp
          clear hp
          have hg5 := (getD_bool _ _).1 h5
          clear hf
          (try simp only [h5, hg5])
          go_simp
          try dsimp only
          refine hK.out _ _ ?_ ?_
          · change Fr [] _ _
            (repeat (first | with_reducible (first | exact Fr.refl _ _ | assumption | refine Fr.drew ?_ | refine Fr.drewN ?_ _ | refine Fr.alloc ?_ _ | refine Fr.setL ?_ _ _ _ ?_) | (left; simp; done) | (right; first | (simp; done) | (simp; omega) | omega)); done)
          · simp only [nth]
            first | (unfold Is; rfl) | (unfold Any; exact trivial) | exact IsSl.new _ _ _ _ | assumption
        · intro ac wx hf hbs hs hp K hK
          simp only [zA, Region.binds, Nat.reduceAdd] at hp
          clear hs
          clear hbs
          obtain ⟨h5, h5_2⟩ := hp
          have hg5 := (getD_bool _ _).1 h5
          clear hf
          (try simp only [h5, hg5])
          go_simp
          try dsimp only
          refine hK.out _ _ ?_ ?_
          · change Fr [] _ _
            (repeat (first | with_reducible (first | exact Fr.refl _ _ | assumption | refine Fr.drew ?_ | refine Fr.drewN ?_ _ | refine Fr.alloc ?_ _ | refine Fr.setL ?_ _ _ _ ?_) | (left; simp; done) | (right; first | (simp; done) | (simp; omega) | omega)); done)
          · simp only [nth]
            first | (unfold Is; rfl) | (unfold Any; exact trivial) | exact IsSl.new _ _ _ _ | assumption
        · intro ac wx hf hbs hs hp K hK
          simp only [zA, Region.binds, Nat.reduceAdd] at hp
          have hs0 := hs 0 (by kernel_rfl)
          simp only [Array.getD_eq_getD_getElem?, List.getElem?_toArray, List.getElem?_cons_succ, List.getElem?_cons_zero, Option.getD_some] at hs0
          clear hs
          clear hbs
          have h5 := hp
          clear hp
          have hg5 := (getD_bool _ _).1 h5
          clear hf
          (try simp only [h5, hg5])
          go_simp
          try dsimp only
          refine hK.out _ _ ?_ ?_
          · change Fr [] _ _
            (repeat (first | with_reducible (first | exact Fr.refl _ _ | assumption | refine Fr.drew ?_ | refine Fr.drewN ?_ _ | refine Fr.alloc ?_ _ | refine Fr.setL ?_ _ _ _ ?_) | (left; simp; done) | (right; first | (simp; done) | (simp; omega) | omega)); done)
          · simp only [nth]
            first | (unfold Is; rfl) | (unfold Any; exact trivial) | exact IsSl.new _ _ _ _ | assumption
        · intro ac wx hf hbs hs hp K hK
          simp only [zA, Region.binds, Nat.reduceAdd] at hp
          clear hs
          clear hbs
          have h5 := hp
          clear hp
          have hg5 := (getD_bool _ _).1 h5
          clear hf
          (try simp only [h5, hg5])
          go_simp
          try dsimp only
          refine hK.out _ _ ?_ ?_
          · change Fr [] _ _
            (repeat (first | with_reducible (first | exact Fr.refl _ _ | assumption | refine Fr.drew ?_ | refine Fr.drewN ?_ _ | refine Fr.alloc ?_ _ | refine Fr.setL ?_ _ _ _ ?_) | (left; simp; done) | (right; first | (simp; done) | (simp; omega) | omega)); done)
          · simp only [nth]
            first | (unfold Is; rfl) | (unfold Any; exact trivial) | exact IsSl.new _ _ _ _ | assumption
        · intro ac wx hf hbs hs hp K hK
          simp only [zA, Region.binds, Nat.reduceAdd] at hp
          clear hs
          clear hbs
          have h5 := hp
          clear hp
          have hg5 := (getD_bool _ _).1 h5
          clear hf
          (try simp only [h5, hg5])
          go_simp
          try dsimp only
          refine hK.out _ _ ?_ ?_
          · change Fr [] _ _
            (repeat (first | with_reducible (first | exact Fr.refl _ _ | assumption | refine Fr.drew ?_ | refine Fr.drewN ?_ _ | refine Fr.alloc ?_ _ | refine Fr.setL ?_ _ _ _ ?_) | (left; simp; done) | (right; first | (simp; done) | (simp; omega) | omega)); done)
          · simp only [nth]
            first | (unfold Is; rfl) | (unfold Any; exact trivial) | exact IsSl.new _ _ _ _ | assumption
        · intro ac wx hf hbs hs hp K hK
          simp only [zA, Region.binds, Nat.reduceAdd] at hp
          clear hs
          clear hbs
          have h5 := hp
          clear hp
          have hg5 := (getD_bool _ _).1 h5
          clear hf
          (try simp only [h5, hg5])
          go_simp
          try dsimp only
          refine hK.out _ _ ?_ ?_
          · change Fr [] _ _
            (repeat (first | with_reducible (first | exact Fr.refl _ _ | assumption | refine Fr.drew ?_ | refine Fr.drewN ?_ _ | refine Fr.alloc ?_ _ | refine Fr.setL ?_ _ _ _ ?_) | (left; simp; done) | (right; first | (simp; done) | (simp; omega) | omega)); done)
          · simp only [nth]
            first | (unfold Is; rfl) | (unfold Any; exact trivial) | exact IsSl.new _ _ _ _ | assumption
        · intro ac wx hf hbs hs hp K hK
          simp only [zA, Region.binds, Nat.reduceAdd] at hp
          clear hs
          clear hbs
          have h5 := hp
          clear hp
          have hg5 := (getD_bool _ _).1 h5
          clear hf
          (try simp only [h5, hg5])
          go_simp
          try dsimp only
          refine hK.out _ _ ?_ ?_
          · change Fr [] _ _
            (repeat (first | with_reducible (first | exact Fr.refl _ _ | assumption | refine Fr.drew ?_ | refine Fr.drewN ?_ _ | refine Fr.alloc ?_ _ | refine Fr.setL ?_ _ _ _ ?_) | (left; simp; done) | (right; first | (simp; done) | (simp; omega) | omega)); done)
          · simp only [nth]
            first | (unfold Is; rfl) | (unfold Any; exact trivial) | exact IsSl.new _ _ _ _ | assumption
        · intro ac wx hf hbs hs hp K hK
          simp only [zA, Region.binds, Nat.reduceAdd] at hp
          clear hs
          clear hbs
          have h5 := hp
          clear hp
          have hg5 := (getD_bool _ _).1 h5
          clear hf
          (try simp only [h5, hg5])
          go_simp
          try dsimp only
          refine hK.out _ _ ?_ ?_
          · change Fr [] _ _
            (repeat (first | with_reducible (first | exact Fr.refl _ _ | assumption | refine Fr.drew ?_ | refine Fr.drewN ?_ _ | refine Fr.alloc ?_ _ | refine Fr.setL ?_ _ _ _ ?_) | (left; simp; done) | (right; first | (simp; done) | (simp; omega) | omega)); done)
          · simp only [nth]
            first | (unfold Is; rfl) | (unfold Any; exact trivial) | exact IsSl.new _ _ _ _ | assumption
        · intro ac wx hf hbs hs hp K hK
          simp only [zA, Region.binds, Nat.reduceAdd] at hp
          clear hs
          clear hbs
          have h5 := hp
          clear hp
          clear hf
          (try simp only [h5])
          go_simp
          try dsimp only
          refine hK.out _ _ ?_ ?_
          · change Fr [] _ _
            (repeat (first | with_reducible (first | exact Fr.refl _ _ | assumption | refine Fr.drew ?_ | refine Fr.drewN ?_ _ | refine Fr.alloc ?_ _ | refine Fr.setL ?_ _ _ _ ?_) | (left; simp; done) | (right; first | (simp; done) | (simp; omega) | omega)); done)
          · simp only [nth]
            first | (unfold Is; rfl) | (unfold Any; exact trivial) | exact IsSl.new _ _ _ _ | assumption
      case hD =>
        intro xv wx hf hp
        simp only [List.take_succ_cons, List.take_zero, List.drop_succ_cons, List.drop_zero, fill, List.setIfInBounds_toArray, List.set_cons_zero, List.set_cons_succ, Nat.reduceAdd, Act.put]
        rw [show live 17 (deadC [none, none, none, none, none, none, none, none, none, none, none, none, none, none, none, none, none]) = [0, 1, 2, 3, 4, 5, 6, 7, 8, 9, 10, 11, 12, 13, 14, 15, 16] from by decide] at hp
        simp only [holds, nth, Is, Any, true_and, and_true] at hp
        obtain ⟨p0, p1, p2, p3, p4, p5, p16⟩ := hp
        clear p0 k19
        have HN : Hid (IsTie wx v' m' ∧ Went w wx v v' ∧ pushP m' ∧ (if 0 < (m'.vs - m'.va) % 128 ∧ tleft m'.tm 29 = 0 then startM m' 29 else m') = R) := Lib.hid ⟨HN.out.1.fr0 hf, HN.out.2.1.fr0 hf, HN.out.2.2⟩
        clear hf
        simp only [p16]
        clear p1 p2 p3 p4 p5 p16
        obtain ⟨h8, W8, P8, E8⟩ := HN.out
        have hO8 := vars_Out v'.t (m'.cells v') m'.vs m'.vr m'.va wx h8.v3
        rw [W8.t] at hO8
        clear h8 W8 P8 E8
        go_wp2_with fail
        refine hO8.mono ?_
        rintro e w5 ⟨rfl, f5⟩
        obtain ⟨h8, W8, P8, E8⟩ := HN.out
        have h9 := h8.fr0 f5
        have W9 := W8.fr0 f5
        have tm9 := P8.tm
        have rm9 := P8.room
        have ca1 := P8.ca1
        have ca2 := P8.ca2
        clear hO8 h8 W8 P8 f5
        by_cases hpos : 0 < (m'.vs - m'.va) % 128
        · have d8 : decide (0 < (m'.vs - m'.va) % 128) = true := by simpa using hpos
          have c15 := h9.c15
          rw [W9.t] at c15
          have hL := clk_Left w5 v'.c v'.cl 4 v'.now m'.tm 29 h9.clk tm9
          have H9 := Lib.hid (And.intro h9 (And.intro W9 (And.intro E8 hpos)))
          clear h9 W9 E8 hpos
          go_wp2_with fail
          refine hL.mono ?_
          rintro e w6 ⟨rfl, f6⟩
          by_cases hz : tleft m'.tm 29 = 0
          · have d9 : (tleft m'.tm 29 == 0) = true := by rw [beq_iff_eq]; exact hz
            obtain ⟨h9, W9, E8, hpos⟩ := H9.out
            have h10 := h9.fr0 f6
            have W10 := W9.fr0 f6
            have hst := tie_start w6 v' m' 29 h10
            rw [W10.t] at hst
            have eR : R = startM m' 29 := by rw [← E8, if_pos ⟨hpos, hz⟩]
            have HE := Lib.hid eR
            have H10 := Lib.hid (And.intro h10 W10)
            clear h9 W9 E8 hpos h10 W10 eR H9 hL f6 c15 hz
            go_wp2_with fail
            refine hst.mono ?_
            rintro e w7 ⟨b0, b1, b2, M, rfl, c0, c1, c2, hM, l0, l1, l2, l3, f7⟩
            obtain ⟨h10, W10⟩ := H10.out
            have h11 := h10.fr0 f7
            have W11 := W10.fr0 f7
            have hcl := tie_start1 w7 v' m' 29 b0 b1 b2 M h11 (by rw [W11.t]; exact c0) c1 c2 hM (by omega) (by omega) tm9 ca1 ca2 (fun hn => by
              have : tstop m'.tm 29 = m'.tm := by
                rcases tidx_cases m'.tm 29 with ⟨_, _, e, _⟩ | ⟨i, hi, _, e, _⟩
                · exact e
                · omega
              rw [this] at rm9
              omega)
            have HCL := Lib.hid hcl
            have HW := Lib.hid W11
            clear hst H10 h10 W10 h11 W11 hcl hM c0 c1 c2 l0 l1 l2 l3 f7
            go_wp2_with fail
            refine HCL.out.mono ?_
            rintro e w8 ⟨rfl, ht⟩
            obtain ⟨v9, h12, W12⟩ := HW.out.step ht
            have HFIN := Lib.hid (W12.to h12)
            rw [← HE.out] at HFIN
            clear h12 W12 ht HCL HW
            go_wp2
            go_end0
            exact ⟨rfl, HFIN.out⟩
          · have d9 : (tleft m'.tm 29 == 0) = false := by rw [beq_eq_false_iff_ne]; exact hz
            obtain ⟨h9, W9, E8, hpos⟩ := H9.out
            have HFIN := Lib.hid ((W9.fr0 f6).to (h9.fr0 f6))
            rw [show m' = R by rw [← E8, if_neg (fun h => hz h.2)]] at HFIN
            clear h9 W9 E8 hpos H9 hL f6 c15 hz
            go_wp2
            go_end0
            exact ⟨rfl, HFIN.out⟩
        · have d8 : decide (0 < (m'.vs - m'.va) % 128) = false := by simpa using hpos
          have HFIN := Lib.hid (W9.to h9)
          rw [show m' = R by rw [← E8, if_neg (fun h => hpos h.1)]] at HFIN
          clear h9 W9 E8 hpos
          go_wp2
          go_end0
          exact ⟨rfl, HFIN.out⟩
    | false =>
      rw [hb] at k19
      obtain ⟨X, hX⟩ : ∃ X, (m'.vs - m'.va) % 128 = X := ⟨_, rfl⟩
      obtain ⟨Y, hY⟩ : ∃ Y, decide (X < m'.wide) = Y := ⟨_, rfl⟩
      have k14 : ∀ wx, Fr [] wr wx → wx.cell? ⟨v.t, 14, none⟩ = some (.pointer (some ⟨v'.w, 0, none⟩)) := fun wx hf => by rw [← et]; exact hf.cell h'.c14 (by simp)
      have hVO : ∀ wx, Fr [] wr wx → Calls Tryz.prog 206 #[.pointer (some ⟨v.t, 10, none⟩)] wx fun e w' => e = .returned (.int .i64 X) ∧ Fr [] wx w' := fun wx hf => by
        rw [← hX, ← et]
        exact vars_Out v'.t (m'.cells v') m'.vs m'.vr m'.va _ (h'.fr0 hf).v3
      have hWN : ∀ wx, Fr [] wr wx → Calls Tryz.prog 81 #[.pointer (some ⟨v'.w, 0, none⟩)] wx fun e w' => e = .returned (.int .i64 m'.wide) ∧ wx = w' := fun wx hf => win_Now v'.w m'.cw m'.wide m'.count _ (h'.fr0 hf).win
      have HVO := Lib.hid hVO
      have HWN := Lib.hid hWN
      have HY := Lib.hid (show Value.bool (decide (X < m'.wide)) = Value.bool Y by rw [hY])
      have HA := Lib.hid (And.intro h' (And.intro W' (And.intro hP' (And.intro eL (And.intro eq (And.intro efk (And.intro hX (And.intro hY hb))))))))
      have HE8 := Lib.hid (And.intro e8 stop)
      clear h' W' hP' eL eq et efk e8 stop hb hX hY hVO hWN
      go_wp2_with fail
      refine wp_region_keepsC [] [false, false, false, false, false, false, false, false, false, false, false, false, false, false, false, false, false] [none, none, none, none, none, none, none, none, none, none, none, none, none, none, none, none, none] (fun _ => True) [Is (.pointer (some ⟨v.t, 0, none⟩)), Is (.pointer (some ⟨v.t, 0, none⟩)), Is (.pointer (some ⟨v.t, 19, none⟩)), Is (.bool false), Is (.bool true), Is (.bool true), Is (.pointer (some ⟨v.t, 0, none⟩)), Is (.pointer (some ⟨v.t, 0, none⟩)), Is (.pointer (some ⟨v.t, 10, none⟩)), Is (.int .i64 X), Is (.pointer (some ⟨v.t, 0, none⟩)), Is (.pointer (some ⟨v.t, 0, none⟩)), Is (.pointer (some ⟨v.t, 14, none⟩)), Is (.pointer (some ⟨v'.w, 0, none⟩)), Is (.int .i64 m'.wide), Is (.bool Y), Is (.bool Y)] 17 (by kernel_rfl) (by kernel_rfl) (by kernel_rfl) (by kernel_rfl) (by kernel_rfl) (by kernel_rfl) (by kernel_rfl) (by kernel_rfl) ?hV (fun _ _ _ h => h) trivial ?hS ?hD
      case hV =>
        repeat (first | exact trivial | exact Is.keepsN _ | exact Any.keepsN | refine And.intro ?_ ?_)
      case hS =>
        (repeat' (first | exact trivial | refine And.intro ?_ ?_))
        · intro ac wx hf hbs hs hp K hK
          simp only [zA, Region.binds, Nat.reduceAdd] at hp
          have hs0 := hs 0 (by kernel_rfl)
          simp only [Array.getD_eq_getD_getElem?, List.getElem?_toArray, List.getElem?_cons_succ, List.getElem?_cons_zero, Option.getD_some] at hs0
          clear hs
          clear hbs
          clear hp
          clear hf
          go_simp
          try dsimp only
          refine hK.out _ _ ?_ ?_
          · change Fr [] _ _
            (repeat (first | with_reducible (first | exact Fr.refl _ _ | assumption | refine Fr.drew ?_ | refine Fr.drewN ?_ _ | refine Fr.alloc ?_ _ | refine Fr.setL ?_ _ _ _ ?_) | (left; simp; done) | (right; first | (simp; done) | (simp; omega) | omega)); done)
          · simp only [nth]
            first | (unfold Is; rfl) | (unfold Any; exact trivial) | exact IsSl.new _ _ _ _ | assumption
        · intro ac wx hf hbs hs hp K hK
          simp only [zA, Region.binds, Nat.reduceAdd] at hp
          clear hs
          clear hbs
          have h0 := hp
          clear hp
          clear hf
          (try simp only [h0])
          go_simp
          try dsimp only
          refine hK.out _ _ ?_ ?_
          · change Fr [] _ _
            (repeat (first | with_reducible (first | exact Fr.refl _ _ | assumption | refine Fr.drew ?_ | refine Fr.drewN ?_ _ | refine Fr.alloc ?_ _ | refine Fr.setL ?_ _ _ _ ?_) | (left; simp; done) | (right; first | (simp; done) | (simp; omega) | omega)); done)
          · simp only [nth]
            first | (unfold Is; rfl) | (unfold Any; exact trivial) | exact IsSl.new _ _ _ _ | assumption
        · intro ac wx hf hbs hs hp K hK
          simp only [zA, Region.binds, Nat.reduceAdd] at hp
          clear hs
          clear hbs
          have h1 := hp
          clear hp
          clear hf
          (try simp only [h1])
          go_simp
          try dsimp only
          refine hK.out _ _ ?_ ?_
          · change Fr [] _ _
            (repeat (first | with_reducible (first | exact Fr.refl _ _ | assumption | refine Fr.drew ?_ | refine Fr.drewN ?_ _ | refine Fr.alloc ?_ _ | refine Fr.setL ?_ _ _ _ ?_) | (left; simp; done) | (right; first | (simp; done) | (simp; omega) | omega)); done)
          · simp only [nth]
            first | (unfold Is; rfl) | (unfold Any; exact trivial) | exact IsSl.new _ _ _ _ | assumption
        · intro ac wx hf hbs hs hp K hK
          simp only [zA, Region.binds, Nat.reduceAdd] at hp
          clear hs
          clear hbs
          have h2 := hp
          clear hp
          have cx := k19 wx hf
          clear hf
          (try simp only [h2])
          go_simp
          try dsimp only
          refine hK.out _ _ ?_ ?_
          · change Fr [] _ _
            (repeat (first | with_reducible (first | exact Fr.refl _ _ | assumption | refine Fr.drew ?_ | refine Fr.drewN ?_ _ | refine Fr.alloc ?_ _ | refine Fr.setL ?_ _ _ _ ?_) | (left; simp; done) | (right; first | (simp; done) | (simp; omega) | omega)); done)
          · simp only [nth]
            first | (unfold Is; rfl) | (unfold Any; exact trivial) | exact IsSl.new _ _ _ _ | assumption
        · intro ac wx hf hbs hs hp K hK
          simp only [zA, Region.binds, Nat.reduceAdd] at hp
          clear hs
          clear hbs
          have h3 := hp
          clear hp
          clear hf
          (try simp only [h3])
          go_simp
          try dsimp only
          refine hK.out _ _ ?_ ?_
          · change Fr [] _ _
            (repeat (first | with_reducible (first | exact Fr.refl _ _ | assumption | refine Fr.drew ?_ | refine Fr.drewN ?_ _ | refine Fr.alloc ?_ _ | refine Fr.setL ?_ _ _ _ ?_) | (left; simp; done) | (right; first | (simp; done) | (simp; omega) | omega)); done)
          · simp only [nth]
            first | (unfold Is; rfl) | (unfold Any; exact trivial) | exact IsSl.new _ _ _ _ | assumption
        · intro ac wx hf hbs hs hp K hK
          simp only [zA, Region.binds, Nat.reduceAdd] at hp
          clear hs
          clear hbs
          have h4 := hp
          clear hp
          clear hf
          (try simp only [h4])
          go_simp
          try dsimp only
          refine hK.out _ _ ?_ ?_
          · change Fr [] _ _
            (repeat (first | with_reducible (first | exact Fr.refl _ _ | assumption | refine Fr.drew ?_ | refine Fr.drewN ?_ _ | refine Fr.alloc ?_ _ | refine Fr.setL ?_ _ _ _ ?_) | (left; simp; done) | (right; first | (simp; done) | (simp; omega) | omega)); done)
          · simp only [nth]
            first | (unfold Is; rfl) | (unfold Any; exact trivial) | exact IsSl.new _ _ _ _ | assumption
        · intro ac wx hf hbs hs hp K hK
          simp only [zA, Region.binds, Nat.reduceAdd] at hp
          have hs0 := hs 0 (by kernel_rfl)
          simp only [Array.getD_eq_getD_getElem?, List.getElem?_toArray, List.getElem?_cons_succ, List.getElem?_cons_zero, Option.getD_some] at hs0
          clear hs
          clear hbs
          have h5 := hp
          clear hp
          have hg5 := (getD_bool _ _).1 h5
          clear hf
          (try simp only [h5, hg5])
          go_simp
          try dsimp only
          refine hK.out _ _ ?_ ?_
          · change Fr [] _ _
            (repeat (first | with_reducible (first | exact Fr.refl _ _ | assumption | refine Fr.drew ?_ | refine Fr.drewN ?_ _ | refine Fr.alloc ?_ _ | refine Fr.setL ?_ _ _ _ ?_) | (left; simp; done) | (right; first | (simp; done) | (simp; omega) | omega)); done)
          · simp only [nth]
            first | (unfold Is; rfl) | (unfold Any; exact trivial) | exact IsSl.new _ _ _ _ | assumption
        · intro ac wx hf hbs hs hp K hK
          simp only [zA, Region.binds, Nat.reduceAdd] at hp
          clear hs
          clear hbs
          obtain ⟨h6, h5⟩ := hp
          have hg5 := (getD_bool _ _).1 h5
          clear hf
          (try simp only [h6, h5, hg5])
          go_simp
          try dsimp only
          refine hK.out _ _ ?_ ?_
          · change Fr [] _ _
            (repeat (first | with_reducible (first | exact Fr.refl _ _ | assumption | refine Fr.drew ?_ | refine Fr.drewN ?_ _ | refine Fr.alloc ?_ _ | refine Fr.setL ?_ _ _ _ ?_) | (left; simp; done) | (right; first | (simp; done) | (simp; omega) | omega)); done)
          · simp only [nth]
            first | (unfold Is; rfl) | (unfold Any; exact trivial) | exact IsSl.new _ _ _ _ | assumption
        · intro ac wx hf hbs hs hp K hK
          simp only [zA, Region.binds, Nat.reduceAdd] at hp
          clear hs
          clear hbs
          obtain ⟨h7, h5⟩ := hp
          have hg5 := (getD_bool _ _).1 h5
          clear hf
          (try simp only [h7, h5, hg5])
          go_simp
          try dsimp only
          refine hK.out _ _ ?_ ?_
          · change Fr [] _ _
            (repeat (first | with_reducible (first | exact Fr.refl _ _ | assumption | refine Fr.drew ?_ | refine Fr.drewN ?_ _ | refine Fr.alloc ?_ _ | refine Fr.setL ?_ _ _ _ ?_) | (left; simp; done) | (right; first | (simp; done) | (simp; omega) | omega)); done)
          · simp only [nth]
            first | (unfold Is; rfl) | (unfold Any; exact trivial) | exact IsSl.new _ _ _ _ | assumption
        · intro ac wx hf hbs hs hp K hK
          simp only [zA, Region.binds, Nat.reduceAdd] at hp
          clear hs
          clear hbs
          obtain ⟨h8, h5, h5_2⟩ := hp
          have hg5 := (getD_bool _ _).1 h5
          (try simp only [h8, h5, hg5])
          go_simp
          go_at_call 206
          refine (HVO.out _ hf).mono ?_
          rintro e w' ⟨rfl, fz⟩
          exact hK.out _ _ fz rfl
        · intro ac wx hf hbs hs hp K hK
          simp only [zA, Region.binds, Nat.reduceAdd] at hp
          have hs0 := hs 0 (by kernel_rfl)
          simp only [Array.getD_eq_getD_getElem?, List.getElem?_toArray, List.getElem?_cons_succ, List.getElem?_cons_zero, Option.getD_some] at hs0
          clear hs
          clear hbs
          have h5 := hp
          clear hp
          have hg5 := (getD_bool _ _).1 h5
          clear hf
          (try simp only [h5, hg5])
          go_simp
          try dsimp only
          refine hK.out _ _ ?_ ?_
          · change Fr [] _ _
            (repeat (first | with_reducible (first | exact Fr.refl _ _ | assumption | refine Fr.drew ?_ | refine Fr.drewN ?_ _ | refine Fr.alloc ?_ _ | refine Fr.setL ?_ _ _ _ ?_) | (left; simp; done) | (right; first | (simp; done) | (simp; omega) | omega)); done)
          · simp only [nth]
            first | (unfold Is; rfl) | (unfold Any; exact trivial) | exact IsSl.new _ _ _ _ | assumption
        · intro ac wx hf hbs hs hp K hK
          simp only [zA, Region.binds, Nat.reduceAdd] at hp
          clear hs
          clear hbs
          obtain ⟨h10, h5⟩ := hp
          have hg5 := (getD_bool _ _).1 h5
          clear hf
          (try simp only [h10, h5, hg5])
          go_simp
          try dsimp only
          refine hK.out _ _ ?_ ?_
          · change Fr [] _ _
            (repeat (first | with_reducible (first | exact Fr.refl _ _ | assumption | refine Fr.drew ?_ | refine Fr.drewN ?_ _ | refine Fr.alloc ?_ _ | refine Fr.setL ?_ _ _ _ ?_) | (left; simp; done) | (right; first | (simp; done) | (simp; omega) | omega)); done)
          · simp only [nth]
            first | (unfold Is; rfl) | (unfold Any; exact trivial) | exact IsSl.new _ _ _ _ | assumption
        · intro ac wx hf hbs hs hp K hK
          simp only [zA, Region.binds, Nat.reduceAdd] at hp
          clear hs
          clear hbs
          obtain ⟨h11, h5⟩ := hp
          have hg5 := (getD_bool _ _).1 h5
          clear hf
          (try simp only [h11, h5, hg5])
          go_simp
          try dsimp only
          refine hK.out _ _ ?_ ?_
          · change Fr [] _ _
            (repeat (first | with_reducible (first | exact Fr.refl _ _ | assumption | refine Fr.drew ?_ | refine Fr.drewN ?_ _ | refine Fr.alloc ?_ _ | refine Fr.setL ?_ _ _ _ ?_) | (left; simp; done) | (right; first | (simp; done) | (simp; omega) | omega)); done)
          · simp only [nth]
            first | (unfold Is; rfl) | (unfold Any; exact trivial) | exact IsSl.new _ _ _ _ | assumption
        · intro ac wx hf hbs hs hp K hK
          simp only [zA, Region.binds, Nat.reduceAdd] at hp
          clear hs
          clear hbs
          obtain ⟨h12, h5⟩ := hp
          have hg5 := (getD_bool _ _).1 h5
          have cx := k14 wx hf
          clear hf
          (try simp only [h12, h5, hg5])
          go_simp
          try dsimp only
          refine hK.out _ _ ?_ ?_
          · change Fr [] _ _
            (repeat (first | with_reducible (first | exact Fr.refl _ _ | assumption | refine Fr.drew ?_ | refine Fr.drewN ?_ _ | refine Fr.alloc ?_ _ | refine Fr.setL ?_ _ _ _ ?_) | (left; simp; done) | (right; first | (simp; done) | (simp; omega) | omega)); done)
          · simp only [nth]
            first | (unfold Is; rfl) | (unfold Any; exact trivial) | exact IsSl.new _ _ _ _ | assumption
        · intro ac wx hf hbs hs hp K hK
          simp only [zA, Region.binds, Nat.reduceAdd] at hp
          clear hs
          clear hbs
          obtain ⟨h13, h9, h5⟩ := hp
          have hg5 := (getD_bool _ _).1 h5
          (try simp only [h13, h9, h5, hg5])
          go_simp
          go_at_call 81
          refine (HWN.out _ hf).mono ?_
          rintro e w' ⟨rfl, rfl⟩
          try dsimp only
          refine hK.out _ _ ?_ ?_
          · change Fr [] _ _
            (repeat (first | with_reducible (first | exact Fr.refl _ _ | assumption | refine Fr.drew ?_ | refine Fr.drewN ?_ _ | refine Fr.alloc ?_ _ | refine Fr.setL ?_ _ _ _ ?_) | (left; simp; done) | (right; first | (simp; done) | (simp; omega) | omega)); done)
          · simp only [nth]
            first | (unfold Is; rfl) | (unfold Any; exact trivial) | exact IsSl.new _ _ _ _ | assumption
        · intro ac wx hf hbs hs hp K hK
          simp only [zA, Region.binds, Nat.reduceAdd] at hp
          clear hs
          clear hbs
          obtain ⟨h9, h14, h5⟩ := hp
          have hg5 := (getD_bool _ _).1 h5
          clear hf
          (try simp only [h9, h14, h5, hg5])
          go_simp
          refine hK.out _ _ ?_ ?_
          · change Fr [] _ _
            exact Fr.refl _ _
          · simp only [nth]
            exact HY.out
        · intro ac wx hf hbs hs hp K hK
          simp only [zA, Region.binds, Nat.reduceAdd] at hp
          clear hs
          clear hbs
          obtain ⟨h5, h15⟩ := hp
          clear hf
          (try simp only [h5, h15])
          go_simp
          try dsimp only
          refine hK.out _ _ ?_ ?_
          · change Fr [] _ _
            (repeat (first | with_reducible (first | exact Fr.refl _ _ | assumption | refine Fr.drew ?_ | refine Fr.drewN ?_ _ | refine Fr.alloc ?_ _ | refine Fr.setL ?_ _ _ _ ?_) | (left; simp; done) | (right; first | (simp; done) | (simp; omega) | omega)); done)
          · simp only [nth]
            first | (unfold Is; rfl) | (unfold Any; exact trivial) | exact IsSl.new _ _ _ _ | assumption
      case hD =>
        intro xv wx hf hp
        simp only [List.take_succ_cons, List.take_zero, List.drop_succ_cons, List.drop_zero, fill, List.setIfInBounds_toArray, List.set_cons_zero, List.set_cons_succ, Nat.reduceAdd, Act.put]
        rw [show live 17 (deadC [none, none, none, none, none, none, none, none, none, none, none, none, none, none, none, none, none]) = [0, 1, 2, 3, 4, 5, 6, 7, 8, 9, 10, 11, 12, 13, 14, 15, 16] from by decide] at hp
        simp only [holds, nth, Is, Any, true_and, and_true] at hp
        obtain ⟨p0, p1, p2, p3, p4, p5, p6, p7, p8, p9, p10, p11, p12, p13, p14, p15, p16⟩ := hp
        simp only [p16]
        clear p0 p1 p2 p3 p4 p5 p6 p7 p8 p9 p10 p11 p12 p13 p14 p15 p16 k19 k14 HN HVO HWN HY
        obtain ⟨h', W', hP', eL, eq, efk, hX, hY, hb⟩ := HA.out
        have h1 := h'.fr0 hf
        have W1 := W'.fr0 hf
        have et := W1.t
        cases Y with
        | false =>
          have hn : ¬ mayPush m' := fun h => by have := h.2.1; rw [hX] at this; simp at hY; omega
          have HN : Hid (IsTie wx v' m' ∧ Went w wx v v' ∧ pushP m' ∧ (if 0 < (m'.vs - m'.va) % 128 ∧ tleft m'.tm 29 = 0 then startM m' 29 else m') = R) := Lib.hid ⟨h1, W1, hP', by have := HE8.out.1; rw [HE8.out.2 hn] at this; exact this⟩
          clear HE8 HA h' W' hP' eL eq efk hX hY hb h1 W1 et hf hn
          obtain ⟨h8, W8, P8, E8⟩ := HN.out
          have hO8 := vars_Out v'.t (m'.cells v') m'.vs m'.vr m'.va wx h8.v3
          rw [W8.t] at hO8
          clear h8 W8 P8 E8
          go_wp2_with fail
          refine hO8.mono ?_
          rintro e w5 ⟨rfl, f5⟩
          obtain ⟨h8, W8, P8, E8⟩ := HN.out
          have h9 := h8.fr0 f5
          have W9 := W8.fr0 f5
          have tm9 := P8.tm
          have rm9 := P8.room
          have ca1 := P8.ca1
          have ca2 := P8.ca2
          clear hO8 h8 W8 P8 f5
          by_cases hpos : 0 < (m'.vs - m'.va) % 128
          · have d8 : decide (0 < (m'.vs - m'.va) % 128) = true := by simpa using hpos
            have c15 := h9.c15
            rw [W9.t] at c15
            have hL := clk_Left w5 v'.c v'.cl 4 v'.now m'.tm 29 h9.clk tm9
            have H9 := Lib.hid (And.intro h9 (And.intro W9 (And.intro E8 hpos)))
            clear h9 W9 E8 hpos
            go_wp2_with fail
            refine hL.mono ?_
            rintro e w6 ⟨rfl, f6⟩
            by_cases hz : tleft m'.tm 29 = 0
            · have d9 : (tleft m'.tm 29 == 0) = true := by rw [beq_iff_eq]; exact hz
              obtain ⟨h9, W9, E8, hpos⟩ := H9.out
              have h10 := h9.fr0 f6
              have W10 := W9.fr0 f6
              have hst := tie_start w6 v' m' 29 h10
              rw [W10.t] at hst
              have eR : R = startM m' 29 := by rw [← E8, if_pos ⟨hpos, hz⟩]
              have HE := Lib.hid eR
              have H10 := Lib.hid (And.intro h10 W10)
              clear h9 W9 E8 hpos h10 W10 eR H9 hL f6 c15 hz
              go_wp2_with fail
              refine hst.mono ?_
              rintro e w7 ⟨b0, b1, b2, M, rfl, c0, c1, c2, hM, l0, l1, l2, l3, f7⟩
              obtain ⟨h10, W10⟩ := H10.out
              have h11 := h10.fr0 f7
              have W11 := W10.fr0 f7
              have hcl := tie_start1 w7 v' m' 29 b0 b1 b2 M h11 (by rw [W11.t]; exact c0) c1 c2 hM (by omega) (by omega) tm9 ca1 ca2 (fun hn => by
                have : tstop m'.tm 29 = m'.tm := by
                  rcases tidx_cases m'.tm 29 with ⟨_, _, e, _⟩ | ⟨i, hi, _, e, _⟩
                  · exact e
                  · omega
                rw [this] at rm9
                omega)
              have HCL := Lib.hid hcl
              have HW := Lib.hid W11
              clear hst H10 h10 W10 h11 W11 hcl hM c0 c1 c2 l0 l1 l2 l3 f7
              go_wp2_with fail
              refine HCL.out.mono ?_
              rintro e w8 ⟨rfl, ht⟩
              obtain ⟨v9, h12, W12⟩ := HW.out.step ht
              have HFIN := Lib.hid (W12.to h12)
              rw [← HE.out] at HFIN
              clear h12 W12 ht HCL HW
              go_wp2
              go_end0
              exact ⟨rfl, HFIN.out⟩
            · have d9 : (tleft m'.tm 29 == 0) = false := by rw [beq_eq_false_iff_ne]; exact hz
              obtain ⟨h9, W9, E8, hpos⟩ := H9.out
              have HFIN := Lib.hid ((W9.fr0 f6).to (h9.fr0 f6))
              rw [show m' = R by rw [← E8, if_neg (fun h => hz h.2)]] at HFIN
              clear h9 W9 E8 hpos H9 hL f6 c15 hz
              go_wp2
              go_end0
              exact ⟨rfl, HFIN.out⟩
          · have d8 : decide (0 < (m'.vs - m'.va) % 128) = false := by simpa using hpos
            have HFIN := Lib.hid (W9.to h9)
            rw [show m' = R by rw [← E8, if_neg (fun h => hpos h.1)]] at HFIN
            clear h9 W9 E8 hpos
            go_wp2
            go_end0
            exact ⟨rfl, HFIN.out⟩
        | true =>
          have c13 := h1.c13
          rw [et] at c13
          have hXw : X < m'.wide := by simpa using hY
          have fP := hP'.send
          have qP := hP'.q
          have oP := hP'.out
          by_cases ho : m'.out < m'.q.length
          · have hmay : mayPush m' := ⟨hb, by rw [hX]; exact hXw, ho⟩
            have hBN := back_Next wx v'.k v'.q v'.ql 64 m'.out m'.q h1.back ho qP (hP'.sdu _ (List.getElem_mem ho))
            have H1 := Lib.hid (And.intro h1 W1)
            have HMAY := Lib.hid hmay
            have hd127 : ¬ (m'.vs - m'.va) % 128 = 127 := by have := hP'.wide; omega
            have HD := Lib.hid hd127
            have HWR := Lib.hid hf
            clear h' W' hP' eL eq efk hX hY hb h1 W1 et hXw hmay hd127 hf
            go_wp2_with fail
            refine hBN.mono ?_
            rintro e w2 ⟨sx, rfl, hbt, hk, f2⟩
            obtain ⟨h1, W1⟩ := H1.out
            obtain ⟨h2, g2⟩ := h1.setBack1 (out := m'.out + 1) hk f2
            have W2 := W1.same g2
            have H2 := Lib.hid (And.intro h2 (And.intro W2 hbt))
            clear h1 W1 hBN H1 hk f2 g2 h2 W2 hbt c13
            go_wp2_with fail
            haveI : Nonempty (Held (fun _ => True)) := ⟨⟨w2, trivial⟩⟩
            refine wp_region_mixP (fun x => ∃ n : Held (fun _ => True), x = n.x) [([0, 1, 2, 3, 5, 6, 7, 9], some 4), ([], some 8), ([], some 10), ([], some 11)] (by kernel_rfl) (by kernel_rfl) (by kernel_rfl) (by kernel_rfl) ⟨⟨_, trivial⟩, rfl⟩ ?_
            simp only [wpMixP, pickL, pick1, List.getElem?_toArray, List.getElem?_cons_zero, List.getElem?_cons_succ]
            repeat (go_big_quiet_step (fail))
            refine wpQuiet_nil ?_
            obtain ⟨h2, W2, hbt⟩ := H2.out
            have fd : Fr [] w2 w2.drew := (Fr.refl [] w2).drew
            have h3 := h2.fr0 fd
            have W3 := W2.fr0 fd
            have hbt3 := hbt.fr fd
            have et := W3.t
            have hSE := vars_Sent v'.t _ m'.vs m'.vr m'.va w2.drew h3.v3
            rw [if_neg HD.out, if_neg HD.out, et] at hSE
            have H3 := Lib.hid (And.intro h3 (And.intro W3 hbt3))
            clear h2 W2 hbt fd h3 W3 hbt3 et
            go_wp2_with fail
            refine hSE.mono ?_
            rintro e w4 ⟨rfl, hv, f4⟩
            obtain ⟨h3, W3, hbt3⟩ := H3.out
            have et := W3.t
            rw [← et] at hv f4
            have h4 := h3.upd f4 (m' := { m' with out := m'.out + 1, vs := (m'.vs + 1) % 128 }) hv.2 rfl
            have W4 := W3.own f4
            have hbt4 := hbt3.frL f4 (fun x hx => by simp at hx; subst hx; exact ⟨Nat.zero_le _, Blk.noU h3.blk (by decide)⟩)
            have hVR := vars_Vr v'.t _ ((m'.vs + 1) % 128) m'.vr m'.va w4 h4.v3
            rw [et] at hVR
            have H4 := Lib.hid (And.intro h4 (And.intro W4 hbt4))
            clear h3 W3 hbt3 et hv f4 h4 W4 hbt4 hSE H3 H2
            go_wp2_with fail
            refine ⟨⟨⟨_, trivial⟩, rfl⟩, ?_⟩
            dsimp only
            refine wpQuiet_nil ?_
            go_wp2_with fail
            refine hVR.mono ?_
            rintro e w5 ⟨rfl, f5⟩
            obtain ⟨h4, W4, hbt4⟩ := H4.out
            have h5 := h4.fr0 f5
            have W5 := W4.fr0 f5
            have hbt5 := hbt4.fr f5
            have hTS := tie_send w5 v' _ (pushD m') sx h5 (by show Bts 0 w5 sx (m'.q.getD m'.out []); rw [show m'.q.getD m'.out [] = m'.q[m'.out] by simp [List.getD, ho]]; exact hbt5) (by show m'.send.length ≤ 100000; omega)
            have et := W5.t
            rw [et] at hTS
            have HTS := Lib.hid hTS
            have H5 := Lib.hid W5
            clear h4 W4 hbt4 h5 W5 hbt5 hTS et hVR H4 f5
            go_wp2_with fail
            refine ⟨⟨⟨_, trivial⟩, rfl⟩, ?_⟩
            dsimp only
            refine wpQuiet_nil ?_
            go_wp2_with fail
            refine ⟨⟨⟨_, trivial⟩, rfl⟩, ?_⟩
            dsimp only
            refine wpQuiet_nil ?_
            go_wp2_with fail
            refine HTS.out.mono ?_
            rintro e w6 ⟨rfl, ht⟩
            obtain ⟨v7, h7, W7⟩ := H5.out.step ht
            have h7 : IsTie w6 v7 (pushS m') := h7
            have H7 := Lib.hid (And.intro h7 W7)
            clear h7 W7 ht HTS H5
            go_wp2_with fail
            refine ⟨⟨⟨_, trivial⟩, rfl⟩, ?_⟩
            dsimp only
            go_wp2
            go_roundw
            case rel =>
              obtain ⟨h', W', hP', eL, eq, efk, hX, hY, hb⟩ := HA.out
              obtain ⟨h7, W7⟩ := H7.out
              refine ⟨v7, pushS m', h7, W7, hP'.step HMAY.out, ?_, eq⟩
              rw [← eL]
              show pushL (m'.q.length - (m'.out + 1)) (pushS m') = _
              rw [show m'.q.length - m'.out = (m'.q.length - (m'.out + 1)) + 1 by omega]
              simp only [pushL]
              rw [if_pos HMAY.out]
            case measure =>
              obtain ⟨h', W', hP', eL, eq, efk, hX, hY, hb⟩ := HA.out
              obtain ⟨h7, W7⟩ := H7.out
              have m1 := h7.back.c1
              have m2 := h'.back.c1
              rw [TV.fix_k W7.fix] at m1
              rw [efk] at m2
              rw [m1, m2]
              simp only [outOf]
              show m.q.length - (((m'.out + 1 : Nat) : Int)).toNat < m.q.length - ((m'.out : Int)).toNat
              omega
          · have hn : ¬ mayPush m' := fun h => ho h.2.2
            have hol : m'.out = m'.q.length := by omega
            have hbk : IsBack wx v'.k v'.q v'.ql 64 (m'.q.length : Int) m'.q := by have := h1.back; rw [hol] at this; exact this
            have hBN := back_Next_no wx v'.k v'.q v'.ql 64 m'.q hbk
            have HN : Hid (IsTie wx v' m' ∧ Went w wx v v' ∧ pushP m' ∧ (if 0 < (m'.vs - m'.va) % 128 ∧ tleft m'.tm 29 = 0 then startM m' 29 else m') = R) := Lib.hid ⟨h1, W1, hP', by have := HE8.out.1; rw [HE8.out.2 hn] at this; exact this⟩
            clear HE8 HA h' W' hP' eL eq efk hX hY hb h1 W1 et hf hn hbk hol ho hXw fP qP oP
            go_wp2_with fail
            refine hBN.mono ?_
            rintro e w4 ⟨sx, rfl, f4⟩
            have HN : Hid (IsTie w4 v' m' ∧ Went w w4 v v' ∧ pushP m' ∧ (if 0 < (m'.vs - m'.va) % 128 ∧ tleft m'.tm 29 = 0 then startM m' 29 else m') = R) := Lib.hid ⟨HN.out.1.fr0 f4, HN.out.2.1.fr0 f4, HN.out.2.2⟩
            clear hBN f4 c13
            obtain ⟨h8, W8, P8, E8⟩ := HN.out
            have hO8 := vars_Out v'.t (m'.cells v') m'.vs m'.vr m'.va w4 h8.v3
            rw [W8.t] at hO8
            clear h8 W8 P8 E8
            go_wp2_with fail
            refine hO8.mono ?_
            rintro e w5 ⟨rfl, f5⟩
            obtain ⟨h8, W8, P8, E8⟩ := HN.out
            have h9 := h8.fr0 f5
            have W9 := W8.fr0 f5
            have tm9 := P8.tm
            have rm9 := P8.room
            have ca1 := P8.ca1
            have ca2 := P8.ca2
            clear hO8 h8 W8 P8 f5
            by_cases hpos : 0 < (m'.vs - m'.va) % 128
            · have d8 : decide (0 < (m'.vs - m'.va) % 128) = true := by simpa using hpos
              have c15 := h9.c15
              rw [W9.t] at c15
              have hL := clk_Left w5 v'.c v'.cl 4 v'.now m'.tm 29 h9.clk tm9
              have H9 := Lib.hid (And.intro h9 (And.intro W9 (And.intro E8 hpos)))
              clear h9 W9 E8 hpos
              go_wp2_with fail
              refine hL.mono ?_
              rintro e w6 ⟨rfl, f6⟩
              by_cases hz : tleft m'.tm 29 = 0
              · have d9 : (tleft m'.tm 29 == 0) = true := by rw [beq_iff_eq]; exact hz
                obtain ⟨h9, W9, E8, hpos⟩ := H9.out
                have h10 := h9.fr0 f6
                have W10 := W9.fr0 f6
                have hst := tie_start w6 v' m' 29 h10
                rw [W10.t] at hst
                have eR : R = startM m' 29 := by rw [← E8, if_pos ⟨hpos, hz⟩]
                have HE := Lib.hid eR
                have H10 := Lib.hid (And.intro h10 W10)
                clear h9 W9 E8 hpos h10 W10 eR H9 hL f6 c15 hz
                go_wp2_with fail
                refine hst.mono ?_
                rintro e w7 ⟨b0, b1, b2, M, rfl, c0, c1, c2, hM, l0, l1, l2, l3, f7⟩
                obtain ⟨h10, W10⟩ := H10.out
                have h11 := h10.fr0 f7
                have W11 := W10.fr0 f7
                have hcl := tie_start1 w7 v' m' 29 b0 b1 b2 M h11 (by rw [W11.t]; exact c0) c1 c2 hM (by omega) (by omega) tm9 ca1 ca2 (fun hn => by
                  have : tstop m'.tm 29 = m'.tm := by
                    rcases tidx_cases m'.tm 29 with ⟨_, _, e, _⟩ | ⟨i, hi, _, e, _⟩
                    · exact e
                    · omega
                  rw [this] at rm9
                  omega)
                have HCL := Lib.hid hcl
                have HW := Lib.hid W11
                clear hst H10 h10 W10 h11 W11 hcl hM c0 c1 c2 l0 l1 l2 l3 f7
                go_wp2_with fail
                refine HCL.out.mono ?_
                rintro e w8 ⟨rfl, ht⟩
                obtain ⟨v9, h12, W12⟩ := HW.out.step ht
                have HFIN := Lib.hid (W12.to h12)
                rw [← HE.out] at HFIN
                clear h12 W12 ht HCL HW
                go_wp2
                go_end0
                exact ⟨rfl, HFIN.out⟩
              · have d9 : (tleft m'.tm 29 == 0) = false := by rw [beq_eq_false_iff_ne]; exact hz
                obtain ⟨h9, W9, E8, hpos⟩ := H9.out
                have HFIN := Lib.hid ((W9.fr0 f6).to (h9.fr0 f6))
                rw [show m' = R by rw [← E8, if_neg (fun h => hz h.2)]] at HFIN
                clear h9 W9 E8 hpos H9 hL f6 c15 hz
                go_wp2
                go_end0
                exact ⟨rfl, HFIN.out⟩
            · have d8 : decide (0 < (m'.vs - m'.va) % 128) = false := by simpa using hpos
              have HFIN := Lib.hid (W9.to h9)
              rw [show m' = R by rw [← E8, if_neg (fun h => hpos h.1)]] at HFIN
              clear h9 W9 E8 hpos
              go_wp2
              go_end0
              exact ⟨rfl, HFIN.out⟩
end Go.Proofs.YtneggoonlmmjeaaGreat
namespace Go.Proofs.YtneggoonlmmjeaaGreat
open Go.RowKit Go.Shelf
set_option linter.unusedVariables false
set_option linter.unusedSimpArgs false
set_option maxRecDepth 100000

def TM.cfg (m : TM) : Int × Int × Int × Int × Int × Int × Int × Int := (m.cw, m.ct, m.ca, m.cp, m.cr, m.cb, m.near, m.there)
/-- What a function value does to the connection at t, later. It holds blocks from B on, none of K. -/
def Deed (w : World) (B : Nat) (K : List Nat) (v0 : TV) (m0 : TM) (f : Value) (P : TM → Prop) (g : TM → TM) : Prop :=
  ∃ id ra lb, f = .func (.func id) ra lb ∧ Enters Tryz.prog id ∧ ∃ L : List Nat, (∀ x ∈ L, B ≤ x ∧ x < w.heap.size ∧ x ∉ K) ∧
    ∀ W v m, (∀ x ∈ L, W.heap[x]? = w.heap[x]?) → IsTie W v m → v.t = v0.t → v.fix = v0.fix → m.cfg = m0.cfg → (∀ x ∈ L, x ∉ v.foot) → P m →
      Calls Tryz.prog id (ra ++ #[] ++ lb) W fun e W' => e = .returned (.tuple #[]) ∧ TieTo W W' v (g m)
theorem Deed.push {w w' : World} {B : Nat} {K K' : List Nat} {v0 : TV} {m0 : TM} {f : Value} {P : TM → Prop} {g : TM → TM} (h : Deed w B K v0 m0 f P g) (fr : Fr K w w') (hK : ∀ x ∈ K', x ∈ K ∨ w.heap.size ≤ x) : Deed w' B K' v0 m0 f P g := by
  obtain ⟨id, ra, lb, e, he, L, hL, hm⟩ := h
  refine ⟨id, ra, lb, e, he, L, fun x hx => ?_, fun W v m hW => hm W v m fun x hx => (hW x hx).trans (fr.block x (hL x hx).2.1 (hL x hx).2.2)⟩
  obtain ⟨h1, h2, h3⟩ := hL x hx
  refine ⟨h1, Nat.lt_of_lt_of_le h2 fr.size, fun hm => ?_⟩
  rcases hK x hm with h4 | h4
  · exact h3 h4
  · omega
theorem cell_of {w W : World} {b i : Nat} {x : Value} (e : W.heap[b]? = w.heap[b]?) (h : w.cell? ⟨b, i, none⟩ = some x) : W.cell? ⟨b, i, none⟩ = some x := by
  rw [← h]
  exact World.cell?_of_block e
theorem Deed.mk0 {w : World} {B : Nat} {K : List Nat} {v0 : TV} {m0 : TM} {P : TM → Prop} {g : TM → TM} {id : FuncId} {ra : Array Value} (he : Enters Tryz.prog id)
    (hc : ∀ W v m, IsTie W v m → v.t = v0.t → v.fix = v0.fix → m.cfg = m0.cfg → P m → Calls Tryz.prog id ra W fun e W' => e = .returned (.tuple #[]) ∧ TieTo W W' v (g m)) : Deed w B K v0 m0 (.func (.func id) ra #[]) P g :=
  ⟨id, ra, #[], rfl, he, [], by simp, fun W v m _ h e1 e2 e3 _ hp => by simpa using hc W v m h e1 e2 e3 hp⟩
theorem Deed.mk1 {w : World} {B : Nat} {K : List Nat} {v0 : TV} {m0 : TM} {P : TM → Prop} {g : TM → TM} {id : FuncId} {b0 : Nat} {x0 : Value} {t0 : TypeId} (he : Enters Tryz.prog id) (h0 : Blk w b0 #[x0] t0) (hB : B ≤ b0) (hK : ∀ x ∈ K, x < B)
    (hc : ∀ W v m, W.cell? ⟨b0, 0, none⟩ = some x0 → IsTie W v m → v.t = v0.t → v.fix = v0.fix → m.cfg = m0.cfg → b0 ∉ v.foot → P m → Calls Tryz.prog id #[.pointer (some ⟨b0, 0, none⟩)] W fun e W' => e = .returned (.tuple #[]) ∧ TieTo W W' v (g m)) :
    Deed w B K v0 m0 (.func (.func id) #[] #[.pointer (some ⟨b0, 0, none⟩)]) P g :=
  ⟨id, #[], _, rfl, he, [b0], fun x hx => (by simp at hx; subst hx; exact ⟨hB, h0.lt, fun hm => by have := hK _ hm; omega⟩), fun W v m hW h e1 e2 e3 hf hp => by
    simpa using hc W v m (cell_of (hW b0 (by simp)) (h0.cell 0 rfl)) h e1 e2 e3 (hf _ (by simp)) hp⟩
theorem Deed.mk2 {w : World} {B : Nat} {K : List Nat} {v0 : TV} {m0 : TM} {P : TM → Prop} {g : TM → TM} {id : FuncId} {b0 b1 : Nat} {x0 x1 : Value} {t0 t1 : TypeId} (he : Enters Tryz.prog id) (h0 : Blk w b0 #[x0] t0) (h1 : Blk w b1 #[x1] t1) (hB : B ≤ b0) (hB1 : B ≤ b1) (hK : ∀ x ∈ K, x < B)
    (hc : ∀ W v m, W.cell? ⟨b0, 0, none⟩ = some x0 → W.cell? ⟨b1, 0, none⟩ = some x1 → IsTie W v m → v.t = v0.t → v.fix = v0.fix → m.cfg = m0.cfg → b0 ∉ v.foot → b1 ∉ v.foot → P m → Calls Tryz.prog id #[.pointer (some ⟨b0, 0, none⟩), .pointer (some ⟨b1, 0, none⟩)] W fun e W' => e = .returned (.tuple #[]) ∧ TieTo W W' v (g m)) :
    Deed w B K v0 m0 (.func (.func id) #[] #[.pointer (some ⟨b0, 0, none⟩), .pointer (some ⟨b1, 0, none⟩)]) P g :=
  ⟨id, #[], _, rfl, he, [b0, b1], fun x hx => (by simp at hx; rcases hx with rfl | rfl; exact ⟨hB, h0.lt, fun hm => by have := hK _ hm; omega⟩; exact ⟨hB1, h1.lt, fun hm => by have := hK _ hm; omega⟩), fun W v m hW h e1 e2 e3 hf hp => by
    simpa using hc W v m (cell_of (hW b0 (by simp)) (h0.cell 0 rfl)) (cell_of (hW b1 (by simp)) (h1.cell 0 rfl)) h e1 e2 e3 (hf _ (by simp)) (hf _ (by simp)) hp⟩
theorem Deed.mk3 {w : World} {B : Nat} {K : List Nat} {v0 : TV} {m0 : TM} {P : TM → Prop} {g : TM → TM} {id : FuncId} {b0 b1 b2 : Nat} {x0 x1 x2 : Value} {t0 t1 t2 : TypeId} (he : Enters Tryz.prog id) (h0 : Blk w b0 #[x0] t0) (h1 : Blk w b1 #[x1] t1) (h2 : Blk w b2 #[x2] t2) (hB : B ≤ b0) (hB1 : B ≤ b1) (hB2 : B ≤ b2) (hK : ∀ x ∈ K, x < B)
    (hc : ∀ W v m, W.cell? ⟨b0, 0, none⟩ = some x0 → W.cell? ⟨b1, 0, none⟩ = some x1 → W.cell? ⟨b2, 0, none⟩ = some x2 → IsTie W v m → v.t = v0.t → v.fix = v0.fix → m.cfg = m0.cfg → P m → Calls Tryz.prog id #[.pointer (some ⟨b0, 0, none⟩), .pointer (some ⟨b1, 0, none⟩), .pointer (some ⟨b2, 0, none⟩)] W fun e W' => e = .returned (.tuple #[]) ∧ TieTo W W' v (g m)) :
    Deed w B K v0 m0 (.func (.func id) #[] #[.pointer (some ⟨b0, 0, none⟩), .pointer (some ⟨b1, 0, none⟩), .pointer (some ⟨b2, 0, none⟩)]) P g :=
  ⟨id, #[], _, rfl, he, [b0, b1, b2], fun x hx => (by simp at hx; rcases hx with rfl | rfl | rfl; exact ⟨hB, h0.lt, fun hm => by have := hK _ hm; omega⟩; exact ⟨hB1, h1.lt, fun hm => by have := hK _ hm; omega⟩; exact ⟨hB2, h2.lt, fun hm => by have := hK _ hm; omega⟩), fun W v m hW h e1 e2 e3 hf hp => by
    simpa using hc W v m (cell_of (hW b0 (by simp)) (h0.cell 0 rfl)) (cell_of (hW b1 (by simp)) (h1.cell 0 rfl)) (cell_of (hW b2 (by simp)) (h2.cell 0 rfl)) h e1 e2 e3 hp⟩
theorem Deed.mkS {w : World} {B : Nat} {K : List Nat} {v0 : TV} {m0 : TM} {k : Int} {b0 b1 b2 M : Nat} (h0 : w.cell? ⟨b0, 0, none⟩ = some (.pointer (some ⟨v0.t, 0, none⟩))) (h1 : w.cell? ⟨b1, 0, none⟩ = some (.int .i64 k)) (h2 : w.cell? ⟨b2, 0, none⟩ = some (.map (some M))) (hM : TickMap w M m0) (hB : B ≤ b0) (hB1 : B ≤ b1) (hB2 : B ≤ b2) (hBM : B ≤ M) (hK : ∀ x ∈ K, x < B) (hk0 : 29 ≤ k) (hk1 : k ≤ 32) :
    Deed w B K v0 m0 (.func (.func 199) #[] #[.pointer (some ⟨b0, 0, none⟩), .pointer (some ⟨b1, 0, none⟩), .pointer (some ⟨b2, 0, none⟩)]) (fun m => m.tm.length ≤ 1000 ∧ 1 ≤ ticksM m k ∧ ticksM m k ≤ 10000 ∧ (tidx m.tm k < 0 → (m.tm.length : Int) < 4)) (fun m => startM m k) := by
  refine ⟨_, #[], _, rfl, enters_of Tryz.func199 (by kernel_rfl) rfl, [b0, b1, b2, M], fun x hx => ?_, fun W v m hW h e1 e2 e3 hf hp => ?_⟩
  · have lm : M < w.heap.size := by obtain ⟨l, c, e, _⟩ := hM; exact (Array.getElem?_eq_some_iff.1 e).1
    simp at hx
    rcases hx with rfl | rfl | rfl | rfl
    · exact ⟨hB, World.block_lt_of_cell? _ _ h0, fun hm => by have := hK _ hm; omega⟩
    · exact ⟨hB1, World.block_lt_of_cell? _ _ h1, fun hm => by have := hK _ hm; omega⟩
    · exact ⟨hB2, World.block_lt_of_cell? _ _ h2, fun hm => by have := hK _ hm; omega⟩
    · exact ⟨hBM, lm, fun hm => by have := hK _ hm; omega⟩
  · simp only [TM.cfg, Prod.mk.injEq] at e3
    obtain ⟨_, _, ea, epp, er, ebb, _⟩ := e3
    have hM' : TickMap W M m := by
      obtain ⟨l, c, e, g⟩ := hM
      exact ⟨l, c, (hW M (by simp)).trans e, by rw [ea, epp, er, ebb]; exact g⟩
    simpa using tie_start1 W v m k b0 b1 b2 M h (by rw [e1]; exact cell_of (hW b0 (by simp)) h0) (cell_of (hW b1 (by simp)) h1) (cell_of (hW b2 (by simp)) h2) hM' hk0 hk1 hp.1 hp.2.1 hp.2.2.1 hp.2.2.2

def slowM (m : TM) : TM := { m with wide := 1, count := 0 }
theorem tie_slow1 (w : World) (v : TV) (m : TM) (h : IsTie w v m) (hc : 1 ≤ m.cw) :
    Calls Tryz.prog 163 #[.pointer (some ⟨v.w, 0, none⟩)] w fun e w' => e = .returned (.tuple #[]) ∧ TieTo w w' v (slowM m) := by
  refine (win_Slow v.w m.cw m.wide m.count w h.win hc).mono ?_
  rintro e w2 ⟨rfl, hb, f⟩
  obtain ⟨h2, f2⟩ := h.setWin hb f
  exact ⟨rfl, TieTo.same h2 f2⟩

/-- What an action does. -/
def act (a : Int) (m : TM) : TM :=
  match a with
  | 0 => sendM m (cmdD m 3)
  | 1 => sendM m (cmdD m 4)
  | 2 => sendM m (rspD m 5)
  | 3 => sendM m (rspD m 6)
  | 5 => sayM m 5
  | 6 => sayM m 6
  | 7 => sayM m 7
  | 8 => sayM m 8
  | 9 => sayM m 9
  | 10 => clearM m
  | 12 => { m with tm := [] }
  | 13 => startM m 29
  | 14 => startM m 30
  | 15 => startM m 31
  | 16 => stopM m 31
  | 17 => startM m 32
  | 18 => takeM m
  | 19 => ackM m
  | 20 => peerM m false
  | 21 => peerM m true
  | 22 => goBackM m
  | 23 => sendM m (stsD m 0 false)
  | 24 => sendM m (stsD m 0 true)
  | 25 => sendM m (stsD m 1 false)
  | 26 => sendM m (stsD m 1 true)
  | 27 => sendM m (stsD m 2 false)
  | 28 => sendM m (stsD m 2 true)
  | 29 => askM m 0
  | 30 => askM m 1
  | 31 => pushM m
  | 32 => retryM m
  | 33 => zeroM m
  | 34 => slowM m
  | _ => m
/-- When it may be done. -/
def pre (a : Int) (m : TM) : Prop :=
  match a with
  | 0 => m.send.length ≤ 100000 ∧ 0 ≤ m.own ∧ m.own < 4294967296
  | 1 => m.send.length ≤ 100000 ∧ 0 ≤ m.own ∧ m.own < 4294967296
  | 2 => m.send.length ≤ 100000 ∧ 0 ≤ m.num ∧ m.num < 4294967296
  | 3 => m.send.length ≤ 100000 ∧ 0 ≤ m.num ∧ m.num < 4294967296
  | 5 => m.say.length ≤ 100000
  | 6 => m.say.length ≤ 100000
  | 7 => m.say.length ≤ 100000
  | 8 => m.say.length ≤ 100000
  | 9 => m.say.length ≤ 100000
  | 10 => m.q.length ≤ 1000 ∧ 0 ≤ m.epoch ∧ m.epoch ≤ 1000000
  | 12 => m.tm.length ≤ 1000
  | 13 => m.tm.length ≤ 1000 ∧ 1 ≤ ticksM m 29 ∧ ticksM m 29 ≤ 10000 ∧ (tidx m.tm 29 < 0 → (m.tm.length : Int) < 4)
  | 14 => m.tm.length ≤ 1000 ∧ 1 ≤ ticksM m 30 ∧ ticksM m 30 ≤ 10000 ∧ (tidx m.tm 30 < 0 → (m.tm.length : Int) < 4)
  | 15 => m.tm.length ≤ 1000 ∧ 1 ≤ ticksM m 31 ∧ ticksM m 31 ≤ 10000 ∧ (tidx m.tm 31 < 0 → (m.tm.length : Int) < 4)
  | 16 => m.tm.length ≤ 1000
  | 17 => m.tm.length ≤ 1000 ∧ 1 ≤ ticksM m 32 ∧ ticksM m 32 ≤ 10000 ∧ (tidx m.tm 32 < 0 → (m.tm.length : Int) < 4)
  | 18 => m.took.length ≤ 100000 ∧ ∃ d, m.p = some d ∧ d.info.length ≤ 100000
  | 19 => ackP m ∧ ∃ d, m.p = some d
  | 20 => m.tm.length ≤ 1000
  | 21 => m.tm.length ≤ 1000
  | 22 => m.tm.length ≤ 1000
  | 23 => m.send.length ≤ 100000
  | 24 => m.send.length ≤ 100000
  | 25 => m.send.length ≤ 100000
  | 26 => m.send.length ≤ 100000
  | 27 => m.send.length ≤ 100000
  | 28 => m.send.length ≤ 100000
  | 29 => m.send.length ≤ 100000 ∧ m.tm.length ≤ 1000
  | 30 => m.send.length ≤ 100000 ∧ m.tm.length ≤ 1000
  | 31 => pushP m
  | 32 => 0 ≤ m.retries ∧ m.retries ≤ 1000000
  | 33 => m.tm.length ≤ 1000
  | 34 => 1 ≤ m.cw
  | _ => False

end Go.Proofs.YtneggoonlmmjeaaGreat
namespace Go.Proofs.YtneggoonlmmjeaaGreat
open Go.RowKit Go.Shelf
set_option linter.unusedVariables false
set_option linter.unusedSimpArgs false
set_option maxRecDepth 100000

set_option maxHeartbeats 1000000 in
theorem deed_0 (w : World) (v : TV) (m : TM) (K : List Nat) (h : IsTie w v m) (hK : ∀ x ∈ K, x < w.heap.size) :
    Calls Tryz.prog 92 #[.pointer (some ⟨v.t, 0, none⟩), .int .i64 0] w fun e w' => ∃ f, e = .returned f ∧ Deed w' w.heap.size K v m f (pre 0) (act 0) ∧ Fr [] w w' := by
  have hb0 : Blk (((w.alloc (.cells #[.pointer (some ⟨v.t, 0, none⟩)] 26)).alloc (.cells #[.pointer (some ⟨v.t, 0, none⟩)] 26)).alloc (.cells #[.int .i64 3] 3)) (w.heap.size + 1) #[.pointer (some ⟨v.t, 0, none⟩)] 26 := by
    have h9 := (Blk.new (w.alloc (.cells #[.pointer (some ⟨v.t, 0, none⟩)] 26)) #[.pointer (some ⟨v.t, 0, none⟩)] 26).alloc (.cells #[.int .i64 3] 3)
    simpa using h9
  have hb1 : Blk (((w.alloc (.cells #[.pointer (some ⟨v.t, 0, none⟩)] 26)).alloc (.cells #[.pointer (some ⟨v.t, 0, none⟩)] 26)).alloc (.cells #[.int .i64 3] 3)) (w.heap.size + 2) #[.int .i64 3] 3 := by
    have h9 := Blk.new ((w.alloc (.cells #[.pointer (some ⟨v.t, 0, none⟩)] 26)).alloc (.cells #[.pointer (some ⟨v.t, 0, none⟩)] 26)) #[.int .i64 3] 3
    simpa using h9
  have F : Fr [] w (((w.alloc (.cells #[.pointer (some ⟨v.t, 0, none⟩)] 26)).alloc (.cells #[.pointer (some ⟨v.t, 0, none⟩)] 26)).alloc (.cells #[.int .i64 3] 3)) := (((Fr.refl [] w).alloc (.cells #[.pointer (some ⟨v.t, 0, none⟩)] 26)).alloc (.cells #[.pointer (some ⟨v.t, 0, none⟩)] 26)).alloc (.cells #[.int .i64 3] 3)
  have HF := Lib.hid F
  have H0 := Lib.hid hb0
  have H1 := Lib.hid hb1
  clear F hb0 hb1
  go_enter Tryz.func92, Tryz.ntmps92
  go_wp2_with fail
  refine (mk_command _ v.t 3).mono ?_
  rintro e w2 ⟨rfl, rfl⟩
  go_wp2
  go_ret
  have hs : (w.alloc (.cells #[.pointer (some ⟨v.t, 0, none⟩)] 26)).heap.size = w.heap.size + 1 := by simp
  exact ⟨_, rfl, Deed.mk2 (enters_of Tryz.func187 (by kernel_rfl) rfl) H0.out H1.out (by omega) (by omega) hK (fun W v' m' c0 c1 ht e1 e2 e3 n0 n1 hp => tie_command1 W v' m' 3 _ _ ht (by rw [e1]; exact c0) c1 hp.2.1 hp.2.2 hp.1), HF.out⟩

set_option maxHeartbeats 1000000 in
theorem deed_1 (w : World) (v : TV) (m : TM) (K : List Nat) (h : IsTie w v m) (hK : ∀ x ∈ K, x < w.heap.size) :
    Calls Tryz.prog 92 #[.pointer (some ⟨v.t, 0, none⟩), .int .i64 1] w fun e w' => ∃ f, e = .returned f ∧ Deed w' w.heap.size K v m f (pre 1) (act 1) ∧ Fr [] w w' := by
  have hb0 : Blk (((w.alloc (.cells #[.pointer (some ⟨v.t, 0, none⟩)] 26)).alloc (.cells #[.pointer (some ⟨v.t, 0, none⟩)] 26)).alloc (.cells #[.int .i64 4] 3)) (w.heap.size + 1) #[.pointer (some ⟨v.t, 0, none⟩)] 26 := by
    have h9 := (Blk.new (w.alloc (.cells #[.pointer (some ⟨v.t, 0, none⟩)] 26)) #[.pointer (some ⟨v.t, 0, none⟩)] 26).alloc (.cells #[.int .i64 4] 3)
    simpa using h9
  have hb1 : Blk (((w.alloc (.cells #[.pointer (some ⟨v.t, 0, none⟩)] 26)).alloc (.cells #[.pointer (some ⟨v.t, 0, none⟩)] 26)).alloc (.cells #[.int .i64 4] 3)) (w.heap.size + 2) #[.int .i64 4] 3 := by
    have h9 := Blk.new ((w.alloc (.cells #[.pointer (some ⟨v.t, 0, none⟩)] 26)).alloc (.cells #[.pointer (some ⟨v.t, 0, none⟩)] 26)) #[.int .i64 4] 3
    simpa using h9
  have F : Fr [] w (((w.alloc (.cells #[.pointer (some ⟨v.t, 0, none⟩)] 26)).alloc (.cells #[.pointer (some ⟨v.t, 0, none⟩)] 26)).alloc (.cells #[.int .i64 4] 3)) := (((Fr.refl [] w).alloc (.cells #[.pointer (some ⟨v.t, 0, none⟩)] 26)).alloc (.cells #[.pointer (some ⟨v.t, 0, none⟩)] 26)).alloc (.cells #[.int .i64 4] 3)
  have HF := Lib.hid F
  have H0 := Lib.hid hb0
  have H1 := Lib.hid hb1
  clear F hb0 hb1
  go_enter Tryz.func92, Tryz.ntmps92
  go_wp2_with fail
  refine (mk_command _ v.t 4).mono ?_
  rintro e w2 ⟨rfl, rfl⟩
  go_wp2
  go_ret
  have hs : (w.alloc (.cells #[.pointer (some ⟨v.t, 0, none⟩)] 26)).heap.size = w.heap.size + 1 := by simp
  exact ⟨_, rfl, Deed.mk2 (enters_of Tryz.func187 (by kernel_rfl) rfl) H0.out H1.out (by omega) (by omega) hK (fun W v' m' c0 c1 ht e1 e2 e3 n0 n1 hp => tie_command1 W v' m' 4 _ _ ht (by rw [e1]; exact c0) c1 hp.2.1 hp.2.2 hp.1), HF.out⟩

set_option maxHeartbeats 1000000 in
theorem deed_2 (w : World) (v : TV) (m : TM) (K : List Nat) (h : IsTie w v m) (hK : ∀ x ∈ K, x < w.heap.size) :
    Calls Tryz.prog 92 #[.pointer (some ⟨v.t, 0, none⟩), .int .i64 2] w fun e w' => ∃ f, e = .returned f ∧ Deed w' w.heap.size K v m f (pre 2) (act 2) ∧ Fr [] w w' := by
  have hb0 : Blk (((w.alloc (.cells #[.pointer (some ⟨v.t, 0, none⟩)] 26)).alloc (.cells #[.pointer (some ⟨v.t, 0, none⟩)] 26)).alloc (.cells #[.int .i64 5] 3)) (w.heap.size + 1) #[.pointer (some ⟨v.t, 0, none⟩)] 26 := by
    have h9 := (Blk.new (w.alloc (.cells #[.pointer (some ⟨v.t, 0, none⟩)] 26)) #[.pointer (some ⟨v.t, 0, none⟩)] 26).alloc (.cells #[.int .i64 5] 3)
    simpa using h9
  have hb1 : Blk (((w.alloc (.cells #[.pointer (some ⟨v.t, 0, none⟩)] 26)).alloc (.cells #[.pointer (some ⟨v.t, 0, none⟩)] 26)).alloc (.cells #[.int .i64 5] 3)) (w.heap.size + 2) #[.int .i64 5] 3 := by
    have h9 := Blk.new ((w.alloc (.cells #[.pointer (some ⟨v.t, 0, none⟩)] 26)).alloc (.cells #[.pointer (some ⟨v.t, 0, none⟩)] 26)) #[.int .i64 5] 3
    simpa using h9
  have F : Fr [] w (((w.alloc (.cells #[.pointer (some ⟨v.t, 0, none⟩)] 26)).alloc (.cells #[.pointer (some ⟨v.t, 0, none⟩)] 26)).alloc (.cells #[.int .i64 5] 3)) := (((Fr.refl [] w).alloc (.cells #[.pointer (some ⟨v.t, 0, none⟩)] 26)).alloc (.cells #[.pointer (some ⟨v.t, 0, none⟩)] 26)).alloc (.cells #[.int .i64 5] 3)
  have HF := Lib.hid F
  have H0 := Lib.hid hb0
  have H1 := Lib.hid hb1
  clear F hb0 hb1
  go_enter Tryz.func92, Tryz.ntmps92
  go_wp2_with fail
  refine (mk_response _ v.t 5).mono ?_
  rintro e w2 ⟨rfl, rfl⟩
  go_wp2
  go_ret
  have hs : (w.alloc (.cells #[.pointer (some ⟨v.t, 0, none⟩)] 26)).heap.size = w.heap.size + 1 := by simp
  exact ⟨_, rfl, Deed.mk2 (enters_of Tryz.func190 (by kernel_rfl) rfl) H0.out H1.out (by omega) (by omega) hK (fun W v' m' c0 c1 ht e1 e2 e3 n0 n1 hp => tie_response1 W v' m' 5 _ _ ht (by rw [e1]; exact c0) c1 hp.2.1 hp.2.2 hp.1), HF.out⟩

set_option maxHeartbeats 1000000 in
theorem deed_3 (w : World) (v : TV) (m : TM) (K : List Nat) (h : IsTie w v m) (hK : ∀ x ∈ K, x < w.heap.size) :
    Calls Tryz.prog 92 #[.pointer (some ⟨v.t, 0, none⟩), .int .i64 3] w fun e w' => ∃ f, e = .returned f ∧ Deed w' w.heap.size K v m f (pre 3) (act 3) ∧ Fr [] w w' := by
  have hb0 : Blk (((w.alloc (.cells #[.pointer (some ⟨v.t, 0, none⟩)] 26)).alloc (.cells #[.pointer (some ⟨v.t, 0, none⟩)] 26)).alloc (.cells #[.int .i64 6] 3)) (w.heap.size + 1) #[.pointer (some ⟨v.t, 0, none⟩)] 26 := by
    have h9 := (Blk.new (w.alloc (.cells #[.pointer (some ⟨v.t, 0, none⟩)] 26)) #[.pointer (some ⟨v.t, 0, none⟩)] 26).alloc (.cells #[.int .i64 6] 3)
    simpa using h9
  have hb1 : Blk (((w.alloc (.cells #[.pointer (some ⟨v.t, 0, none⟩)] 26)).alloc (.cells #[.pointer (some ⟨v.t, 0, none⟩)] 26)).alloc (.cells #[.int .i64 6] 3)) (w.heap.size + 2) #[.int .i64 6] 3 := by
    have h9 := Blk.new ((w.alloc (.cells #[.pointer (some ⟨v.t, 0, none⟩)] 26)).alloc (.cells #[.pointer (some ⟨v.t, 0, none⟩)] 26)) #[.int .i64 6] 3
    simpa using h9
  have F : Fr [] w (((w.alloc (.cells #[.pointer (some ⟨v.t, 0, none⟩)] 26)).alloc (.cells #[.pointer (some ⟨v.t, 0, none⟩)] 26)).alloc (.cells #[.int .i64 6] 3)) := (((Fr.refl [] w).alloc (.cells #[.pointer (some ⟨v.t, 0, none⟩)] 26)).alloc (.cells #[.pointer (some ⟨v.t, 0, none⟩)] 26)).alloc (.cells #[.int .i64 6] 3)
  have HF := Lib.hid F
  have H0 := Lib.hid hb0
  have H1 := Lib.hid hb1
  clear F hb0 hb1
  go_enter Tryz.func92, Tryz.ntmps92
  go_wp2_with fail
  refine (mk_response _ v.t 6).mono ?_
  rintro e w2 ⟨rfl, rfl⟩
  go_wp2
  go_ret
  have hs : (w.alloc (.cells #[.pointer (some ⟨v.t, 0, none⟩)] 26)).heap.size = w.heap.size + 1 := by simp
  exact ⟨_, rfl, Deed.mk2 (enters_of Tryz.func190 (by kernel_rfl) rfl) H0.out H1.out (by omega) (by omega) hK (fun W v' m' c0 c1 ht e1 e2 e3 n0 n1 hp => tie_response1 W v' m' 6 _ _ ht (by rw [e1]; exact c0) c1 hp.2.1 hp.2.2 hp.1), HF.out⟩

set_option maxHeartbeats 1000000 in
theorem deed_5 (w : World) (v : TV) (m : TM) (K : List Nat) (h : IsTie w v m) (hK : ∀ x ∈ K, x < w.heap.size) :
    Calls Tryz.prog 92 #[.pointer (some ⟨v.t, 0, none⟩), .int .i64 5] w fun e w' => ∃ f, e = .returned f ∧ Deed w' w.heap.size K v m f (pre 5) (act 5) ∧ Fr [] w w' := by
  have hb0 : Blk (((w.alloc (.cells #[.pointer (some ⟨v.t, 0, none⟩)] 26)).alloc (.cells #[.pointer (some ⟨v.t, 0, none⟩)] 26)).alloc (.cells #[.int .i64 5] 3)) (w.heap.size + 1) #[.pointer (some ⟨v.t, 0, none⟩)] 26 := by
    have h9 := (Blk.new (w.alloc (.cells #[.pointer (some ⟨v.t, 0, none⟩)] 26)) #[.pointer (some ⟨v.t, 0, none⟩)] 26).alloc (.cells #[.int .i64 5] 3)
    simpa using h9
  have hb1 : Blk (((w.alloc (.cells #[.pointer (some ⟨v.t, 0, none⟩)] 26)).alloc (.cells #[.pointer (some ⟨v.t, 0, none⟩)] 26)).alloc (.cells #[.int .i64 5] 3)) (w.heap.size + 2) #[.int .i64 5] 3 := by
    have h9 := Blk.new ((w.alloc (.cells #[.pointer (some ⟨v.t, 0, none⟩)] 26)).alloc (.cells #[.pointer (some ⟨v.t, 0, none⟩)] 26)) #[.int .i64 5] 3
    simpa using h9
  have F : Fr [] w (((w.alloc (.cells #[.pointer (some ⟨v.t, 0, none⟩)] 26)).alloc (.cells #[.pointer (some ⟨v.t, 0, none⟩)] 26)).alloc (.cells #[.int .i64 5] 3)) := (((Fr.refl [] w).alloc (.cells #[.pointer (some ⟨v.t, 0, none⟩)] 26)).alloc (.cells #[.pointer (some ⟨v.t, 0, none⟩)] 26)).alloc (.cells #[.int .i64 5] 3)
  have HF := Lib.hid F
  have H0 := Lib.hid hb0
  have H1 := Lib.hid hb1
  clear F hb0 hb1
  go_enter Tryz.func92, Tryz.ntmps92
  go_wp2_with fail
  refine (mk_say _ v.t 5).mono ?_
  rintro e w2 ⟨rfl, rfl⟩
  go_wp2
  go_ret
  have hs : (w.alloc (.cells #[.pointer (some ⟨v.t, 0, none⟩)] 26)).heap.size = w.heap.size + 1 := by simp
  exact ⟨_, rfl, Deed.mk2 (enters_of Tryz.func193 (by kernel_rfl) rfl) H0.out H1.out (by omega) (by omega) hK (fun W v' m' c0 c1 ht e1 e2 e3 n0 n1 hp => tie_say1 W v' m' 5 _ _ ht (by rw [e1]; exact c0) c1 n0 hp), HF.out⟩

set_option maxHeartbeats 1000000 in
theorem deed_6 (w : World) (v : TV) (m : TM) (K : List Nat) (h : IsTie w v m) (hK : ∀ x ∈ K, x < w.heap.size) :
    Calls Tryz.prog 92 #[.pointer (some ⟨v.t, 0, none⟩), .int .i64 6] w fun e w' => ∃ f, e = .returned f ∧ Deed w' w.heap.size K v m f (pre 6) (act 6) ∧ Fr [] w w' := by
  have hb0 : Blk (((w.alloc (.cells #[.pointer (some ⟨v.t, 0, none⟩)] 26)).alloc (.cells #[.pointer (some ⟨v.t, 0, none⟩)] 26)).alloc (.cells #[.int .i64 6] 3)) (w.heap.size + 1) #[.pointer (some ⟨v.t, 0, none⟩)] 26 := by
    have h9 := (Blk.new (w.alloc (.cells #[.pointer (some ⟨v.t, 0, none⟩)] 26)) #[.pointer (some ⟨v.t, 0, none⟩)] 26).alloc (.cells #[.int .i64 6] 3)
    simpa using h9
  have hb1 : Blk (((w.alloc (.cells #[.pointer (some ⟨v.t, 0, none⟩)] 26)).alloc (.cells #[.pointer (some ⟨v.t, 0, none⟩)] 26)).alloc (.cells #[.int .i64 6] 3)) (w.heap.size + 2) #[.int .i64 6] 3 := by
    have h9 := Blk.new ((w.alloc (.cells #[.pointer (some ⟨v.t, 0, none⟩)] 26)).alloc (.cells #[.pointer (some ⟨v.t, 0, none⟩)] 26)) #[.int .i64 6] 3
    simpa using h9
  have F : Fr [] w (((w.alloc (.cells #[.pointer (some ⟨v.t, 0, none⟩)] 26)).alloc (.cells #[.pointer (some ⟨v.t, 0, none⟩)] 26)).alloc (.cells #[.int .i64 6] 3)) := (((Fr.refl [] w).alloc (.cells #[.pointer (some ⟨v.t, 0, none⟩)] 26)).alloc (.cells #[.pointer (some ⟨v.t, 0, none⟩)] 26)).alloc (.cells #[.int .i64 6] 3)
  have HF := Lib.hid F
  have H0 := Lib.hid hb0
  have H1 := Lib.hid hb1
  clear F hb0 hb1
  go_enter Tryz.func92, Tryz.ntmps92
  go_wp2_with fail
  refine (mk_say _ v.t 6).mono ?_
  rintro e w2 ⟨rfl, rfl⟩
  go_wp2
  go_ret
  have hs : (w.alloc (.cells #[.pointer (some ⟨v.t, 0, none⟩)] 26)).heap.size = w.heap.size + 1 := by simp
  exact ⟨_, rfl, Deed.mk2 (enters_of Tryz.func193 (by kernel_rfl) rfl) H0.out H1.out (by omega) (by omega) hK (fun W v' m' c0 c1 ht e1 e2 e3 n0 n1 hp => tie_say1 W v' m' 6 _ _ ht (by rw [e1]; exact c0) c1 n0 hp), HF.out⟩

set_option maxHeartbeats 1000000 in
theorem deed_7 (w : World) (v : TV) (m : TM) (K : List Nat) (h : IsTie w v m) (hK : ∀ x ∈ K, x < w.heap.size) :
    Calls Tryz.prog 92 #[.pointer (some ⟨v.t, 0, none⟩), .int .i64 7] w fun e w' => ∃ f, e = .returned f ∧ Deed w' w.heap.size K v m f (pre 7) (act 7) ∧ Fr [] w w' := by
  have hb0 : Blk (((w.alloc (.cells #[.pointer (some ⟨v.t, 0, none⟩)] 26)).alloc (.cells #[.pointer (some ⟨v.t, 0, none⟩)] 26)).alloc (.cells #[.int .i64 7] 3)) (w.heap.size + 1) #[.pointer (some ⟨v.t, 0, none⟩)] 26 := by
    have h9 := (Blk.new (w.alloc (.cells #[.pointer (some ⟨v.t, 0, none⟩)] 26)) #[.pointer (some ⟨v.t, 0, none⟩)] 26).alloc (.cells #[.int .i64 7] 3)
    simpa using h9
  have hb1 : Blk (((w.alloc (.cells #[.pointer (some ⟨v.t, 0, none⟩)] 26)).alloc (.cells #[.pointer (some ⟨v.t, 0, none⟩)] 26)).alloc (.cells #[.int .i64 7] 3)) (w.heap.size + 2) #[.int .i64 7] 3 := by
    have h9 := Blk.new ((w.alloc (.cells #[.pointer (some ⟨v.t, 0, none⟩)] 26)).alloc (.cells #[.pointer (some ⟨v.t, 0, none⟩)] 26)) #[.int .i64 7] 3
    simpa using h9
  have F : Fr [] w (((w.alloc (.cells #[.pointer (some ⟨v.t, 0, none⟩)] 26)).alloc (.cells #[.pointer (some ⟨v.t, 0, none⟩)] 26)).alloc (.cells #[.int .i64 7] 3)) := (((Fr.refl [] w).alloc (.cells #[.pointer (some ⟨v.t, 0, none⟩)] 26)).alloc (.cells #[.pointer (some ⟨v.t, 0, none⟩)] 26)).alloc (.cells #[.int .i64 7] 3)
  have HF := Lib.hid F
  have H0 := Lib.hid hb0
  have H1 := Lib.hid hb1
  clear F hb0 hb1
  go_enter Tryz.func92, Tryz.ntmps92
  go_wp2_with fail
  refine (mk_say _ v.t 7).mono ?_
  rintro e w2 ⟨rfl, rfl⟩
  go_wp2
  go_ret
  have hs : (w.alloc (.cells #[.pointer (some ⟨v.t, 0, none⟩)] 26)).heap.size = w.heap.size + 1 := by simp
  exact ⟨_, rfl, Deed.mk2 (enters_of Tryz.func193 (by kernel_rfl) rfl) H0.out H1.out (by omega) (by omega) hK (fun W v' m' c0 c1 ht e1 e2 e3 n0 n1 hp => tie_say1 W v' m' 7 _ _ ht (by rw [e1]; exact c0) c1 n0 hp), HF.out⟩

set_option maxHeartbeats 1000000 in
theorem deed_8 (w : World) (v : TV) (m : TM) (K : List Nat) (h : IsTie w v m) (hK : ∀ x ∈ K, x < w.heap.size) :
    Calls Tryz.prog 92 #[.pointer (some ⟨v.t, 0, none⟩), .int .i64 8] w fun e w' => ∃ f, e = .returned f ∧ Deed w' w.heap.size K v m f (pre 8) (act 8) ∧ Fr [] w w' := by
  have hb0 : Blk (((w.alloc (.cells #[.pointer (some ⟨v.t, 0, none⟩)] 26)).alloc (.cells #[.pointer (some ⟨v.t, 0, none⟩)] 26)).alloc (.cells #[.int .i64 8] 3)) (w.heap.size + 1) #[.pointer (some ⟨v.t, 0, none⟩)] 26 := by
    have h9 := (Blk.new (w.alloc (.cells #[.pointer (some ⟨v.t, 0, none⟩)] 26)) #[.pointer (some ⟨v.t, 0, none⟩)] 26).alloc (.cells #[.int .i64 8] 3)
    simpa using h9
  have hb1 : Blk (((w.alloc (.cells #[.pointer (some ⟨v.t, 0, none⟩)] 26)).alloc (.cells #[.pointer (some ⟨v.t, 0, none⟩)] 26)).alloc (.cells #[.int .i64 8] 3)) (w.heap.size + 2) #[.int .i64 8] 3 := by
    have h9 := Blk.new ((w.alloc (.cells #[.pointer (some ⟨v.t, 0, none⟩)] 26)).alloc (.cells #[.pointer (some ⟨v.t, 0, none⟩)] 26)) #[.int .i64 8] 3
    simpa using h9
  have F : Fr [] w (((w.alloc (.cells #[.pointer (some ⟨v.t, 0, none⟩)] 26)).alloc (.cells #[.pointer (some ⟨v.t, 0, none⟩)] 26)).alloc (.cells #[.int .i64 8] 3)) := (((Fr.refl [] w).alloc (.cells #[.pointer (some ⟨v.t, 0, none⟩)] 26)).alloc (.cells #[.pointer (some ⟨v.t, 0, none⟩)] 26)).alloc (.cells #[.int .i64 8] 3)
  have HF := Lib.hid F
  have H0 := Lib.hid hb0
  have H1 := Lib.hid hb1
  clear F hb0 hb1
  go_enter Tryz.func92, Tryz.ntmps92
  go_wp2_with fail
  refine (mk_say _ v.t 8).mono ?_
  rintro e w2 ⟨rfl, rfl⟩
  go_wp2
  go_ret
  have hs : (w.alloc (.cells #[.pointer (some ⟨v.t, 0, none⟩)] 26)).heap.size = w.heap.size + 1 := by simp
  exact ⟨_, rfl, Deed.mk2 (enters_of Tryz.func193 (by kernel_rfl) rfl) H0.out H1.out (by omega) (by omega) hK (fun W v' m' c0 c1 ht e1 e2 e3 n0 n1 hp => tie_say1 W v' m' 8 _ _ ht (by rw [e1]; exact c0) c1 n0 hp), HF.out⟩

set_option maxHeartbeats 1000000 in
theorem deed_9 (w : World) (v : TV) (m : TM) (K : List Nat) (h : IsTie w v m) (hK : ∀ x ∈ K, x < w.heap.size) :
    Calls Tryz.prog 92 #[.pointer (some ⟨v.t, 0, none⟩), .int .i64 9] w fun e w' => ∃ f, e = .returned f ∧ Deed w' w.heap.size K v m f (pre 9) (act 9) ∧ Fr [] w w' := by
  have hb0 : Blk (((w.alloc (.cells #[.pointer (some ⟨v.t, 0, none⟩)] 26)).alloc (.cells #[.pointer (some ⟨v.t, 0, none⟩)] 26)).alloc (.cells #[.int .i64 9] 3)) (w.heap.size + 1) #[.pointer (some ⟨v.t, 0, none⟩)] 26 := by
    have h9 := (Blk.new (w.alloc (.cells #[.pointer (some ⟨v.t, 0, none⟩)] 26)) #[.pointer (some ⟨v.t, 0, none⟩)] 26).alloc (.cells #[.int .i64 9] 3)
    simpa using h9
  have hb1 : Blk (((w.alloc (.cells #[.pointer (some ⟨v.t, 0, none⟩)] 26)).alloc (.cells #[.pointer (some ⟨v.t, 0, none⟩)] 26)).alloc (.cells #[.int .i64 9] 3)) (w.heap.size + 2) #[.int .i64 9] 3 := by
    have h9 := Blk.new ((w.alloc (.cells #[.pointer (some ⟨v.t, 0, none⟩)] 26)).alloc (.cells #[.pointer (some ⟨v.t, 0, none⟩)] 26)) #[.int .i64 9] 3
    simpa using h9
  have F : Fr [] w (((w.alloc (.cells #[.pointer (some ⟨v.t, 0, none⟩)] 26)).alloc (.cells #[.pointer (some ⟨v.t, 0, none⟩)] 26)).alloc (.cells #[.int .i64 9] 3)) := (((Fr.refl [] w).alloc (.cells #[.pointer (some ⟨v.t, 0, none⟩)] 26)).alloc (.cells #[.pointer (some ⟨v.t, 0, none⟩)] 26)).alloc (.cells #[.int .i64 9] 3)
  have HF := Lib.hid F
  have H0 := Lib.hid hb0
  have H1 := Lib.hid hb1
  clear F hb0 hb1
  go_enter Tryz.func92, Tryz.ntmps92
  go_wp2_with fail
  refine (mk_say _ v.t 9).mono ?_
  rintro e w2 ⟨rfl, rfl⟩
  go_wp2
  go_ret
  have hs : (w.alloc (.cells #[.pointer (some ⟨v.t, 0, none⟩)] 26)).heap.size = w.heap.size + 1 := by simp
  exact ⟨_, rfl, Deed.mk2 (enters_of Tryz.func193 (by kernel_rfl) rfl) H0.out H1.out (by omega) (by omega) hK (fun W v' m' c0 c1 ht e1 e2 e3 n0 n1 hp => tie_say1 W v' m' 9 _ _ ht (by rw [e1]; exact c0) c1 n0 hp), HF.out⟩

set_option maxHeartbeats 1000000 in
theorem deed_16 (w : World) (v : TV) (m : TM) (K : List Nat) (h : IsTie w v m) (hK : ∀ x ∈ K, x < w.heap.size) :
    Calls Tryz.prog 92 #[.pointer (some ⟨v.t, 0, none⟩), .int .i64 16] w fun e w' => ∃ f, e = .returned f ∧ Deed w' w.heap.size K v m f (pre 16) (act 16) ∧ Fr [] w w' := by
  have hb0 : Blk (((w.alloc (.cells #[.pointer (some ⟨v.t, 0, none⟩)] 26)).alloc (.cells #[.pointer (some ⟨v.t, 0, none⟩)] 26)).alloc (.cells #[.int .i64 31] 3)) (w.heap.size + 1) #[.pointer (some ⟨v.t, 0, none⟩)] 26 := by
    have h9 := (Blk.new (w.alloc (.cells #[.pointer (some ⟨v.t, 0, none⟩)] 26)) #[.pointer (some ⟨v.t, 0, none⟩)] 26).alloc (.cells #[.int .i64 31] 3)
    simpa using h9
  have hb1 : Blk (((w.alloc (.cells #[.pointer (some ⟨v.t, 0, none⟩)] 26)).alloc (.cells #[.pointer (some ⟨v.t, 0, none⟩)] 26)).alloc (.cells #[.int .i64 31] 3)) (w.heap.size + 2) #[.int .i64 31] 3 := by
    have h9 := Blk.new ((w.alloc (.cells #[.pointer (some ⟨v.t, 0, none⟩)] 26)).alloc (.cells #[.pointer (some ⟨v.t, 0, none⟩)] 26)) #[.int .i64 31] 3
    simpa using h9
  have F : Fr [] w (((w.alloc (.cells #[.pointer (some ⟨v.t, 0, none⟩)] 26)).alloc (.cells #[.pointer (some ⟨v.t, 0, none⟩)] 26)).alloc (.cells #[.int .i64 31] 3)) := (((Fr.refl [] w).alloc (.cells #[.pointer (some ⟨v.t, 0, none⟩)] 26)).alloc (.cells #[.pointer (some ⟨v.t, 0, none⟩)] 26)).alloc (.cells #[.int .i64 31] 3)
  have HF := Lib.hid F
  have H0 := Lib.hid hb0
  have H1 := Lib.hid hb1
  clear F hb0 hb1
  go_enter Tryz.func92, Tryz.ntmps92
  go_wp2_with fail
  refine (mk_stop _ v.t 31).mono ?_
  rintro e w2 ⟨rfl, rfl⟩
  go_wp2
  go_ret
  have hs : (w.alloc (.cells #[.pointer (some ⟨v.t, 0, none⟩)] 26)).heap.size = w.heap.size + 1 := by simp
  exact ⟨_, rfl, Deed.mk2 (enters_of Tryz.func201 (by kernel_rfl) rfl) H0.out H1.out (by omega) (by omega) hK (fun W v' m' c0 c1 ht e1 e2 e3 n0 n1 hp => tie_stop1 W v' m' 31 _ _ ht (by rw [e1]; exact c0) c1 hp), HF.out⟩

set_option maxHeartbeats 1000000 in
theorem deed_20 (w : World) (v : TV) (m : TM) (K : List Nat) (h : IsTie w v m) (hK : ∀ x ∈ K, x < w.heap.size) :
    Calls Tryz.prog 92 #[.pointer (some ⟨v.t, 0, none⟩), .int .i64 20] w fun e w' => ∃ f, e = .returned f ∧ Deed w' w.heap.size K v m f (pre 20) (act 20) ∧ Fr [] w w' := by
  have hb0 : Blk (((w.alloc (.cells #[.pointer (some ⟨v.t, 0, none⟩)] 26)).alloc (.cells #[.pointer (some ⟨v.t, 0, none⟩)] 26)).alloc (.cells #[.bool false] 4)) (w.heap.size + 1) #[.pointer (some ⟨v.t, 0, none⟩)] 26 := by
    have h9 := (Blk.new (w.alloc (.cells #[.pointer (some ⟨v.t, 0, none⟩)] 26)) #[.pointer (some ⟨v.t, 0, none⟩)] 26).alloc (.cells #[.bool false] 4)
    simpa using h9
  have hb1 : Blk (((w.alloc (.cells #[.pointer (some ⟨v.t, 0, none⟩)] 26)).alloc (.cells #[.pointer (some ⟨v.t, 0, none⟩)] 26)).alloc (.cells #[.bool false] 4)) (w.heap.size + 2) #[.bool false] 4 := by
    have h9 := Blk.new ((w.alloc (.cells #[.pointer (some ⟨v.t, 0, none⟩)] 26)).alloc (.cells #[.pointer (some ⟨v.t, 0, none⟩)] 26)) #[.bool false] 4
    simpa using h9
  have F : Fr [] w (((w.alloc (.cells #[.pointer (some ⟨v.t, 0, none⟩)] 26)).alloc (.cells #[.pointer (some ⟨v.t, 0, none⟩)] 26)).alloc (.cells #[.bool false] 4)) := (((Fr.refl [] w).alloc (.cells #[.pointer (some ⟨v.t, 0, none⟩)] 26)).alloc (.cells #[.pointer (some ⟨v.t, 0, none⟩)] 26)).alloc (.cells #[.bool false] 4)
  have HF := Lib.hid F
  have H0 := Lib.hid hb0
  have H1 := Lib.hid hb1
  clear F hb0 hb1
  go_enter Tryz.func92, Tryz.ntmps92
  go_wp2_with fail
  refine (mk_peer _ v.t false).mono ?_
  rintro e w2 ⟨rfl, rfl⟩
  go_wp2
  go_ret
  have hs : (w.alloc (.cells #[.pointer (some ⟨v.t, 0, none⟩)] 26)).heap.size = w.heap.size + 1 := by simp
  exact ⟨_, rfl, Deed.mk2 (enters_of Tryz.func207 (by kernel_rfl) rfl) H1.out H0.out (by omega) (by omega) hK (fun W v' m' c0 c1 ht e1 e2 e3 n0 n1 hp => tie_peer1 W v' m' false _ _ ht c0 (by rw [e1]; exact c1) n0 n1 hp), HF.out⟩

set_option maxHeartbeats 1000000 in
theorem deed_21 (w : World) (v : TV) (m : TM) (K : List Nat) (h : IsTie w v m) (hK : ∀ x ∈ K, x < w.heap.size) :
    Calls Tryz.prog 92 #[.pointer (some ⟨v.t, 0, none⟩), .int .i64 21] w fun e w' => ∃ f, e = .returned f ∧ Deed w' w.heap.size K v m f (pre 21) (act 21) ∧ Fr [] w w' := by
  have hb0 : Blk (((w.alloc (.cells #[.pointer (some ⟨v.t, 0, none⟩)] 26)).alloc (.cells #[.pointer (some ⟨v.t, 0, none⟩)] 26)).alloc (.cells #[.bool true] 4)) (w.heap.size + 1) #[.pointer (some ⟨v.t, 0, none⟩)] 26 := by
    have h9 := (Blk.new (w.alloc (.cells #[.pointer (some ⟨v.t, 0, none⟩)] 26)) #[.pointer (some ⟨v.t, 0, none⟩)] 26).alloc (.cells #[.bool true] 4)
    simpa using h9
  have hb1 : Blk (((w.alloc (.cells #[.pointer (some ⟨v.t, 0, none⟩)] 26)).alloc (.cells #[.pointer (some ⟨v.t, 0, none⟩)] 26)).alloc (.cells #[.bool true] 4)) (w.heap.size + 2) #[.bool true] 4 := by
    have h9 := Blk.new ((w.alloc (.cells #[.pointer (some ⟨v.t, 0, none⟩)] 26)).alloc (.cells #[.pointer (some ⟨v.t, 0, none⟩)] 26)) #[.bool true] 4
    simpa using h9
  have F : Fr [] w (((w.alloc (.cells #[.pointer (some ⟨v.t, 0, none⟩)] 26)).alloc (.cells #[.pointer (some ⟨v.t, 0, none⟩)] 26)).alloc (.cells #[.bool true] 4)) := (((Fr.refl [] w).alloc (.cells #[.pointer (some ⟨v.t, 0, none⟩)] 26)).alloc (.cells #[.pointer (some ⟨v.t, 0, none⟩)] 26)).alloc (.cells #[.bool true] 4)
  have HF := Lib.hid F
  have H0 := Lib.hid hb0
  have H1 := Lib.hid hb1
  clear F hb0 hb1
  go_enter Tryz.func92, Tryz.ntmps92
  go_wp2_with fail
  refine (mk_peer _ v.t true).mono ?_
  rintro e w2 ⟨rfl, rfl⟩
  go_wp2
  go_ret
  have hs : (w.alloc (.cells #[.pointer (some ⟨v.t, 0, none⟩)] 26)).heap.size = w.heap.size + 1 := by simp
  exact ⟨_, rfl, Deed.mk2 (enters_of Tryz.func207 (by kernel_rfl) rfl) H1.out H0.out (by omega) (by omega) hK (fun W v' m' c0 c1 ht e1 e2 e3 n0 n1 hp => tie_peer1 W v' m' true _ _ ht c0 (by rw [e1]; exact c1) n0 n1 hp), HF.out⟩

set_option maxHeartbeats 1000000 in
theorem deed_23 (w : World) (v : TV) (m : TM) (K : List Nat) (h : IsTie w v m) (hK : ∀ x ∈ K, x < w.heap.size) :
    Calls Tryz.prog 92 #[.pointer (some ⟨v.t, 0, none⟩), .int .i64 23] w fun e w' => ∃ f, e = .returned f ∧ Deed w' w.heap.size K v m f (pre 23) (act 23) ∧ Fr [] w w' := by
  have hb0 : Blk ((((w.alloc (.cells #[.pointer (some ⟨v.t, 0, none⟩)] 26)).alloc (.cells #[.pointer (some ⟨v.t, 0, none⟩)] 26)).alloc (.cells #[.int .i64 0] 3)).alloc (.cells #[.bool false] 4)) (w.heap.size + 1) #[.pointer (some ⟨v.t, 0, none⟩)] 26 := by
    have h9 := ((Blk.new (w.alloc (.cells #[.pointer (some ⟨v.t, 0, none⟩)] 26)) #[.pointer (some ⟨v.t, 0, none⟩)] 26).alloc (.cells #[.int .i64 0] 3)).alloc (.cells #[.bool false] 4)
    simpa using h9
  have hb1 : Blk ((((w.alloc (.cells #[.pointer (some ⟨v.t, 0, none⟩)] 26)).alloc (.cells #[.pointer (some ⟨v.t, 0, none⟩)] 26)).alloc (.cells #[.int .i64 0] 3)).alloc (.cells #[.bool false] 4)) (w.heap.size + 2) #[.int .i64 0] 3 := by
    have h9 := (Blk.new ((w.alloc (.cells #[.pointer (some ⟨v.t, 0, none⟩)] 26)).alloc (.cells #[.pointer (some ⟨v.t, 0, none⟩)] 26)) #[.int .i64 0] 3).alloc (.cells #[.bool false] 4)
    simpa using h9
  have hb2 : Blk ((((w.alloc (.cells #[.pointer (some ⟨v.t, 0, none⟩)] 26)).alloc (.cells #[.pointer (some ⟨v.t, 0, none⟩)] 26)).alloc (.cells #[.int .i64 0] 3)).alloc (.cells #[.bool false] 4)) (w.heap.size + 3) #[.bool false] 4 := by
    have h9 := Blk.new (((w.alloc (.cells #[.pointer (some ⟨v.t, 0, none⟩)] 26)).alloc (.cells #[.pointer (some ⟨v.t, 0, none⟩)] 26)).alloc (.cells #[.int .i64 0] 3)) #[.bool false] 4
    simpa using h9
  have F : Fr [] w ((((w.alloc (.cells #[.pointer (some ⟨v.t, 0, none⟩)] 26)).alloc (.cells #[.pointer (some ⟨v.t, 0, none⟩)] 26)).alloc (.cells #[.int .i64 0] 3)).alloc (.cells #[.bool false] 4)) := ((((Fr.refl [] w).alloc (.cells #[.pointer (some ⟨v.t, 0, none⟩)] 26)).alloc (.cells #[.pointer (some ⟨v.t, 0, none⟩)] 26)).alloc (.cells #[.int .i64 0] 3)).alloc (.cells #[.bool false] 4)
  have HF := Lib.hid F
  have H0 := Lib.hid hb0
  have H1 := Lib.hid hb1
  have H2 := Lib.hid hb2
  clear F hb0 hb1 hb2
  go_enter Tryz.func92, Tryz.ntmps92
  go_wp2_with fail
  refine (mk_status _ v.t 0 false).mono ?_
  rintro e w2 ⟨rfl, rfl⟩
  go_wp2
  go_ret
  have hs : (w.alloc (.cells #[.pointer (some ⟨v.t, 0, none⟩)] 26)).heap.size = w.heap.size + 1 := by simp
  exact ⟨_, rfl, Deed.mk3 (enters_of Tryz.func210 (by kernel_rfl) rfl) H0.out H1.out H2.out (by omega) (by omega) (by omega) hK (fun W v' m' c0 c1 c2 ht e1 e2 e3 hp => tie_status1 W v' m' 0 false _ _ _ ht (by rw [e1]; exact c0) c1 c2 hp), HF.out⟩

set_option maxHeartbeats 1000000 in
theorem deed_24 (w : World) (v : TV) (m : TM) (K : List Nat) (h : IsTie w v m) (hK : ∀ x ∈ K, x < w.heap.size) :
    Calls Tryz.prog 92 #[.pointer (some ⟨v.t, 0, none⟩), .int .i64 24] w fun e w' => ∃ f, e = .returned f ∧ Deed w' w.heap.size K v m f (pre 24) (act 24) ∧ Fr [] w w' := by
  have hb0 : Blk ((((w.alloc (.cells #[.pointer (some ⟨v.t, 0, none⟩)] 26)).alloc (.cells #[.pointer (some ⟨v.t, 0, none⟩)] 26)).alloc (.cells #[.int .i64 0] 3)).alloc (.cells #[.bool true] 4)) (w.heap.size + 1) #[.pointer (some ⟨v.t, 0, none⟩)] 26 := by
    have h9 := ((Blk.new (w.alloc (.cells #[.pointer (some ⟨v.t, 0, none⟩)] 26)) #[.pointer (some ⟨v.t, 0, none⟩)] 26).alloc (.cells #[.int .i64 0] 3)).alloc (.cells #[.bool true] 4)
    simpa using h9
  have hb1 : Blk ((((w.alloc (.cells #[.pointer (some ⟨v.t, 0, none⟩)] 26)).alloc (.cells #[.pointer (some ⟨v.t, 0, none⟩)] 26)).alloc (.cells #[.int .i64 0] 3)).alloc (.cells #[.bool true] 4)) (w.heap.size + 2) #[.int .i64 0] 3 := by
    have h9 := (Blk.new ((w.alloc (.cells #[.pointer (some ⟨v.t, 0, none⟩)] 26)).alloc (.cells #[.pointer (some ⟨v.t, 0, none⟩)] 26)) #[.int .i64 0] 3).alloc (.cells #[.bool true] 4)
    simpa using h9
  have hb2 : Blk ((((w.alloc (.cells #[.pointer (some ⟨v.t, 0, none⟩)] 26)).alloc (.cells #[.pointer (some ⟨v.t, 0, none⟩)] 26)).alloc (.cells #[.int .i64 0] 3)).alloc (.cells #[.bool true] 4)) (w.heap.size + 3) #[.bool true] 4 := by
    have h9 := Blk.new (((w.alloc (.cells #[.pointer (some ⟨v.t, 0, none⟩)] 26)).alloc (.cells #[.pointer (some ⟨v.t, 0, none⟩)] 26)).alloc (.cells #[.int .i64 0] 3)) #[.bool true] 4
    simpa using h9
  have F : Fr [] w ((((w.alloc (.cells #[.pointer (some ⟨v.t, 0, none⟩)] 26)).alloc (.cells #[.pointer (some ⟨v.t, 0, none⟩)] 26)).alloc (.cells #[.int .i64 0] 3)).alloc (.cells #[.bool true] 4)) := ((((Fr.refl [] w).alloc (.cells #[.pointer (some ⟨v.t, 0, none⟩)] 26)).alloc (.cells #[.pointer (some ⟨v.t, 0, none⟩)] 26)).alloc (.cells #[.int .i64 0] 3)).alloc (.cells #[.bool true] 4)
  have HF := Lib.hid F
  have H0 := Lib.hid hb0
  have H1 := Lib.hid hb1
  have H2 := Lib.hid hb2
  clear F hb0 hb1 hb2
  go_enter Tryz.func92, Tryz.ntmps92
  go_wp2_with fail
  refine (mk_status _ v.t 0 true).mono ?_
  rintro e w2 ⟨rfl, rfl⟩
  go_wp2
  go_ret
  have hs : (w.alloc (.cells #[.pointer (some ⟨v.t, 0, none⟩)] 26)).heap.size = w.heap.size + 1 := by simp
  exact ⟨_, rfl, Deed.mk3 (enters_of Tryz.func210 (by kernel_rfl) rfl) H0.out H1.out H2.out (by omega) (by omega) (by omega) hK (fun W v' m' c0 c1 c2 ht e1 e2 e3 hp => tie_status1 W v' m' 0 true _ _ _ ht (by rw [e1]; exact c0) c1 c2 hp), HF.out⟩

set_option maxHeartbeats 1000000 in
theorem deed_25 (w : World) (v : TV) (m : TM) (K : List Nat) (h : IsTie w v m) (hK : ∀ x ∈ K, x < w.heap.size) :
    Calls Tryz.prog 92 #[.pointer (some ⟨v.t, 0, none⟩), .int .i64 25] w fun e w' => ∃ f, e = .returned f ∧ Deed w' w.heap.size K v m f (pre 25) (act 25) ∧ Fr [] w w' := by
  have hb0 : Blk ((((w.alloc (.cells #[.pointer (some ⟨v.t, 0, none⟩)] 26)).alloc (.cells #[.pointer (some ⟨v.t, 0, none⟩)] 26)).alloc (.cells #[.int .i64 1] 3)).alloc (.cells #[.bool false] 4)) (w.heap.size + 1) #[.pointer (some ⟨v.t, 0, none⟩)] 26 := by
    have h9 := ((Blk.new (w.alloc (.cells #[.pointer (some ⟨v.t, 0, none⟩)] 26)) #[.pointer (some ⟨v.t, 0, none⟩)] 26).alloc (.cells #[.int .i64 1] 3)).alloc (.cells #[.bool false] 4)
    simpa using h9
  have hb1 : Blk ((((w.alloc (.cells #[.pointer (some ⟨v.t, 0, none⟩)] 26)).alloc (.cells #[.pointer (some ⟨v.t, 0, none⟩)] 26)).alloc (.cells #[.int .i64 1] 3)).alloc (.cells #[.bool false] 4)) (w.heap.size + 2) #[.int .i64 1] 3 := by
    have h9 := (Blk.new ((w.alloc (.cells #[.pointer (some ⟨v.t, 0, none⟩)] 26)).alloc (.cells #[.pointer (some ⟨v.t, 0, none⟩)] 26)) #[.int .i64 1] 3).alloc (.cells #[.bool false] 4)
    simpa using h9
  have hb2 : Blk ((((w.alloc (.cells #[.pointer (some ⟨v.t, 0, none⟩)] 26)).alloc (.cells #[.pointer (some ⟨v.t, 0, none⟩)] 26)).alloc (.cells #[.int .i64 1] 3)).alloc (.cells #[.bool false] 4)) (w.heap.size + 3) #[.bool false] 4 := by
    have h9 := Blk.new (((w.alloc (.cells #[.pointer (some ⟨v.t, 0, none⟩)] 26)).alloc (.cells #[.pointer (some ⟨v.t, 0, none⟩)] 26)).alloc (.cells #[.int .i64 1] 3)) #[.bool false] 4
    simpa using h9
  have F : Fr [] w ((((w.alloc (.cells #[.pointer (some ⟨v.t, 0, none⟩)] 26)).alloc (.cells #[.pointer (some ⟨v.t, 0, none⟩)] 26)).alloc (.cells #[.int .i64 1] 3)).alloc (.cells #[.bool false] 4)) := ((((Fr.refl [] w).alloc (.cells #[.pointer (some ⟨v.t, 0, none⟩)] 26)).alloc (.cells #[.pointer (some ⟨v.t, 0, none⟩)] 26)).alloc (.cells #[.int .i64 1] 3)).alloc (.cells #[.bool false] 4)
  have HF := Lib.hid F
  have H0 := Lib.hid hb0
  have H1 := Lib.hid hb1
  have H2 := Lib.hid hb2
  clear F hb0 hb1 hb2
  go_enter Tryz.func92, Tryz.ntmps92
  go_wp2_with fail
  refine (mk_status _ v.t 1 false).mono ?_
  rintro e w2 ⟨rfl, rfl⟩
  go_wp2
  go_ret
  have hs : (w.alloc (.cells #[.pointer (some ⟨v.t, 0, none⟩)] 26)).heap.size = w.heap.size + 1 := by simp
  exact ⟨_, rfl, Deed.mk3 (enters_of Tryz.func210 (by kernel_rfl) rfl) H0.out H1.out H2.out (by omega) (by omega) (by omega) hK (fun W v' m' c0 c1 c2 ht e1 e2 e3 hp => tie_status1 W v' m' 1 false _ _ _ ht (by rw [e1]; exact c0) c1 c2 hp), HF.out⟩

set_option maxHeartbeats 1000000 in
theorem deed_26 (w : World) (v : TV) (m : TM) (K : List Nat) (h : IsTie w v m) (hK : ∀ x ∈ K, x < w.heap.size) :
    Calls Tryz.prog 92 #[.pointer (some ⟨v.t, 0, none⟩), .int .i64 26] w fun e w' => ∃ f, e = .returned f ∧ Deed w' w.heap.size K v m f (pre 26) (act 26) ∧ Fr [] w w' := by
  have hb0 : Blk ((((w.alloc (.cells #[.pointer (some ⟨v.t, 0, none⟩)] 26)).alloc (.cells #[.pointer (some ⟨v.t, 0, none⟩)] 26)).alloc (.cells #[.int .i64 1] 3)).alloc (.cells #[.bool true] 4)) (w.heap.size + 1) #[.pointer (some ⟨v.t, 0, none⟩)] 26 := by
    have h9 := ((Blk.new (w.alloc (.cells #[.pointer (some ⟨v.t, 0, none⟩)] 26)) #[.pointer (some ⟨v.t, 0, none⟩)] 26).alloc (.cells #[.int .i64 1] 3)).alloc (.cells #[.bool true] 4)
    simpa using h9
  have hb1 : Blk ((((w.alloc (.cells #[.pointer (some ⟨v.t, 0, none⟩)] 26)).alloc (.cells #[.pointer (some ⟨v.t, 0, none⟩)] 26)).alloc (.cells #[.int .i64 1] 3)).alloc (.cells #[.bool true] 4)) (w.heap.size + 2) #[.int .i64 1] 3 := by
    have h9 := (Blk.new ((w.alloc (.cells #[.pointer (some ⟨v.t, 0, none⟩)] 26)).alloc (.cells #[.pointer (some ⟨v.t, 0, none⟩)] 26)) #[.int .i64 1] 3).alloc (.cells #[.bool true] 4)
    simpa using h9
  have hb2 : Blk ((((w.alloc (.cells #[.pointer (some ⟨v.t, 0, none⟩)] 26)).alloc (.cells #[.pointer (some ⟨v.t, 0, none⟩)] 26)).alloc (.cells #[.int .i64 1] 3)).alloc (.cells #[.bool true] 4)) (w.heap.size + 3) #[.bool true] 4 := by
    have h9 := Blk.new (((w.alloc (.cells #[.pointer (some ⟨v.t, 0, none⟩)] 26)).alloc (.cells #[.pointer (some ⟨v.t, 0, none⟩)] 26)).alloc (.cells #[.int .i64 1] 3)) #[.bool true] 4
    simpa using h9
  have F : Fr [] w ((((w.alloc (.cells #[.pointer (some ⟨v.t, 0, none⟩)] 26)).alloc (.cells #[.pointer (some ⟨v.t, 0, none⟩)] 26)).alloc (.cells #[.int .i64 1] 3)).alloc (.cells #[.bool true] 4)) := ((((Fr.refl [] w).alloc (.cells #[.pointer (some ⟨v.t, 0, none⟩)] 26)).alloc (.cells #[.pointer (some ⟨v.t, 0, none⟩)] 26)).alloc (.cells #[.int .i64 1] 3)).alloc (.cells #[.bool true] 4)
  have HF := Lib.hid F
  have H0 := Lib.hid hb0
  have H1 := Lib.hid hb1
  have H2 := Lib.hid hb2
  clear F hb0 hb1 hb2
  go_enter Tryz.func92, Tryz.ntmps92
  go_wp2_with fail
  refine (mk_status _ v.t 1 true).mono ?_
  rintro e w2 ⟨rfl, rfl⟩
  go_wp2
  go_ret
  have hs : (w.alloc (.cells #[.pointer (some ⟨v.t, 0, none⟩)] 26)).heap.size = w.heap.size + 1 := by simp
  exact ⟨_, rfl, Deed.mk3 (enters_of Tryz.func210 (by kernel_rfl) rfl) H0.out H1.out H2.out (by omega) (by omega) (by omega) hK (fun W v' m' c0 c1 c2 ht e1 e2 e3 hp => tie_status1 W v' m' 1 true _ _ _ ht (by rw [e1]; exact c0) c1 c2 hp), HF.out⟩

set_option maxHeartbeats 1000000 in
theorem deed_27 (w : World) (v : TV) (m : TM) (K : List Nat) (h : IsTie w v m) (hK : ∀ x ∈ K, x < w.heap.size) :
    Calls Tryz.prog 92 #[.pointer (some ⟨v.t, 0, none⟩), .int .i64 27] w fun e w' => ∃ f, e = .returned f ∧ Deed w' w.heap.size K v m f (pre 27) (act 27) ∧ Fr [] w w' := by
  have hb0 : Blk ((((w.alloc (.cells #[.pointer (some ⟨v.t, 0, none⟩)] 26)).alloc (.cells #[.pointer (some ⟨v.t, 0, none⟩)] 26)).alloc (.cells #[.int .i64 2] 3)).alloc (.cells #[.bool false] 4)) (w.heap.size + 1) #[.pointer (some ⟨v.t, 0, none⟩)] 26 := by
    have h9 := ((Blk.new (w.alloc (.cells #[.pointer (some ⟨v.t, 0, none⟩)] 26)) #[.pointer (some ⟨v.t, 0, none⟩)] 26).alloc (.cells #[.int .i64 2] 3)).alloc (.cells #[.bool false] 4)
    simpa using h9
  have hb1 : Blk ((((w.alloc (.cells #[.pointer (some ⟨v.t, 0, none⟩)] 26)).alloc (.cells #[.pointer (some ⟨v.t, 0, none⟩)] 26)).alloc (.cells #[.int .i64 2] 3)).alloc (.cells #[.bool false] 4)) (w.heap.size + 2) #[.int .i64 2] 3 := by
    have h9 := (Blk.new ((w.alloc (.cells #[.pointer (some ⟨v.t, 0, none⟩)] 26)).alloc (.cells #[.pointer (some ⟨v.t, 0, none⟩)] 26)) #[.int .i64 2] 3).alloc (.cells #[.bool false] 4)
    simpa using h9
  have hb2 : Blk ((((w.alloc (.cells #[.pointer (some ⟨v.t, 0, none⟩)] 26)).alloc (.cells #[.pointer (some ⟨v.t, 0, none⟩)] 26)).alloc (.cells #[.int .i64 2] 3)).alloc (.cells #[.bool false] 4)) (w.heap.size + 3) #[.bool false] 4 := by
    have h9 := Blk.new (((w.alloc (.cells #[.pointer (some ⟨v.t, 0, none⟩)] 26)).alloc (.cells #[.pointer (some ⟨v.t, 0, none⟩)] 26)).alloc (.cells #[.int .i64 2] 3)) #[.bool false] 4
    simpa using h9
  have F : Fr [] w ((((w.alloc (.cells #[.pointer (some ⟨v.t, 0, none⟩)] 26)).alloc (.cells #[.pointer (some ⟨v.t, 0, none⟩)] 26)).alloc (.cells #[.int .i64 2] 3)).alloc (.cells #[.bool false] 4)) := ((((Fr.refl [] w).alloc (.cells #[.pointer (some ⟨v.t, 0, none⟩)] 26)).alloc (.cells #[.pointer (some ⟨v.t, 0, none⟩)] 26)).alloc (.cells #[.int .i64 2] 3)).alloc (.cells #[.bool false] 4)
  have HF := Lib.hid F
  have H0 := Lib.hid hb0
  have H1 := Lib.hid hb1
  have H2 := Lib.hid hb2
  clear F hb0 hb1 hb2
  go_enter Tryz.func92, Tryz.ntmps92
  go_wp2_with fail
  refine (mk_status _ v.t 2 false).mono ?_
  rintro e w2 ⟨rfl, rfl⟩
  go_wp2
  go_ret
  have hs : (w.alloc (.cells #[.pointer (some ⟨v.t, 0, none⟩)] 26)).heap.size = w.heap.size + 1 := by simp
  exact ⟨_, rfl, Deed.mk3 (enters_of Tryz.func210 (by kernel_rfl) rfl) H0.out H1.out H2.out (by omega) (by omega) (by omega) hK (fun W v' m' c0 c1 c2 ht e1 e2 e3 hp => tie_status1 W v' m' 2 false _ _ _ ht (by rw [e1]; exact c0) c1 c2 hp), HF.out⟩

set_option maxHeartbeats 1000000 in
theorem deed_28 (w : World) (v : TV) (m : TM) (K : List Nat) (h : IsTie w v m) (hK : ∀ x ∈ K, x < w.heap.size) :
    Calls Tryz.prog 92 #[.pointer (some ⟨v.t, 0, none⟩), .int .i64 28] w fun e w' => ∃ f, e = .returned f ∧ Deed w' w.heap.size K v m f (pre 28) (act 28) ∧ Fr [] w w' := by
  have hb0 : Blk ((((w.alloc (.cells #[.pointer (some ⟨v.t, 0, none⟩)] 26)).alloc (.cells #[.pointer (some ⟨v.t, 0, none⟩)] 26)).alloc (.cells #[.int .i64 2] 3)).alloc (.cells #[.bool true] 4)) (w.heap.size + 1) #[.pointer (some ⟨v.t, 0, none⟩)] 26 := by
    have h9 := ((Blk.new (w.alloc (.cells #[.pointer (some ⟨v.t, 0, none⟩)] 26)) #[.pointer (some ⟨v.t, 0, none⟩)] 26).alloc (.cells #[.int .i64 2] 3)).alloc (.cells #[.bool true] 4)
    simpa using h9
  have hb1 : Blk ((((w.alloc (.cells #[.pointer (some ⟨v.t, 0, none⟩)] 26)).alloc (.cells #[.pointer (some ⟨v.t, 0, none⟩)] 26)).alloc (.cells #[.int .i64 2] 3)).alloc (.cells #[.bool true] 4)) (w.heap.size + 2) #[.int .i64 2] 3 := by
    have h9 := (Blk.new ((w.alloc (.cells #[.pointer (some ⟨v.t, 0, none⟩)] 26)).alloc (.cells #[.pointer (some ⟨v.t, 0, none⟩)] 26)) #[.int .i64 2] 3).alloc (.cells #[.bool true] 4)
    simpa using h9
  have hb2 : Blk ((((w.alloc (.cells #[.pointer (some ⟨v.t, 0, none⟩)] 26)).alloc (.cells #[.pointer (some ⟨v.t, 0, none⟩)] 26)).alloc (.cells #[.int .i64 2] 3)).alloc (.cells #[.bool true] 4)) (w.heap.size + 3) #[.bool true] 4 := by
    have h9 := Blk.new (((w.alloc (.cells #[.pointer (some ⟨v.t, 0, none⟩)] 26)).alloc (.cells #[.pointer (some ⟨v.t, 0, none⟩)] 26)).alloc (.cells #[.int .i64 2] 3)) #[.bool true] 4
    simpa using h9
  have F : Fr [] w ((((w.alloc (.cells #[.pointer (some ⟨v.t, 0, none⟩)] 26)).alloc (.cells #[.pointer (some ⟨v.t, 0, none⟩)] 26)).alloc (.cells #[.int .i64 2] 3)).alloc (.cells #[.bool true] 4)) := ((((Fr.refl [] w).alloc (.cells #[.pointer (some ⟨v.t, 0, none⟩)] 26)).alloc (.cells #[.pointer (some ⟨v.t, 0, none⟩)] 26)).alloc (.cells #[.int .i64 2] 3)).alloc (.cells #[.bool true] 4)
  have HF := Lib.hid F
  have H0 := Lib.hid hb0
  have H1 := Lib.hid hb1
  have H2 := Lib.hid hb2
  clear F hb0 hb1 hb2
  go_enter Tryz.func92, Tryz.ntmps92
  go_wp2_with fail
  refine (mk_status _ v.t 2 true).mono ?_
  rintro e w2 ⟨rfl, rfl⟩
  go_wp2
  go_ret
  have hs : (w.alloc (.cells #[.pointer (some ⟨v.t, 0, none⟩)] 26)).heap.size = w.heap.size + 1 := by simp
  exact ⟨_, rfl, Deed.mk3 (enters_of Tryz.func210 (by kernel_rfl) rfl) H0.out H1.out H2.out (by omega) (by omega) (by omega) hK (fun W v' m' c0 c1 c2 ht e1 e2 e3 hp => tie_status1 W v' m' 2 true _ _ _ ht (by rw [e1]; exact c0) c1 c2 hp), HF.out⟩

set_option maxHeartbeats 1000000 in
theorem deed_29 (w : World) (v : TV) (m : TM) (K : List Nat) (h : IsTie w v m) (hK : ∀ x ∈ K, x < w.heap.size) :
    Calls Tryz.prog 92 #[.pointer (some ⟨v.t, 0, none⟩), .int .i64 29] w fun e w' => ∃ f, e = .returned f ∧ Deed w' w.heap.size K v m f (pre 29) (act 29) ∧ Fr [] w w' := by
  have hb0 : Blk (((w.alloc (.cells #[.pointer (some ⟨v.t, 0, none⟩)] 26)).alloc (.cells #[.pointer (some ⟨v.t, 0, none⟩)] 26)).alloc (.cells #[.int .i64 0] 3)) (w.heap.size + 1) #[.pointer (some ⟨v.t, 0, none⟩)] 26 := by
    have h9 := (Blk.new (w.alloc (.cells #[.pointer (some ⟨v.t, 0, none⟩)] 26)) #[.pointer (some ⟨v.t, 0, none⟩)] 26).alloc (.cells #[.int .i64 0] 3)
    simpa using h9
  have hb1 : Blk (((w.alloc (.cells #[.pointer (some ⟨v.t, 0, none⟩)] 26)).alloc (.cells #[.pointer (some ⟨v.t, 0, none⟩)] 26)).alloc (.cells #[.int .i64 0] 3)) (w.heap.size + 2) #[.int .i64 0] 3 := by
    have h9 := Blk.new ((w.alloc (.cells #[.pointer (some ⟨v.t, 0, none⟩)] 26)).alloc (.cells #[.pointer (some ⟨v.t, 0, none⟩)] 26)) #[.int .i64 0] 3
    simpa using h9
  have F : Fr [] w (((w.alloc (.cells #[.pointer (some ⟨v.t, 0, none⟩)] 26)).alloc (.cells #[.pointer (some ⟨v.t, 0, none⟩)] 26)).alloc (.cells #[.int .i64 0] 3)) := (((Fr.refl [] w).alloc (.cells #[.pointer (some ⟨v.t, 0, none⟩)] 26)).alloc (.cells #[.pointer (some ⟨v.t, 0, none⟩)] 26)).alloc (.cells #[.int .i64 0] 3)
  have HF := Lib.hid F
  have H0 := Lib.hid hb0
  have H1 := Lib.hid hb1
  clear F hb0 hb1
  go_enter Tryz.func92, Tryz.ntmps92
  go_wp2_with fail
  refine (mk_ask _ v.t 0).mono ?_
  rintro e w2 ⟨rfl, rfl⟩
  go_wp2
  go_ret
  have hs : (w.alloc (.cells #[.pointer (some ⟨v.t, 0, none⟩)] 26)).heap.size = w.heap.size + 1 := by simp
  exact ⟨_, rfl, Deed.mk2 (enters_of Tryz.func211 (by kernel_rfl) rfl) H0.out H1.out (by omega) (by omega) hK (fun W v' m' c0 c1 ht e1 e2 e3 n0 n1 hp => tie_ask1 W v' m' 0 _ _ ht (by rw [e1]; exact c0) c1 n0 hp.2 hp.1), HF.out⟩

set_option maxHeartbeats 1000000 in
theorem deed_30 (w : World) (v : TV) (m : TM) (K : List Nat) (h : IsTie w v m) (hK : ∀ x ∈ K, x < w.heap.size) :
    Calls Tryz.prog 92 #[.pointer (some ⟨v.t, 0, none⟩), .int .i64 30] w fun e w' => ∃ f, e = .returned f ∧ Deed w' w.heap.size K v m f (pre 30) (act 30) ∧ Fr [] w w' := by
  have hb0 : Blk (((w.alloc (.cells #[.pointer (some ⟨v.t, 0, none⟩)] 26)).alloc (.cells #[.pointer (some ⟨v.t, 0, none⟩)] 26)).alloc (.cells #[.int .i64 1] 3)) (w.heap.size + 1) #[.pointer (some ⟨v.t, 0, none⟩)] 26 := by
    have h9 := (Blk.new (w.alloc (.cells #[.pointer (some ⟨v.t, 0, none⟩)] 26)) #[.pointer (some ⟨v.t, 0, none⟩)] 26).alloc (.cells #[.int .i64 1] 3)
    simpa using h9
  have hb1 : Blk (((w.alloc (.cells #[.pointer (some ⟨v.t, 0, none⟩)] 26)).alloc (.cells #[.pointer (some ⟨v.t, 0, none⟩)] 26)).alloc (.cells #[.int .i64 1] 3)) (w.heap.size + 2) #[.int .i64 1] 3 := by
    have h9 := Blk.new ((w.alloc (.cells #[.pointer (some ⟨v.t, 0, none⟩)] 26)).alloc (.cells #[.pointer (some ⟨v.t, 0, none⟩)] 26)) #[.int .i64 1] 3
    simpa using h9
  have F : Fr [] w (((w.alloc (.cells #[.pointer (some ⟨v.t, 0, none⟩)] 26)).alloc (.cells #[.pointer (some ⟨v.t, 0, none⟩)] 26)).alloc (.cells #[.int .i64 1] 3)) := (((Fr.refl [] w).alloc (.cells #[.pointer (some ⟨v.t, 0, none⟩)] 26)).alloc (.cells #[.pointer (some ⟨v.t, 0, none⟩)] 26)).alloc (.cells #[.int .i64 1] 3)
  have HF := Lib.hid F
  have H0 := Lib.hid hb0
  have H1 := Lib.hid hb1
  clear F hb0 hb1
  go_enter Tryz.func92, Tryz.ntmps92
  go_wp2_with fail
  refine (mk_ask _ v.t 1).mono ?_
  rintro e w2 ⟨rfl, rfl⟩
  go_wp2
  go_ret
  have hs : (w.alloc (.cells #[.pointer (some ⟨v.t, 0, none⟩)] 26)).heap.size = w.heap.size + 1 := by simp
  exact ⟨_, rfl, Deed.mk2 (enters_of Tryz.func211 (by kernel_rfl) rfl) H0.out H1.out (by omega) (by omega) hK (fun W v' m' c0 c1 ht e1 e2 e3 n0 n1 hp => tie_ask1 W v' m' 1 _ _ ht (by rw [e1]; exact c0) c1 n0 hp.2 hp.1), HF.out⟩

set_option maxHeartbeats 1000000 in
theorem deed_10 (w : World) (v : TV) (m : TM) (K : List Nat) (h : IsTie w v m) (hK : ∀ x ∈ K, x < w.heap.size) :
    Calls Tryz.prog 92 #[.pointer (some ⟨v.t, 0, none⟩), .int .i64 10] w fun e w' => ∃ f, e = .returned f ∧ Deed w' w.heap.size K v m f (pre 10) (act 10) ∧ Fr [] w w' := by
  have HF := Lib.hid ((Fr.refl [] w).alloc (.cells #[.pointer (some ⟨v.t, 0, none⟩)] 26))
  go_enter Tryz.func92, Tryz.ntmps92
  go_wp2
  go_ret
  exact ⟨_, rfl, Deed.mk0 (enters_of Tryz.func150 (by kernel_rfl) rfl) (fun W v' m' ht e1 e2 e3 hp => by rw [← e1]; exact tie_clearA W v' m' ht hp.1 hp.2), HF.out⟩

set_option maxHeartbeats 1000000 in
theorem deed_18 (w : World) (v : TV) (m : TM) (K : List Nat) (h : IsTie w v m) (hK : ∀ x ∈ K, x < w.heap.size) :
    Calls Tryz.prog 92 #[.pointer (some ⟨v.t, 0, none⟩), .int .i64 18] w fun e w' => ∃ f, e = .returned f ∧ Deed w' w.heap.size K v m f (pre 18) (act 18) ∧ Fr [] w w' := by
  have HF := Lib.hid ((Fr.refl [] w).alloc (.cells #[.pointer (some ⟨v.t, 0, none⟩)] 26))
  go_enter Tryz.func92, Tryz.ntmps92
  go_wp2
  go_ret
  exact ⟨_, rfl, Deed.mk0 (enters_of Tryz.func154 (by kernel_rfl) rfl) (fun W v' m' ht e1 e2 e3 hp => by rw [← e1]; exact (by obtain ⟨h1, d, h2, h3⟩ := hp; exact tie_take W v' m' d ht h2 h3 h1)), HF.out⟩

set_option maxHeartbeats 1000000 in
theorem deed_19 (w : World) (v : TV) (m : TM) (K : List Nat) (h : IsTie w v m) (hK : ∀ x ∈ K, x < w.heap.size) :
    Calls Tryz.prog 92 #[.pointer (some ⟨v.t, 0, none⟩), .int .i64 19] w fun e w' => ∃ f, e = .returned f ∧ Deed w' w.heap.size K v m f (pre 19) (act 19) ∧ Fr [] w w' := by
  have HF := Lib.hid ((Fr.refl [] w).alloc (.cells #[.pointer (some ⟨v.t, 0, none⟩)] 26))
  go_enter Tryz.func92, Tryz.ntmps92
  go_wp2
  go_ret
  exact ⟨_, rfl, Deed.mk0 (enters_of Tryz.func155 (by kernel_rfl) rfl) (fun W v' m' ht e1 e2 e3 hp => by rw [← e1]; exact (by obtain ⟨h1, d, h2⟩ := hp; exact tie_ack W v' m' d ht h2 h1)), HF.out⟩

set_option maxHeartbeats 1000000 in
theorem deed_22 (w : World) (v : TV) (m : TM) (K : List Nat) (h : IsTie w v m) (hK : ∀ x ∈ K, x < w.heap.size) :
    Calls Tryz.prog 92 #[.pointer (some ⟨v.t, 0, none⟩), .int .i64 22] w fun e w' => ∃ f, e = .returned f ∧ Deed w' w.heap.size K v m f (pre 22) (act 22) ∧ Fr [] w w' := by
  have HF := Lib.hid ((Fr.refl [] w).alloc (.cells #[.pointer (some ⟨v.t, 0, none⟩)] 26))
  go_enter Tryz.func92, Tryz.ntmps92
  go_wp2
  go_ret
  exact ⟨_, rfl, Deed.mk0 (enters_of Tryz.func157 (by kernel_rfl) rfl) (fun W v' m' ht e1 e2 e3 hp => by rw [← e1]; exact tie_goBack W v' m' ht hp), HF.out⟩

set_option maxHeartbeats 1000000 in
theorem deed_31 (w : World) (v : TV) (m : TM) (K : List Nat) (h : IsTie w v m) (hK : ∀ x ∈ K, x < w.heap.size) :
    Calls Tryz.prog 92 #[.pointer (some ⟨v.t, 0, none⟩), .int .i64 31] w fun e w' => ∃ f, e = .returned f ∧ Deed w' w.heap.size K v m f (pre 31) (act 31) ∧ Fr [] w w' := by
  have HF := Lib.hid ((Fr.refl [] w).alloc (.cells #[.pointer (some ⟨v.t, 0, none⟩)] 26))
  go_enter Tryz.func92, Tryz.ntmps92
  go_wp2
  go_ret
  exact ⟨_, rfl, Deed.mk0 (enters_of Tryz.func160 (by kernel_rfl) rfl) (fun W v' m' ht e1 e2 e3 hp => by rw [← e1]; exact tie_push W v' m' ht hp), HF.out⟩

set_option maxHeartbeats 1000000 in
theorem deed_12 (w : World) (v : TV) (m : TM) (K : List Nat) (h : IsTie w v m) (hK : ∀ x ∈ K, x < w.heap.size) :
    Calls Tryz.prog 92 #[.pointer (some ⟨v.t, 0, none⟩), .int .i64 12] w fun e w' => ∃ f, e = .returned f ∧ Deed w' w.heap.size K v m f (pre 12) (act 12) ∧ Fr [] w w' := by
  have HF := Lib.hid ((Fr.refl [] w).alloc (.cells #[.pointer (some ⟨v.t, 0, none⟩)] 26))
  go_enter Tryz.func92, Tryz.ntmps92
  go_wp2
  go_ret
  exact ⟨_, rfl, Deed.mk0 (enters_of Tryz.func151 (by kernel_rfl) rfl) (fun W v' m' ht e1 e2 e3 hp => by rw [← e1]; exact tie_stopAll W v' m' ht hp), HF.out⟩

set_option maxHeartbeats 1000000 in
theorem deed_33 (w : World) (v : TV) (m : TM) (K : List Nat) (h : IsTie w v m) (hK : ∀ x ∈ K, x < w.heap.size) :
    Calls Tryz.prog 92 #[.pointer (some ⟨v.t, 0, none⟩), .int .i64 33] w fun e w' => ∃ f, e = .returned f ∧ Deed w' w.heap.size K v m f (pre 33) (act 33) ∧ Fr [] w w' := by
  have HF := Lib.hid ((Fr.refl [] w).alloc (.cells #[.pointer (some ⟨v.t, 0, none⟩)] 26))
  go_enter Tryz.func92, Tryz.ntmps92
  go_wp2
  go_ret
  exact ⟨_, rfl, Deed.mk0 (enters_of Tryz.func162 (by kernel_rfl) rfl) (fun W v' m' ht e1 e2 e3 hp => by rw [← e1]; exact tie_zero W v' m' ht hp), HF.out⟩

set_option maxHeartbeats 1000000 in
theorem deed_32 (w : World) (v : TV) (m : TM) (K : List Nat) (h : IsTie w v m) (hK : ∀ x ∈ K, x < w.heap.size) :
    Calls Tryz.prog 92 #[.pointer (some ⟨v.t, 0, none⟩), .int .i64 32] w fun e w' => ∃ f, e = .returned f ∧ Deed w' w.heap.size K v m f (pre 32) (act 32) ∧ Fr [] w w' := by
  have HF := Lib.hid ((Fr.refl [] w).alloc (.cells #[.pointer (some ⟨v.t, 0, none⟩)] 26))
  have HB := Lib.hid (Blk.new w #[.pointer (some ⟨v.t, 0, none⟩)] 26)
  go_enter Tryz.func92, Tryz.ntmps92
  go_wp2
  go_ret
  exact ⟨_, rfl, Deed.mk1 (enters_of Tryz.func161 (by kernel_rfl) rfl) HB.out (Nat.le_refl _) hK (fun W v' m' c0 ht e1 e2 e3 n0 hp => tie_retry1 W v' m' _ ht (by rw [e1]; exact c0) hp), HF.out⟩

set_option maxHeartbeats 1000000 in
theorem deed_34 (w : World) (v : TV) (m : TM) (K : List Nat) (h : IsTie w v m) (hK : ∀ x ∈ K, x < w.heap.size) :
    Calls Tryz.prog 92 #[.pointer (some ⟨v.t, 0, none⟩), .int .i64 34] w fun e w' => ∃ f, e = .returned f ∧ Deed w' w.heap.size K v m f (pre 34) (act 34) ∧ Fr [] w w' := by
  have HF := Lib.hid ((Fr.refl [] w).alloc (.cells #[.pointer (some ⟨v.t, 0, none⟩)] 26))
  have c14 := (h.fr0 HF.out).c14
  go_enter Tryz.func92, Tryz.ntmps92
  go_wp2
  go_ret
  refine ⟨_, rfl, Deed.mk0 (enters_of Tryz.func163 (by kernel_rfl) rfl) (fun W v' m' ht e1 e2 e3 hp => ?_), HF.out⟩
  have ew : v'.w = v.w := by simp only [TV.fix, Prod.mk.injEq] at e2; exact e2.2.2.2.1
  rw [← ew]
  exact tie_slow1 W v' m' ht hp

set_option maxHeartbeats 1000000 in
theorem deed_13 (w : World) (v : TV) (m : TM) (K : List Nat) (h : IsTie w v m) (hK : ∀ x ∈ K, x < w.heap.size) :
    Calls Tryz.prog 92 #[.pointer (some ⟨v.t, 0, none⟩), .int .i64 13] w fun e w' => ∃ f, e = .returned f ∧ Deed w' w.heap.size K v m f (pre 13) (act 13) ∧ Fr [] w w' := by
  have hs := tie_start (w.alloc (.cells #[.pointer (some ⟨v.t, 0, none⟩)] 26)) v m 29 (h.fr0 ((Fr.refl [] w).alloc (.cells #[.pointer (some ⟨v.t, 0, none⟩)] 26)))
  have HF := Lib.hid ((Fr.refl [] w).alloc (.cells #[.pointer (some ⟨v.t, 0, none⟩)] 26))
  have HS := Lib.hid hs
  clear hs
  go_enter Tryz.func92, Tryz.ntmps92
  go_wp2_with fail
  refine HS.out.mono ?_
  rintro e w2 ⟨b0, b1, b2, M, rfl, c0, c1, c2, hM, l0, l1, l2, l3, f2⟩
  have HM := Lib.hid hM
  have HD := Lib.hid (And.intro c0 (And.intro c1 c2))
  have HF2 := Lib.hid (HF.out.tr f2)
  have hs : (w.alloc (.cells #[.pointer (some ⟨v.t, 0, none⟩)] 26)).heap.size = w.heap.size + 1 := by simp
  rw [hs] at l0 l1 l2 l3
  clear hM c0 c1 c2 f2 hs
  go_wp2
  go_ret
  exact ⟨_, rfl, Deed.mkS HD.out.1 HD.out.2.1 HD.out.2.2 HM.out (by omega) (by omega) (by omega) (by omega) hK (by omega) (by omega), HF2.out⟩

set_option maxHeartbeats 1000000 in
theorem deed_14 (w : World) (v : TV) (m : TM) (K : List Nat) (h : IsTie w v m) (hK : ∀ x ∈ K, x < w.heap.size) :
    Calls Tryz.prog 92 #[.pointer (some ⟨v.t, 0, none⟩), .int .i64 14] w fun e w' => ∃ f, e = .returned f ∧ Deed w' w.heap.size K v m f (pre 14) (act 14) ∧ Fr [] w w' := by
  have hs := tie_start (w.alloc (.cells #[.pointer (some ⟨v.t, 0, none⟩)] 26)) v m 30 (h.fr0 ((Fr.refl [] w).alloc (.cells #[.pointer (some ⟨v.t, 0, none⟩)] 26)))
  have HF := Lib.hid ((Fr.refl [] w).alloc (.cells #[.pointer (some ⟨v.t, 0, none⟩)] 26))
  have HS := Lib.hid hs
  clear hs
  go_enter Tryz.func92, Tryz.ntmps92
  go_wp2_with fail
  refine HS.out.mono ?_
  rintro e w2 ⟨b0, b1, b2, M, rfl, c0, c1, c2, hM, l0, l1, l2, l3, f2⟩
  have HM := Lib.hid hM
  have HD := Lib.hid (And.intro c0 (And.intro c1 c2))
  have HF2 := Lib.hid (HF.out.tr f2)
  have hs : (w.alloc (.cells #[.pointer (some ⟨v.t, 0, none⟩)] 26)).heap.size = w.heap.size + 1 := by simp
  rw [hs] at l0 l1 l2 l3
  clear hM c0 c1 c2 f2 hs
  go_wp2
  go_ret
  exact ⟨_, rfl, Deed.mkS HD.out.1 HD.out.2.1 HD.out.2.2 HM.out (by omega) (by omega) (by omega) (by omega) hK (by omega) (by omega), HF2.out⟩

set_option maxHeartbeats 1000000 in
theorem deed_15 (w : World) (v : TV) (m : TM) (K : List Nat) (h : IsTie w v m) (hK : ∀ x ∈ K, x < w.heap.size) :
    Calls Tryz.prog 92 #[.pointer (some ⟨v.t, 0, none⟩), .int .i64 15] w fun e w' => ∃ f, e = .returned f ∧ Deed w' w.heap.size K v m f (pre 15) (act 15) ∧ Fr [] w w' := by
  have hs := tie_start (w.alloc (.cells #[.pointer (some ⟨v.t, 0, none⟩)] 26)) v m 31 (h.fr0 ((Fr.refl [] w).alloc (.cells #[.pointer (some ⟨v.t, 0, none⟩)] 26)))
  have HF := Lib.hid ((Fr.refl [] w).alloc (.cells #[.pointer (some ⟨v.t, 0, none⟩)] 26))
  have HS := Lib.hid hs
  clear hs
  go_enter Tryz.func92, Tryz.ntmps92
  go_wp2_with fail
  refine HS.out.mono ?_
  rintro e w2 ⟨b0, b1, b2, M, rfl, c0, c1, c2, hM, l0, l1, l2, l3, f2⟩
  have HM := Lib.hid hM
  have HD := Lib.hid (And.intro c0 (And.intro c1 c2))
  have HF2 := Lib.hid (HF.out.tr f2)
  have hs : (w.alloc (.cells #[.pointer (some ⟨v.t, 0, none⟩)] 26)).heap.size = w.heap.size + 1 := by simp
  rw [hs] at l0 l1 l2 l3
  clear hM c0 c1 c2 f2 hs
  go_wp2
  go_ret
  exact ⟨_, rfl, Deed.mkS HD.out.1 HD.out.2.1 HD.out.2.2 HM.out (by omega) (by omega) (by omega) (by omega) hK (by omega) (by omega), HF2.out⟩

set_option maxHeartbeats 1000000 in
theorem deed_17 (w : World) (v : TV) (m : TM) (K : List Nat) (h : IsTie w v m) (hK : ∀ x ∈ K, x < w.heap.size) :
    Calls Tryz.prog 92 #[.pointer (some ⟨v.t, 0, none⟩), .int .i64 17] w fun e w' => ∃ f, e = .returned f ∧ Deed w' w.heap.size K v m f (pre 17) (act 17) ∧ Fr [] w w' := by
  have hs := tie_start (w.alloc (.cells #[.pointer (some ⟨v.t, 0, none⟩)] 26)) v m 32 (h.fr0 ((Fr.refl [] w).alloc (.cells #[.pointer (some ⟨v.t, 0, none⟩)] 26)))
  have HF := Lib.hid ((Fr.refl [] w).alloc (.cells #[.pointer (some ⟨v.t, 0, none⟩)] 26))
  have HS := Lib.hid hs
  clear hs
  go_enter Tryz.func92, Tryz.ntmps92
  go_wp2_with fail
  refine HS.out.mono ?_
  rintro e w2 ⟨b0, b1, b2, M, rfl, c0, c1, c2, hM, l0, l1, l2, l3, f2⟩
  have HM := Lib.hid hM
  have HD := Lib.hid (And.intro c0 (And.intro c1 c2))
  have HF2 := Lib.hid (HF.out.tr f2)
  have hs : (w.alloc (.cells #[.pointer (some ⟨v.t, 0, none⟩)] 26)).heap.size = w.heap.size + 1 := by simp
  rw [hs] at l0 l1 l2 l3
  clear hM c0 c1 c2 f2 hs
  go_wp2
  go_ret
  exact ⟨_, rfl, Deed.mkS HD.out.1 HD.out.2.1 HD.out.2.2 HM.out (by omega) (by omega) (by omega) (by omega) hK (by omega) (by omega), HF2.out⟩

end Go.Proofs.YtneggoonlmmjeaaGreat
namespace Go.Proofs.YtneggoonlmmjeaaGreat
open Go.RowKit Go.Shelf
set_option linter.unusedVariables false
set_option linter.unusedSimpArgs false
set_option maxRecDepth 100000

/-- A row in hand. -/
def RowV (w : World) (lo hi : Nat) (r : RowM) (x : Value) : Prop := ∃ sl : Sl, x = .agg #[.slice sl.A sl.n sl.c, .int .i64 r.next, .bool r.known] ∧ Ints .i64 w sl.v r.doL ∧ (r.doL ≠ [] → ∀ A n c, sl.v = .slice (some A) n c → lo ≤ A.block ∧ A.block < hi)
set_option maxHeartbeats 2000000 in
theorem tie_row (w : World) (v : TV) (m : TM) (s e : Nat) (h : IsTie w v m) (hst : m.state = (s : Int)) (hs : s < 14) (he : e < 34) :
    Calls Tryz.prog 47 #[.pointer (some ⟨v.t, 0, none⟩), .int .i64 (e : Int)] w fun r w' => ∃ x, r = .returned x ∧ RowV w' v.lo v.hi (rowsM s e) x ∧ Fr [] w w' := by
  obtain ⟨g, cap, bs, etb, hT, h14, hg0, hg1, hbs, hdo⟩ := h.tab
  have c8 := h.c8
  have c9 := h.c9
  rw [etb] at c8
  rw [hst] at c9
  have o := hT.outer s hs
  obtain ⟨sl, q0, q3, q4⟩ := hdo s hs e he
  obtain ⟨s0, p0, p1, p2, p3, p4⟩ := hT.row s hs e he
  have d1 : (s : Int) < 14 := by omega
  have d2 : (e : Int) < 34 := by omega
  have hw := Blk.new w #[.slice none 0 0, .int .i64 0, .bool false] 108
  have f1 := (Fr.refl [] w).alloc (.cells #[.slice none 0 0, .int .i64 0, .bool false] 108)
  have HF := Lib.hid (And.intro q3 (And.intro q4 f1))
  have HST := Lib.hid hst
  clear h etb hst hT h14 hdo hbs p0 p3 p4 q3 q4
  go_enter Tryz.func47, Tryz.ntmps47
  go_wp2
  obtain ⟨w1, hw1⟩ : ∃ w1, w.alloc (.cells #[.slice none 0 0, .int .i64 0, .bool false] 108) = w1 := ⟨_, rfl⟩
  rw [hw1] at hw f1 HF
  simp only [hw1]
  obtain ⟨Z, hZ⟩ : ∃ Z, w.heap.size = Z := ⟨_, rfl⟩
  simp only [hZ] at hw
  simp only [hZ]
  have k8 : ∀ wx, Fr [] w1 wx → wx.cell? ⟨v.t, 8, none⟩ = some (.slice (some ⟨g, 0, none⟩) 14 cap) := fun wx hf => (f1.tr hf).cell c8 (by simp)
  have k9 : ∀ wx, Fr [] w1 wx → wx.cell? ⟨v.t, 9, none⟩ = some (.int .i64 (s : Int)) := fun wx hf => (f1.tr hf).cell c9 (by simp)
  have kO : ∀ wx, Fr [] w1 wx → wx.cell? ⟨g, s, none⟩ = some (.slice (some ⟨bs s, 0, none⟩) 34 34) := fun wx hf => (f1.tr hf).cell o (by simp)
  have kR0 : ∀ wx, Fr [] w1 wx → wx.cell? ⟨bs s, e * 3, none⟩ = some (.slice sl.A sl.n sl.c) := fun wx hf => (f1.tr hf).cell q0 (by simp)
  have kR1 : ∀ wx, Fr [] w1 wx → wx.cell? ⟨bs s, e * 3 + 1, none⟩ = some (.int .i64 (rowsM s e).next) := fun wx hf => (f1.tr hf).cell p1 (by simp)
  have kR2 : ∀ wx, Fr [] w1 wx → wx.cell? ⟨bs s, e * 3 + 2, none⟩ = some (.bool (rowsM s e).known) := fun wx hf => (f1.tr hf).cell p2 (by simp)
  have HW := Lib.hid hw
  have HZ := Lib.hid hZ
  clear hw c8 c9 o q0 p1 p2 hw1 f1 hZ
  refine wp_region_keepsC [] [false, false, false, false, false, false, false, false, false, false, false, false, false] [none, none, none, none, none, none, none, none, none, none, none, none, none] (fun _ => True) [Is (.pointer (some ⟨v.t, 0, none⟩)), Is (.pointer (some ⟨v.t, 0, none⟩)), Is (.pointer (some ⟨v.t, 8, none⟩)), Is (.slice (some ⟨g, 0, none⟩) 14 cap), Is (.pointer (some ⟨v.t, 0, none⟩)), Is (.pointer (some ⟨v.t, 0, none⟩)), Is (.pointer (some ⟨v.t, 9, none⟩)), Is (.int .i64 (s : Int)), Is (.pointer (some ⟨g, s, none⟩)), Is (.slice (some ⟨bs s, 0, none⟩) 34 34), Is (.int .i64 (e : Int)), Is (.pointer (some ⟨bs s, e * 3, none⟩)), Is (.agg #[.slice sl.A sl.n sl.c, .int .i64 (rowsM s e).next, .bool (rowsM s e).known])] 13 (by kernel_rfl) (by kernel_rfl) (by kernel_rfl) (by kernel_rfl) (by kernel_rfl) (by kernel_rfl) (by kernel_rfl) (by kernel_rfl) ?hV (fun _ _ _ h => h) trivial ?hS ?hD
  case hV =>
    repeat (first | exact trivial | exact Is.keepsN _ | exact Any.keepsN | refine And.intro ?_ ?_)
  case hS =>
    (repeat' (first | exact trivial | refine And.intro ?_ ?_))
    · intro ac wx hf hbs hs hp K hK
      simp only [zA, Region.binds, Nat.reduceAdd] at hp
      have hs0 := hs 0 (by kernel_rfl)
      simp only [Array.getD_eq_getD_getElem?, List.getElem?_toArray, List.getElem?_cons_succ, List.getElem?_cons_zero, Option.getD_some] at hs0
      clear hs
      clear hbs
      clear hp
      clear hf
      go_simp
      try dsimp only
      refine hK.out _ _ ?_ ?_
      · change Fr [] _ _
        (repeat (first | with_reducible (first | exact Fr.refl _ _ | assumption | refine Fr.drew ?_ | refine Fr.drewN ?_ _ | refine Fr.alloc ?_ _ | refine Fr.setL ?_ _ _ _ ?_) | (left; simp; done) | (right; first | (simp; done) | (simp; omega) | omega)); done)
      · simp only [nth]
        first | (unfold Is; rfl) | (unfold Any; exact trivial) | exact IsSl.new _ _ _ _ | assumption
    · intro ac wx hf hbs hs hp K hK
      simp only [zA, Region.binds, Nat.reduceAdd] at hp
      clear hs
      clear hbs
      have h0 := hp
      clear hp
      clear hf
      (try simp only [h0])
      go_simp
      try dsimp only
      refine hK.out _ _ ?_ ?_
      · change Fr [] _ _
        (repeat (first | with_reducible (first | exact Fr.refl _ _ | assumption | refine Fr.drew ?_ | refine Fr.drewN ?_ _ | refine Fr.alloc ?_ _ | refine Fr.setL ?_ _ _ _ ?_) | (left; simp; done) | (right; first | (simp; done) | (simp; omega) | omega)); done)
      · simp only [nth]
        first | (unfold Is; rfl) | (unfold Any; exact trivial) | exact IsSl.new _ _ _ _ | assumption
    · intro ac wx hf hbs hs hp K hK
      simp only [zA, Region.binds, Nat.reduceAdd] at hp
      clear hs
      clear hbs
      have h1 := hp
      clear hp
      clear hf
      (try simp only [h1])
      go_simp
      try dsimp only
      refine hK.out _ _ ?_ ?_
      · change Fr [] _ _
        (repeat (first | with_reducible (first | exact Fr.refl _ _ | assumption | refine Fr.drew ?_ | refine Fr.drewN ?_ _ | refine Fr.alloc ?_ _ | refine Fr.setL ?_ _ _ _ ?_) | (left; simp; done) | (right; first | (simp; done) | (simp; omega) | omega)); done)
      · simp only [nth]
        first | (unfold Is; rfl) | (unfold Any; exact trivial) | exact IsSl.new _ _ _ _ | assumption
    · intro ac wx hf hbs hs hp K hK
      simp only [zA, Region.binds, Nat.reduceAdd] at hp
      clear hs
      clear hbs
      have h2 := hp
      clear hp
      have cx := k8 wx hf
      clear hf
      (try simp only [h2])
      go_simp
      try dsimp only
      refine hK.out _ _ ?_ ?_
      · change Fr [] _ _
        (repeat (first | with_reducible (first | exact Fr.refl _ _ | assumption | refine Fr.drew ?_ | refine Fr.drewN ?_ _ | refine Fr.alloc ?_ _ | refine Fr.setL ?_ _ _ _ ?_) | (left; simp; done) | (right; first | (simp; done) | (simp; omega) | omega)); done)
      · simp only [nth]
        first | (unfold Is; rfl) | (unfold Any; exact trivial) | exact IsSl.new _ _ _ _ | assumption
    · intro ac wx hf hbs hs hp K hK
      simp only [zA, Region.binds, Nat.reduceAdd] at hp
      have hs0 := hs 0 (by kernel_rfl)
      simp only [Array.getD_eq_getD_getElem?, List.getElem?_toArray, List.getElem?_cons_succ, List.getElem?_cons_zero, Option.getD_some] at hs0
      clear hs
      clear hbs
      clear hp
      clear hf
      go_simp
      try dsimp only
      refine hK.out _ _ ?_ ?_
      · change Fr [] _ _
        (repeat (first | with_reducible (first | exact Fr.refl _ _ | assumption | refine Fr.drew ?_ | refine Fr.drewN ?_ _ | refine Fr.alloc ?_ _ | refine Fr.setL ?_ _ _ _ ?_) | (left; simp; done) | (right; first | (simp; done) | (simp; omega) | omega)); done)
      · simp only [nth]
        first | (unfold Is; rfl) | (unfold Any; exact trivial) | exact IsSl.new _ _ _ _ | assumption
    · intro ac wx hf hbs hs hp K hK
      simp only [zA, Region.binds, Nat.reduceAdd] at hp
      clear hs
      clear hbs
      have h4 := hp
      clear hp
      clear hf
      (try simp only [h4])
      go_simp
      try dsimp only
      refine hK.out _ _ ?_ ?_
      · change Fr [] _ _
        (repeat (first | with_reducible (first | exact Fr.refl _ _ | assumption | refine Fr.drew ?_ | refine Fr.drewN ?_ _ | refine Fr.alloc ?_ _ | refine Fr.setL ?_ _ _ _ ?_) | (left; simp; done) | (right; first | (simp; done) | (simp; omega) | omega)); done)
      · simp only [nth]
        first | (unfold Is; rfl) | (unfold Any; exact trivial) | exact IsSl.new _ _ _ _ | assumption
    · intro ac wx hf hbs hs hp K hK
      simp only [zA, Region.binds, Nat.reduceAdd] at hp
      clear hs
      clear hbs
      have h5 := hp
      clear hp
      clear hf
      (try simp only [h5])
      go_simp
      try dsimp only
      refine hK.out _ _ ?_ ?_
      · change Fr [] _ _
        (repeat (first | with_reducible (first | exact Fr.refl _ _ | assumption | refine Fr.drew ?_ | refine Fr.drewN ?_ _ | refine Fr.alloc ?_ _ | refine Fr.setL ?_ _ _ _ ?_) | (left; simp; done) | (right; first | (simp; done) | (simp; omega) | omega)); done)
      · simp only [nth]
        first | (unfold Is; rfl) | (unfold Any; exact trivial) | exact IsSl.new _ _ _ _ | assumption
    · intro ac wx hf hbs hs hp K hK
      simp only [zA, Region.binds, Nat.reduceAdd] at hp
      clear hs
      clear hbs
      have h6 := hp
      clear hp
      have cx := k9 wx hf
      clear hf
      (try simp only [h6])
      go_simp
      try dsimp only
      refine hK.out _ _ ?_ ?_
      · change Fr [] _ _
        (repeat (first | with_reducible (first | exact Fr.refl _ _ | assumption | refine Fr.drew ?_ | refine Fr.drewN ?_ _ | refine Fr.alloc ?_ _ | refine Fr.setL ?_ _ _ _ ?_) | (left; simp; done) | (right; first | (simp; done) | (simp; omega) | omega)); done)
      · simp only [nth]
        first | (unfold Is; rfl) | (unfold Any; exact trivial) | exact IsSl.new _ _ _ _ | assumption
    · intro ac wx hf hbs hs hp K hK
      simp only [zA, Region.binds, Nat.reduceAdd] at hp
      clear hs
      clear hbs
      obtain ⟨h3, h7⟩ := hp
      clear hf
      (try simp only [h3, h7])
      go_simp
      try dsimp only
      refine hK.out _ _ ?_ ?_
      · change Fr [] _ _
        (repeat (first | with_reducible (first | exact Fr.refl _ _ | assumption | refine Fr.drew ?_ | refine Fr.drewN ?_ _ | refine Fr.alloc ?_ _ | refine Fr.setL ?_ _ _ _ ?_) | (left; simp; done) | (right; first | (simp; done) | (simp; omega) | omega)); done)
      · simp only [nth]
        first | (unfold Is; rfl) | (unfold Any; exact trivial) | exact IsSl.new _ _ _ _ | assumption
    · intro ac wx hf hbs hs hp K hK
      simp only [zA, Region.binds, Nat.reduceAdd] at hp
      clear hs
      clear hbs
      have h8 := hp
      clear hp
      have cx := kO wx hf
      clear hf
      (try simp only [h8])
      go_simp
      try dsimp only
      refine hK.out _ _ ?_ ?_
      · change Fr [] _ _
        (repeat (first | with_reducible (first | exact Fr.refl _ _ | assumption | refine Fr.drew ?_ | refine Fr.drewN ?_ _ | refine Fr.alloc ?_ _ | refine Fr.setL ?_ _ _ _ ?_) | (left; simp; done) | (right; first | (simp; done) | (simp; omega) | omega)); done)
      · simp only [nth]
        first | (unfold Is; rfl) | (unfold Any; exact trivial) | exact IsSl.new _ _ _ _ | assumption
    · intro ac wx hf hbs hs hp K hK
      simp only [zA, Region.binds, Nat.reduceAdd] at hp
      have hs1 := hs 1 (by kernel_rfl)
      simp only [Array.getD_eq_getD_getElem?, List.getElem?_toArray, List.getElem?_cons_succ, List.getElem?_cons_zero, Option.getD_some] at hs1
      clear hs
      clear hbs
      clear hp
      clear hf
      go_simp
      try dsimp only
      refine hK.out _ _ ?_ ?_
      · change Fr [] _ _
        (repeat (first | with_reducible (first | exact Fr.refl _ _ | assumption | refine Fr.drew ?_ | refine Fr.drewN ?_ _ | refine Fr.alloc ?_ _ | refine Fr.setL ?_ _ _ _ ?_) | (left; simp; done) | (right; first | (simp; done) | (simp; omega) | omega)); done)
      · simp only [nth]
        first | (unfold Is; rfl) | (unfold Any; exact trivial) | exact IsSl.new _ _ _ _ | assumption
    · intro ac wx hf hbs hs hp K hK
      simp only [zA, Region.binds, Nat.reduceAdd] at hp
      clear hs
      clear hbs
      obtain ⟨h9, h10⟩ := hp
      clear hf
      (try simp only [h9, h10])
      go_simp
      try dsimp only
      refine hK.out _ _ ?_ ?_
      · change Fr [] _ _
        (repeat (first | with_reducible (first | exact Fr.refl _ _ | assumption | refine Fr.drew ?_ | refine Fr.drewN ?_ _ | refine Fr.alloc ?_ _ | refine Fr.setL ?_ _ _ _ ?_) | (left; simp; done) | (right; first | (simp; done) | (simp; omega) | omega)); done)
      · simp only [nth]
        first | (unfold Is; rfl) | (unfold Any; exact trivial) | exact IsSl.new _ _ _ _ | assumption
    · intro ac wx hf hbs hs hp K hK
      simp only [zA, Region.binds, Nat.reduceAdd] at hp
      clear hs
      clear hbs
      have h11 := hp
      clear hp
      have cx0 := kR0 wx hf
      have cx1 := kR1 wx hf
      have cx2 := kR2 wx hf
      clear hf
      (try simp only [h11])
      go_simp
      try dsimp only
      refine hK.out _ _ ?_ ?_
      · change Fr [] _ _
        (repeat (first | with_reducible (first | exact Fr.refl _ _ | assumption | refine Fr.drew ?_ | refine Fr.drewN ?_ _ | refine Fr.alloc ?_ _ | refine Fr.setL ?_ _ _ _ ?_) | (left; simp; done) | (right; first | (simp; done) | (simp; omega) | omega)); done)
      · simp only [nth]
        first | (unfold Is; rfl) | (unfold Any; exact trivial) | exact IsSl.new _ _ _ _ | assumption
  case hD =>
    intro xv wx hf hp
    simp only [List.take_succ_cons, List.take_zero, List.drop_succ_cons, List.drop_zero, fill, List.setIfInBounds_toArray, List.set_cons_zero, List.set_cons_succ, Nat.reduceAdd, Act.put]
    rw [show live 13 (deadC [none, none, none, none, none, none, none, none, none, none, none, none, none]) = [0, 1, 2, 3, 4, 5, 6, 7, 8, 9, 10, 11, 12] from by decide] at hp
    simp only [holds, nth, Is, Any, true_and, and_true] at hp
    obtain ⟨p0, p1, p2, p3, p4, p5, p6, p7, p8, p9, p10, p11, p12⟩ := hp
    have hwx := HW.out.fr hf (by simp)
    have hf0 := hwx.free 0
    have hf1 := hwx.free 1
    have hf2 := hwx.free 2
    have hb0 : wx.cell? ⟨Z, 0, none⟩ = some (.slice none 0 0) := hwx.cell 0 rfl
    have hb1 : wx.cell? ⟨Z, 1, none⟩ = some (.int .i64 0) := hwx.cell 1 rfl
    have hb2 : wx.cell? ⟨Z, 2, none⟩ = some (.bool false) := hwx.cell 2 rfl
    have hB : Blk (((wx.setCell ⟨Z, 0, none⟩ (.slice sl.A sl.n sl.c)).setCell ⟨Z, 1, none⟩ (.int .i64 (rowsM s e).next)).setCell ⟨Z, 2, none⟩ (.bool (rowsM s e).known)) Z #[.slice sl.A sl.n sl.c, .int .i64 (rowsM s e).next, .bool (rowsM s e).known] 108 := Blk.set (Blk.set (Blk.set hwx 0 _ rfl) 1 _ rfl) 2 _ rfl
    have g0 := hB.cell 0 rfl
    have g1 := hB.cell 1 rfl
    have g2 := hB.cell 2 rfl
    have z0 := hB.free 0
    have z1 := hB.free 1
    have z2 := hB.free 2
    simp only [List.getElem_toArray, List.getElem_cons_zero, List.getElem_cons_succ] at g0 g1 g2
    have hsz : w.heap.size ≤ Z := by rw [HZ.out]; exact Nat.le_refl _
    have hff : Fr [] w (((wx.setCell ⟨Z, 0, none⟩ (.slice sl.A sl.n sl.c)).setCell ⟨Z, 1, none⟩ (.int .i64 (rowsM s e).next)).setCell ⟨Z, 2, none⟩ (.bool (rowsM s e).known)) := (((HF.out.2.2.tr hf).setCell _ (.inr hsz)).setCell _ (.inr hsz)).setCell _ (.inr hsz)
    have HX := Lib.hid (And.intro hff (And.intro g0 (And.intro g1 g2)))
    have HY := Lib.hid (And.intro z0 (And.intro z1 z2))
    clear hff g0 g1 g2 z0 z1 z2 hB
    simp only [p12]
    clear p0 p1 p2 p3 p4 p5 p6 p7 p8 p9 p10 p11 p12 k8 k9 kO kR0 kR1 kR2 hf hwx
    go_wp2
    have g := HX.out.2
    exact bodyPost_ret (v := .agg #[.slice sl.A sl.n sl.c, .int .i64 (rowsM s e).next, .bool (rowsM s e).known]) (by simp [results, Tryz.results47, go_sem, g.1, g.2.1, g.2.2]) rfl ⟨_, rfl, ⟨sl, rfl, HF.out.1.fr HX.out.1, HF.out.2.1⟩, HX.out.1⟩

end Go.Proofs.YtneggoonlmmjeaaGreat
namespace Go.Proofs.YtneggoonlmmjeaaGreat
open Go.RowKit Go.Shelf
set_option linter.unusedVariables false
set_option linter.unusedSimpArgs false
set_option maxRecDepth 100000

theorem startM_cfg (m : TM) (k : Int) : (startM m k).cfg = m.cfg := rfl
theorem pushL_cfg : ∀ (n : Nat) (m : TM), (pushL n m).cfg = m.cfg
  | 0, _ => rfl
  | n + 1, m => by
    simp only [pushL]
    split
    · rw [pushL_cfg n]; rfl
    · rfl
theorem act_cfg (a : Int) (m : TM) : (act a m).cfg = m.cfg := by
  unfold act
  split <;> first | rfl | (unfold peerM; split <;> rfl) | (unfold takeM; split <;> rfl) | (unfold ackM; split <;> first | rfl | (split <;> first | rfl | (split <;> rfl))) | (unfold pushM; dsimp only; split <;> first | exact pushL_cfg _ _ | exact (startM_cfg _ _).trans (pushL_cfg _ _))
def actL (l : List Int) (m : TM) : TM := l.foldl (fun m a => act a m) m
def preL : List Int → TM → Prop
  | [], _ => True
  | a :: l, m => pre a m ∧ preL l (act a m)
theorem actL_cfg : ∀ (l : List Int) (m : TM), (actL l m).cfg = m.cfg
  | [], _ => rfl
  | a :: l, m => (actL_cfg l (act a m)).trans (act_cfg a m)
theorem foldl_act {f : Int → TM → TM} {l : List Int} {m : TM} {j : Nat} (hj : j < l.length) : (l.take (j + 1)).foldl (fun m a => f a m) m = f l[j] ((l.take j).foldl (fun m a => f a m) m) := by
  rw [← List.take_append_getElem hj, List.foldl_append]; rfl
theorem actL_take {l : List Int} {m : TM} {j : Nat} (hj : j < l.length) : actL (l.take (j + 1)) m = act l[j] (actL (l.take j) m) := by
  exact foldl_act (f := act) hj
theorem preL_get {l : List Int} : ∀ {m : TM} {j : Nat} (hj : j < l.length), preL l m → pre l[j] (actL (l.take j) m) := by
  induction l with
  | nil => intro m j hj; simp at hj
  | cons a l ih =>
    intro m j hj h
    cases j with
    | zero => exact h.1
    | succ j => exact ih (m := act a m) (by simpa using hj) h.2
/-- What an event comes to. -/
def evM (r : RowM) (m : TM) : TM := { actL r.doL m with state := r.next }
/-- The deeds made. -/
def DL (w : World) (B : Nat) (K : List Nat) (v : TV) (m : TM) (fs : List Value) (ls : List Int) : Prop := fs.length = ls.length ∧ ∀ (i : Nat) (f : Value) (a : Int), fs[i]? = some f → ls[i]? = some a → Deed w B K v m f (pre a) (act a)
theorem DL.nil (w : World) (B : Nat) (K : List Nat) (v : TV) (m : TM) : DL w B K v m [] [] := ⟨rfl, fun i f a h => by simp at h⟩
theorem DL.push {w w' : World} {B : Nat} {K K' : List Nat} {v : TV} {m : TM} {fs : List Value} {ls : List Int} (h : DL w B K v m fs ls) (fr : Fr K w w') (hK : ∀ x ∈ K', x ∈ K ∨ w.heap.size ≤ x) : DL w' B K' v m fs ls :=
  ⟨h.1, fun i f a h1 h2 => (h.2 i f a h1 h2).push fr hK⟩
theorem DL.snoc {w : World} {B : Nat} {K : List Nat} {v : TV} {m : TM} {fs : List Value} {ls : List Int} {f : Value} {a : Int} (h : DL w B K v m fs ls) (hd : Deed w B K v m f (pre a) (act a)) : DL w B K v m (fs ++ [f]) (ls ++ [a]) := by
  refine ⟨by simp [h.1], fun i g b h1 h2 => ?_⟩
  by_cases hi : i < fs.length
  · rw [List.getElem?_append_left hi] at h1
    rw [List.getElem?_append_left (by rw [← h.1]; exact hi)] at h2
    exact h.2 i g b h1 h2
  · rw [List.getElem?_append_right (by omega)] at h1
    rw [List.getElem?_append_right (by have := h.1; omega)] at h2
    have e := h.1
    have hz : i - fs.length = 0 := by
      rcases Nat.eq_zero_or_pos (i - fs.length) with h0 | h0
      · exact h0
      · rw [List.getElem?_eq_none (by simp; omega)] at h1; cases h1
    rw [hz] at h1
    rw [← e, hz] at h2
    simp at h1 h2
    rw [← h1, ← h2]
    exact hd
theorem Deed.low {w : World} {B B' : Nat} {K : List Nat} {v : TV} {m : TM} {f : Value} {P : TM → Prop} {g : TM → TM} (h : Deed w B K v m f P g) (hB : B' ≤ B) : Deed w B' K v m f P g := by
  obtain ⟨id, ra, lb, e, he, L, hL, hm⟩ := h
  exact ⟨id, ra, lb, e, he, L, fun x hx => ⟨Nat.le_trans hB (hL x hx).1, (hL x hx).2⟩, hm⟩
theorem Ints.each {k : IntKind} {w : World} {s : Sl} {l : List Int} (h : Ints k w s.v l) : ∀ i (hi : i < l.length), ∃ b off, s.A = some ⟨b, off, none⟩ ∧ w.cell? ⟨b, off + i, none⟩ = some (.int k l[i]) := by
  intro i hi
  rcases h with ⟨_, rfl⟩ | ⟨A, cap, e, h1, h2⟩
  · simp at hi
  · simp only [Sl.v, Value.slice.injEq] at e
    obtain ⟨e1, _, _⟩ := e
    rcases h2 with rfl | ⟨b, off, e2, hc⟩
    · simp at hi
    · exact ⟨b, off, e1.trans e2, hc i hi⟩
/-- What an action's deed is made by. -/
def DeedOk (a : Int) : Prop := ∀ (w : World) (v : TV) (m : TM) (K : List Nat), IsTie w v m → (∀ x ∈ K, x < w.heap.size) →
    Calls Tryz.prog 92 #[.pointer (some ⟨v.t, 0, none⟩), .int .i64 a] w fun e w' => ∃ f, e = .returned f ∧ Deed w' w.heap.size K v m f (pre a) (act a) ∧ Fr [] w w'
theorem func_info : ∃ i0 : TypeInfo, Tryz.prog.info? 1 = some i0 ∧ i0.zero = some .nilFunc ∧ i0.size = 1 ∧ i0.bytes = 8 :=
  info_parts (show (Tryz.prog.info? 1).map (fun i => (i.zero, i.size, i.bytes)) = some (some .nilFunc, 1, 8) by kernel_rfl)

set_option maxHeartbeats 4000000 in
theorem tie_event (w : World) (v : TV) (m : TM) (s e : Nat) (h : IsTie w v m) (hst : m.state = (s : Int)) (hs : s < 14) (he : e < 34) (hd : ∀ a ∈ (rowsM s e).doL, DeedOk a) (hp : preL (rowsM s e).doL m) (hlen : (rowsM s e).doL.length ≤ 100) :
    Calls Tryz.prog 48 #[.pointer (some ⟨v.t, 0, none⟩), .int .i64 (e : Int)] w fun r w' => r = .returned (.tuple #[]) ∧ TieTo w w' v (evM (rowsM s e) m) := by
  obtain ⟨i0, hi0, hz0, hz1, hz2⟩ := func_info
  have hun : Tryz.prog.underlying 155 = some (.slice 1) := Tryz.underlying155
  have hrow := tie_row w v m s e h hst hs he
  obtain ⟨r, hr⟩ : ∃ r, rowsM s e = r := ⟨_, rfl⟩
  rw [hr] at hd hp hlen hrow
  rw [hr]
  have H := Lib.hid h
  have HD := Lib.hid hd
  have HP := Lib.hid hp
  clear h hd hp hr hst
  obtain ⟨acts, next, known⟩ := r
  simp only at hlen
  go_enter Tryz.func48, Tryz.ntmps48
  go_wp2_with fail
  refine hrow.mono ?_
  rintro e1 w1 ⟨x, rfl, ⟨sl, rfl, hI, -⟩, f1⟩
  have hI' := hI
  have f2 := f1.alloc (.cells #[.slice none 0 0, .int .i64 0, .bool false] 108)
  have HI := Lib.hid hI
  have F1 := Lib.hid f1
  have hn := hI.n_
  obtain ⟨A, n, c⟩ := sl
  simp only at hn
  subst hn
  clear hI hI' f1 f2 hrow
  go_wp2
  obtain ⟨w2, hw2⟩ : ∃ w2, w1.alloc (.cells #[.slice A acts.length c, .int .i64 next, .bool known] 108) = w2 := ⟨_, rfl⟩
  have hbz := Blk.new w1 #[.slice A acts.length c, .int .i64 next, .bool known] 108
  have f2 := (Fr.refl [] w1).alloc (.cells #[.slice A acts.length c, .int .i64 next, .bool known] 108)
  rw [hw2] at hbz f2
  simp only [hw2]
  obtain ⟨Z, hZ⟩ : ∃ Z, w1.heap.size = Z := ⟨_, rfl⟩
  rw [hZ] at hbz
  simp only [hZ]
  have HBZ := Lib.hid hbz
  have HI2 := Lib.hid (HI.out.fr f2)
  have hzlt := hbz.lt
  have hZ1 : w.heap.size ≤ Z := by rw [← hZ]; exact F1.out.size
  have F2 := Lib.hid (F1.out.tr f2)
  have H2 := Lib.hid (H.out.fr0 (F1.out.tr f2))
  clear hbz f2 hw2 hZ HI F1
  go_loopw [5, 16] (fun dv i wr => ∃ j : Nat, ∃ ds : Sl, ∃ fs : List Value, dv = .slice ds.A ds.n ds.c ∧ i = .int .i64 j ∧ j ≤ acts.length ∧ Fr [] w2 wr ∧ NewRow w2 wr 1 1 ds j fs ∧ DL wr w2.heap.size ds.blk v m fs (acts.take j)) (fun _ i _ => acts.length - (intOf i).toNat)
  case atStart => exact ⟨0, Sl.nil, [], rfl, rfl, by omega, Fr.refl _ _, NewRow.nil _ _ _ _, DL.nil _ _ _ _ _⟩
  case round =>
    obtain ⟨j, ds, fs, rfl, rfl, hj, fr, hr, hD⟩ := hrel
    by_cases hlt : j < acts.length
    · have d1 : (j : Int) < (acts.length : Int) := by omega
      have d2 : j < acts.length := hlt
      obtain ⟨b, off, hA, hc⟩ := (HI2.out.fr fr).each j hlt
      simp only at hA
      subst hA
      have htk : acts.take (j + 1) = acts.take j ++ [acts[j]] := (List.take_append_getElem hlt).symm
      have hok := HD.out acts[j] (List.getElem_mem hlt)
      have FR := Lib.hid fr
      have HR := Lib.hid hr
      have HDL := Lib.hid hD
      have HTK := Lib.hid htk
      have HOK := Lib.hid hok
      clear fr hr hD htk hok
      generalize acts[j] = a at *
      go_wp2_with fail
      refine (HOK.out wr v m ds.blk (H2.out.fr0 FR.out) (fun x hx => by obtain ⟨_, cs, e⟩ := own_blk HR.out.own x hx; exact (Array.getElem?_eq_some_iff.1 e).1)).mono ?_
      rintro e3 w3 ⟨f, rfl, hdeed, f3⟩
      have hone : f.oneCell' = true := by obtain ⟨id, ra, lb, e, _⟩ := hdeed; subst e; rfl
      obtain ⟨id, ra, lb, hfe⟩ : ∃ id ra lb, f = .func (.func id) ra lb := by obtain ⟨id, ra, lb, e, _⟩ := hdeed; exact ⟨id, ra, lb, e⟩
      subst hfe
      have f4 := (Fr.refl [] w3).alloc (.cells #[.func (.func id) ra lb] 1)
      have hdl4 := ((HDL.out.push (f3.mono (by simp)) (fun x hx => .inl hx)).push (f4.mono (by simp)) (fun x hx => .inl hx)).snoc ((hdeed.low FR.out.size).push (f4.mono (by simp)) (fun x hx => .inl hx))
      have hr4 := HR.out.fr (f3.tr f4)
      have HD4 := Lib.hid hdl4
      have HR4 := Lib.hid hr4
      have F4 := Lib.hid (FR.out.tr (f3.tr f4))
      have HSR : Hid (Src 1 [.func (.func id) ra lb] (w3.alloc (.cells #[.func (.func id) ra lb] 1)) (.slice (some ⟨w3.heap.size, 0, none⟩) 1 1)) := Lib.hid (Src.one (cs := #[.func (.func id) ra lb]))
      clear hdeed f3 f4 hdl4 hr4
      go_wp2_with ((at_builtin; refine wpList_push rfl _ _ 155 rfl 1 i0 .nilFunc 1 8 hun hi0 hz0 hz1 hz2 rfl (by decide) ds j fs rfl HR4.out.own (.slice (some ⟨w3.heap.size, 0, none⟩) 1 1) 1 [.func (.func id) ra lb] rfl HSR.out rfl (by intro u hu; simp at hu; subst hu; exact hone) (by unfold maxLen; omega) (by omega) ?_))
      intro s5 w5 hp
      have hr5 := HR4.out.push F4.out.size hp
      have fr5 := HR4.out.frOf F4.out hp
      have hdl5 := HD4.out.push hp.2.1 hp.2.2
      rw [← HTK.out] at hdl5
      have HX := Lib.hid (And.intro hr5 (And.intro fr5 hdl5))
      clear hp hr5 fr5 hdl5
      go_wp2
      go_roundw
      case rel => exact ⟨j + 1, s5, fs ++ [.func (.func id) ra lb], rfl, by go_num, by omega, HX.out.2.1, HX.out.1, HX.out.2.2⟩
      case measure => simp [intOf]; omega
    · have d1 : ¬ (j : Int) < (acts.length : Int) := by omega
      have hje : j = acts.length := by omega
      subst hje
      rw [List.take_length] at hD
      have hn := own_n hr.own
      obtain ⟨dA, dn, dc⟩ := ds
      simp only at hn
      subst hn
      have hdlt : ∀ x ∈ v.foot, x < w2.heap.size := H2.out.lt
      have HDL := Lib.hid hD
      have HR := Lib.hid hr
      have hto := (H2.out.fr0 fr)
      have hbr := HBZ.out.fr fr (by simp)
      have F3 := Lib.hid (F2.out.tr fr)
      have H3 := Lib.hid hto
      have HBR := Lib.hid hbr
      have HSZ := Lib.hid fr.size
      have HLT := Lib.hid hdlt
      clear fr hr hD hto hbr hdlt d1 hlt
      generalize wr = wm at *
      go_wp2
      go_loopw [29] (fun i wq => ∃ j : Nat, i = .int .i64 j ∧ j ≤ acts.length ∧ TieTo wm wq v (actL (acts.take j) m)) (fun i _ => acts.length - (intOf i).toNat)
      case atStart => exact ⟨0, rfl, by omega, H3.out.to (Fr.refl _ _)⟩
      case round =>
        obtain ⟨j, rfl, hj, hT⟩ := hrel
        obtain ⟨v', h', et, ef, f', n'⟩ := hT
        have HV := Lib.hid (And.intro et (And.intro ef (And.intro f' n')))
        have HT := Lib.hid h'
        by_cases hlt : j < acts.length
        · have d1 : (j : Int) < (acts.length : Int) := by omega
          have d2 : j < acts.length := hlt
          have hlf : j < fs.length := by rw [HDL.out.1]; exact hlt
          obtain ⟨b, hA, hc⟩ := own_at HR.out.own (by omega)
          simp only at hA
          subst hA
          have hbk : b ∉ v.foot := fun hm => by have h1 := HLT.out b hm; have h2 := HR.out.new b (by simp [Sl.blk]); omega
          have hcell := f'.cell (hc j _ (List.getElem?_eq_getElem hlf)) hbk
          obtain ⟨id, ra, lb, efn, hent, L, hL, hm⟩ := HDL.out.2 j _ _ (List.getElem?_eq_getElem hlf) (List.getElem?_eq_getElem hlt)
          rw [efn] at hcell
          have hcall := hm wr v' (actL (acts.take j) m) (fun x hx => f'.block x (hL x hx).2.1 (fun hm => by have h1 := HLT.out x hm; have h2 := (hL x hx).1; omega)) h' et ef (actL_cfg _ _) (fun x hx hm => by
            rcases n' x hm with h1 | h1
            · have h2 := HLT.out x h1; have h3 := (hL x hx).1; omega
            · have h2 := (hL x hx).2.1; omega) (preL_get hlt HP.out)
          rw [← actL_take hlt, Array.append_empty] at hcall
          have HCALL := Lib.hid hcall
          clear hcall hm hL efn hc f' n' et ef h'
          go_wp2_with fail
          rw [hent (ra ++ lb) wr]
          go_wp2_with fail
          refine HCALL.out.mono ?_
          rintro e5 w5 ⟨rfl, ht⟩
          have HX := Lib.hid (TieTo.trans HV.out.2.2.1 HV.out.2.2.2 HV.out.1 HV.out.2.1 ht)
          clear ht hcell
          go_wp2
          go_roundw
          case rel => exact ⟨j + 1, by go_num, by omega, HX.out⟩
          case measure => simp [intOf]; omega
        · have d1 : ¬ (j : Int) < (acts.length : Int) := by omega
          have hje : j = acts.length := by omega
          subst hje
          rw [List.take_length] at h'
          have cz := (HBR.out.fr f' (fun hm => by have := H.out.lt _ hm; omega)).cell 1 rfl
          simp only [List.getElem_toArray, List.getElem_cons_zero, List.getElem_cons_succ] at cz
          have z9 := h'.z 9
          have c9 := h'.c9
          rw [et] at z9 c9
          obtain ⟨h5, f5⟩ := h'.set1 9 (.int .i64 next) (evM ⟨acts, next, known⟩ m) rfl rfl
          have hfin := TieTo.trans (F3.out.mono (M := v.foot) (by simp)) (fun x hx => .inl hx) rfl rfl (TieTo.trans f' n' et ef (h5.toT f5))
          rw [et] at hfin
          have HX := Lib.hid hfin
          clear hfin h5 f5 h' et ef f' n' HT
          go_wp2
          go_end0
          exact ⟨rfl, HX.out⟩

end Go.Proofs.YtneggoonlmmjeaaGreat
namespace Go.Proofs.YtneggoonlmmjeaaGreat
open Go.RowKit Go.Shelf
set_option linter.unusedVariables false
set_option linter.unusedSimpArgs false
set_option maxRecDepth 100000

theorem tie_State (w : World) (v : TV) (m : TM) (h : IsTie w v m) :
    Calls Tryz.prog 18 #[.pointer (some ⟨v.t, 0, none⟩)] w fun e w' => e = .returned (.int .i64 m.state) ∧ w = w' := by
  have c9 := h.c9
  clear h
  go_enter Tryz.func18, Tryz.ntmps18
  go_wp2
  go_ret
  exact ⟨rfl, rfl⟩
theorem isnil_rows (A : Addr) (n c : Nat) (w : World) : (binOp BinOp.neq 93 (Value.slice (some A) n c) (Value.slice none 0 0)).run Tryz.prog w = .ok (.bool true) w := by kernel_rfl
attribute [local go_sem] isnil_rows in
theorem tie_made (w : World) (v : TV) (m : TM) (h : IsTie w v m) :
    Calls Tryz.prog 45 #[.pointer (some ⟨v.t, 0, none⟩)] w fun e w' => e = .returned (.bool true) ∧ w = w' := by
  have c8 := h.c8
  obtain ⟨g, cap, bs, etb, _⟩ := h.tab
  rw [etb] at c8
  clear h
  go_enter Tryz.func45, Tryz.ntmps45
  go_wp2
  go_ret
  exact ⟨rfl, rfl⟩

/-- Nothing is handed out yet. -/
def clearO (m : TM) : TM := { m with send := [], say := [], took := [], used := false, p := none }
def beginM (m : TM) (p : Option PD) (poll : Bool) (num : Int) : TM := { clearO m with p := p, poll := poll, num := num }
def TV.begun (v : TV) (p : Value) : TV := { v with os := Sl.nil, oy := Sl.nil, ok := Sl.nil, pp := p }
theorem TV.begun_foot (v : TV) (p : Value) : ∀ x ∈ (v.begun p).foot, x ∈ v.foot := by
  intro x hx
  simp only [TV.begun, TV.foot, List.mem_cons, List.mem_append] at hx ⊢
  rcases hx with hx | hx | hx | hx | hx | hx | hx | hx | hx | hx
  any_goals (simp [hx]; done)
  all_goals simp [Sl.blk, Sl.nil] at hx
theorem IsTie.begun {w w' : World} {v : TV} {m m' : TM} {p : Value} (h : IsTie w v m) (f : Fr [v.t] w w') (hb : Blk w' v.t (m'.cells (v.begun p)) 105) (e1 : m'.send = []) (e2 : m'.say = []) (e3 : m'.took = [])
    (hpd : HeardAt w' v.n0 p Sl.nil m'.p) (er : (m'.cw, m'.wide, m'.count, m'.out, m'.q, m'.tm) = (m.cw, m.wide, m.count, m.out, m.q, m.tm)) : IsTie w' (v.begun p) m' := by
  simp only [Prod.mk.injEq] at er
  obtain ⟨r1, r2, r3, r4, r5, r6⟩ := er
  have to : ∀ t, 105 ≠ t → TyOut w [v.t] t := fun t ne => TyOut.cons h.blk ne (TyOut.nil _ _)
  refine ⟨hb, ?_, ?_, ?_, ?_, ?_, ?_, ?_, h.tab.fr f (fun x hx => h.lohi x (by simp at hx; subst hx; simp [TV.foot])), Nat.le_trans h.hile f.size, fun x hx => h.lohi x (v.begun_foot p x hx), hpd, h.low.1, fun x hx => h.low.2 x (v.begun_foot p x hx)⟩
  · rw [r4, r5]; exact h.back.ofTy f (to _ (by decide)) (to _ (by decide)) (by obtain ⟨_, ho⟩ := h.back.que.row.own; exact own_nin ho (to _ (by decide))) (to _ (by decide))
  · rw [r1, r2, r3]; exact h.win.ofTy f (to _ (by decide))
  · rw [r6]; exact h.clk.ofTy f (to _ (by decide)) (to _ (by decide))
  · rw [e1]; exact RowG.nil
  · rw [e2]; exact World.ownsRow_nil _ _ _ _
  · rw [e3]; exact RowG.nil
  · intro x hx hm
    simp [TV.begun, Sl.blk, Sl.nil] at hm

/-- The connection's last cells, one by one. -/
theorem IsTie.beginW {w : World} {v : TV} {m : TM} (h : IsTie w v m) (q : Option Addr) (p : Option PD) (hp : HeardAt w v.n0 (.pointer q) Sl.nil p) (poll : Bool) (num : Int) (w' : World)
    (hw : w' = ((((((w.setCell ⟨v.t, 30, none⟩ (.slice none 0 0)).setCell ⟨v.t, 31, none⟩ (.slice none 0 0)).setCell ⟨v.t, 32, none⟩ (.slice none 0 0)).setCell ⟨v.t, 33, none⟩ (.bool false)).setCell ⟨v.t, 34, none⟩ (.pointer q)).setCell ⟨v.t, 35, none⟩ (.bool poll)).setCell ⟨v.t, 36, none⟩ (.int .i64 num)) :
    IsTie w' (v.begun (.pointer q)) (beginM m p poll num) ∧ Fr [v.t] w w' := by
  have f : Fr [v.t] w w' := by
    rw [hw]
    exact (((((((Fr.refl [v.t] w).setCell _ (.inl (by simp))).setCell _ (.inl (by simp))).setCell _ (.inl (by simp))).setCell _ (.inl (by simp))).setCell _ (.inl (by simp))).setCell _ (.inl (by simp))).setCell _ (.inl (by simp))
  have to : ∀ t, 105 ≠ t → TyOut w [v.t] t := fun t ne => TyOut.cons h.blk ne (TyOut.nil _ _)
  refine ⟨h.begun f ?_ rfl rfl rfl (hp.frL f (to _ (by decide)) (to _ (by decide)) (fun x hx => by simp at hx; subst hx; exact h.low.2 _ v.t_foot)) rfl, f⟩
  have e : (beginM m p poll num).cells (v.begun (.pointer q)) = ((((((((m.cells v).setIfInBounds 30 (.slice none 0 0)).setIfInBounds 31 (.slice none 0 0)).setIfInBounds 32 (.slice none 0 0)).setIfInBounds 33 (.bool false)).setIfInBounds 34 (.pointer q)).setIfInBounds 35 (.bool poll)).setIfInBounds 36 (.int .i64 num)) := by
    simp only [TM.cells, beginM, clearO, TV.begun, List.setIfInBounds_toArray, List.set_cons_succ, List.set_cons_zero, Sl.nil]
  rw [hw, e]
  exact Blk.set (Blk.set (Blk.set (Blk.set (Blk.set (Blk.set (Blk.set h.blk 30 _ rfl) 31 _ rfl) 32 _ rfl) 33 _ rfl) 34 _ rfl) 35 _ rfl) 36 _ rfl
theorem IsTie.endW {w : World} {v : TV} {m : TM} (h : IsTie w v m) (w' : World)
    (hw : w' = ((((w.setCell ⟨v.t, 30, none⟩ (.slice none 0 0)).setCell ⟨v.t, 31, none⟩ (.slice none 0 0)).setCell ⟨v.t, 32, none⟩ (.slice none 0 0)).setCell ⟨v.t, 33, none⟩ (.bool false)).setCell ⟨v.t, 34, none⟩ (.pointer none)) :
    IsTie w' (v.begun (.pointer none)) (clearO m) ∧ Fr [v.t] w w' := by
  have f : Fr [v.t] w w' := by
    rw [hw]
    exact (((((Fr.refl [v.t] w).setCell _ (.inl (by simp))).setCell _ (.inl (by simp))).setCell _ (.inl (by simp))).setCell _ (.inl (by simp))).setCell _ (.inl (by simp))
  refine ⟨h.begun f ?_ rfl rfl rfl rfl rfl, f⟩
  have e : (clearO m).cells (v.begun (.pointer none)) = ((((((m.cells v).setIfInBounds 30 (.slice none 0 0)).setIfInBounds 31 (.slice none 0 0)).setIfInBounds 32 (.slice none 0 0)).setIfInBounds 33 (.bool false)).setIfInBounds 34 (.pointer none)) := by
    simp only [TM.cells, beginM, clearO, TV.begun, List.setIfInBounds_toArray, List.set_cons_succ, List.set_cons_zero, Sl.nil]
  rw [hw, e]
  exact Blk.set (Blk.set (Blk.set (Blk.set (Blk.set h.blk 30 _ rfl) 31 _ rfl) 32 _ rfl) 33 _ rfl) 34 _ rfl

set_option maxHeartbeats 4000000 in
theorem tie_begin (w : World) (v : TV) (m : TM) (q : Option Addr) (p : Option PD) (poll : Bool) (num : Int) (h : IsTie w v m) (hp : HeardAt w v.n0 (.pointer q) Sl.nil p) :
    Calls Tryz.prog 46 #[.pointer (some ⟨v.t, 0, none⟩), .pointer q, .bool poll, .int .i64 num] w fun e w' => e = .returned (.tuple #[]) ∧ IsTie w' (v.begun (.pointer q)) (beginM m p poll num) ∧ Fr [v.t] w w' := by
  have z30 := h.z 30
  have z31 := h.z 31
  have z32 := h.z 32
  have z33 := h.z 33
  have z34 := h.z 34
  have z35 := h.z 35
  have z36 := h.z 36
  have c30 := h.c30
  have c31 := h.c31
  have c32 := h.c32
  have c33 := h.c33
  have c34 := h.c34
  have c35 := h.c35
  have c36 := h.c36
  have hfin := h.beginW q p hp poll num
  have HFIN := Lib.hid hfin
  clear h hfin hp
  go_enter Tryz.func46, Tryz.ntmps46
  go_wp2
  go_end0
  exact ⟨rfl, HFIN.out _ rfl⟩

/-- What a doing came to. -/
def OutV (w : World) (m : TM) (F : List Nat) (x : Value) : Prop := ∃ os oy ok : Sl, (∀ x ∈ os.blk ++ (oy.blk ++ ok.blk), x ∉ F) ∧ x = .agg #[.slice os.A m.send.length os.c, .slice oy.A m.say.length oy.c, .slice ok.A m.took.length ok.c, .bool m.used] ∧ os.n = m.send.length ∧ oy.n = m.say.length ∧ ok.n = m.took.length ∧ PRow 0 0 os m.send w ∧ w.ownsRow 0 3 1 oy.v m.say.length (m.say.map (Value.int .i64)) ∧ BRow ok m.took w
theorem IsTie.outs {w w' : World} {v : TV} {m : TM} (h : IsTie w v m) (f : Fr [v.t] w w') : PRow 0 0 v.os m.send w' ∧ w'.ownsRow 0 3 1 v.oy.v m.say.length (m.say.map (Value.int .i64)) ∧ BRow v.ok m.took w' := by
  have to : ∀ t, 105 ≠ t → TyOut w [v.t] t := fun t ne => TyOut.cons h.blk ne (TyOut.nil _ _)
  exact ⟨h.os.ofTy f (to _ (by decide)) (to _ (by decide)), own_ofTy h.oy f (to _ (by decide)), h.ok.frL f (to _ (by decide)) (by obtain ⟨_, ho⟩ := h.ok.own; exact own_nin ho (to _ (by decide)))⟩
/-- What is handed out lies apart. -/
theorem IsTie.apart {w : World} {v : TV} {m : TM} (h : IsTie w v m) (p : Value) : ∀ x ∈ v.os.blk ++ (v.oy.blk ++ v.ok.blk), x ∉ (v.begun p).foot := by
  intro x hx hm
  obtain ⟨xs, ho⟩ := h.os.own
  obtain ⟨ys, hk⟩ := h.ok.own
  obtain ⟨zs, hq⟩ := h.back.que.row.own
  have key : ∃ cs f u, w.heap[x]? = some (.cells cs u f) ∧ (u = 52 ∨ u = 3 ∨ u = 49 ∧ x ∈ v.ok.blk) := by
    simp only [List.mem_append] at hx
    rcases hx with hx | hx | hx
    · obtain ⟨_, cs, e⟩ := own_blk ho x hx; exact ⟨_, _, _, e, .inl rfl⟩
    · obtain ⟨_, cs, e⟩ := own_blk h.oy x hx; exact ⟨_, _, _, e, .inr (.inl rfl)⟩
    · obtain ⟨_, cs, e⟩ := own_blk hk x hx; exact ⟨_, _, _, e, .inr (.inr ⟨rfl, hx⟩)⟩
  obtain ⟨cs, f, u, e, hu⟩ := key
  have fin : ∀ {cs' f' u'}, w.heap[x]? = some (.cells cs' u' f') → u' ≠ 52 → u' ≠ 3 → (u' = 49 → x ∉ v.ok.blk) → False := fun e' n1 n2 n3 => by
    rw [e] at e'
    cases e'
    rcases hu with rfl | rfl | ⟨rfl, hx⟩
    · exact n1 rfl
    · exact n2 rfl
    · exact n3 rfl hx
  simp only [TV.begun, TV.foot, List.mem_cons, List.mem_append] at hm
  rcases hm with rfl | rfl | rfl | rfl | rfl | hm | hm | hm | hm | hm
  · exact fin h.blk (by decide) (by decide) (fun e => absurd e (by decide))
  · exact fin h.back.back (by decide) (by decide) (fun e => absurd e (by decide))
  · exact fin h.back.que.head (by decide) (by decide) (fun e => absurd e (by decide))
  · exact fin h.win (by decide) (by decide) (fun e => absurd e (by decide))
  · exact fin h.clk.head (by decide) (by decide) (fun e => absurd e (by decide))
  · obtain ⟨_, cs, e2⟩ := own_blk hq x hm; exact fin e2 (by decide) (by decide) (fun _ => h.dis x hm)
  · obtain ⟨_, cs, e2⟩ := own_blk h.clk.own x hm; exact fin e2 (by decide) (by decide) (fun e => absurd e (by decide))
  all_goals simp [Sl.blk, Sl.nil] at hm
theorem IsTie.retW {w w' : World} {v : TV} {m : TM} {Z : Nat} {a b c d x y z u : Value} (h : IsTie w v m) (hZ : Z ∉ v.foot) (hhi : v.hi ≤ Z) (hb : Blk w Z #[x, y, z, u] 36)
    (hw : w' = (((w.setCell ⟨Z, 0, none⟩ a).setCell ⟨Z, 1, none⟩ b).setCell ⟨Z, 2, none⟩ c).setCell ⟨Z, 3, none⟩ d) : IsTie w' v m ∧ Blk w' Z #[a, b, c, d] 36 ∧ Fr [Z] w w' := by
  have f : Fr [Z] w w' := by
    rw [hw]
    exact ((((Fr.refl [Z] w).setCell _ (.inl (by simp))).setCell _ (.inl (by simp))).setCell _ (.inl (by simp))).setCell _ (.inl (by simp))
  refine ⟨h.frL f (fun x hx hm => by simp at hx; subst hx; exact hZ hm) (fun x hx => by simp at hx; subst hx; exact hhi) (TyOut.cons hb (by decide) (TyOut.nil _ _)) (fun x hx e => by simp at hx; subst hx; obtain ⟨cs, hb2⟩ := h.pcell e; exact absurd (Blk.ty hb2 hb) (by decide)), ?_, f⟩
  rw [hw]
  exact Blk.set (Blk.set (Blk.set (Blk.set hb 0 _ rfl) 1 _ rfl) 2 _ rfl) 3 _ rfl
set_option maxHeartbeats 4000000 in
theorem tie_end (w : World) (v : TV) (m : TM) (h : IsTie w v m) :
    Calls Tryz.prog 49 #[.pointer (some ⟨v.t, 0, none⟩)] w fun e w' => ∃ x, e = .returned x ∧ OutV w' m (v.begun (.pointer none)).foot x ∧ IsTie w' (v.begun (.pointer none)) (clearO m) ∧ Fr [v.t] w w' := by
  have f0 := (Fr.refl [] w).alloc (.cells #[.slice none 0 0, .slice none 0 0, .slice none 0 0, .bool false] 36)
  have hb := Blk.new w #[.slice none 0 0, .slice none 0 0, .slice none 0 0, .bool false] 36
  have hb2 := Blk.new (w.alloc (.cells #[.slice none 0 0, .slice none 0 0, .slice none 0 0, .bool false] 36)) #[.slice v.os.A v.os.n v.os.c, .slice v.oy.A v.oy.n v.oy.c, .slice v.ok.A v.ok.n v.ok.c, .bool m.used] 36
  have f2 := f0.alloc (.cells #[.slice v.os.A v.os.n v.os.c, .slice v.oy.A v.oy.n v.oy.c, .slice v.ok.A v.ok.n v.ok.c, .bool m.used] 36)
  have h0 := h.fr0 f0
  have h2 := h.fr0 f2
  have hlen := h.len
  have c30 := h0.c30
  have c31 := h0.c31
  have c32 := h0.c32
  have c33 := h0.c33
  have z30 := h2.z 30
  have z31 := h2.z 31
  have z32 := h2.z 32
  have z33 := h2.z 33
  have z34 := h2.z 34
  have c30' := h2.c30
  have c31' := h2.c31
  have c32' := h2.c32
  have c33' := h2.c33
  have c34' := h2.c34
  have hfin := h2.endW
  have HFIN := Lib.hid hfin
  have HB := Lib.hid (And.intro (hb.alloc (.cells #[.slice v.os.A v.os.n v.os.c, .slice v.oy.A v.oy.n v.oy.c, .slice v.ok.A v.ok.n v.ok.c, .bool m.used] 36)) hb2)
  have H0 := Lib.hid h
  have F2 := Lib.hid f2
  have HLEN := Lib.hid hlen
  clear h h0 f0 hb hb2 f2 h2 hfin hlen
  go_enter Tryz.func49, Tryz.ntmps49
  go_wp2
  obtain ⟨w3, hw3⟩ : ∃ w3, (((((((w.alloc (.cells #[.slice none 0 0, .slice none 0 0, .slice none 0 0, .bool false] 36)).alloc (.cells #[.slice v.os.A v.os.n v.os.c, .slice v.oy.A v.oy.n v.oy.c, .slice v.ok.A v.ok.n v.ok.c, .bool m.used] 36)).setCell ⟨v.t, 30, none⟩ (.slice none 0 0)).setCell ⟨v.t, 31, none⟩ (.slice none 0 0)).setCell ⟨v.t, 32, none⟩ (.slice none 0 0)).setCell ⟨v.t, 33, none⟩ (.bool false)).setCell ⟨v.t, 34, none⟩ (.pointer none)) = w3 := ⟨_, rfl⟩
  simp only [hw3]
  obtain ⟨h3, f3⟩ := HFIN.out w3 hw3.symm
  have hlt := H0.out.lt
  have hhi := H0.out.hile
  have hne : w.heap.size ∉ [v.t] := by simp; have := H0.out.blk.lt; omega
  have hbz := HB.out.1.fr f3 hne
  obtain ⟨h4, b4, f4⟩ := h3.retW (fun hm => by have := hlt _ (v.begun_foot _ _ hm); omega) hhi hbz rfl
  have fall : Fr [v.t] w _ := ((F2.out.mono (M := [v.t]) (by simp)).trans f3 (fun x hx => .inl hx)).trans f4 (fun x hx => .inr (by simp at hx; subst hx; exact Nat.le_refl _))
  obtain ⟨o1, o2, o3⟩ := H0.out.outs fall
  obtain ⟨l1, l2, l3⟩ := HLEN.out
  have g0 := b4.cell 0 rfl
  have g1 := b4.cell 1 rfl
  have g2 := b4.cell 2 rfl
  have g3 := b4.cell 3 rfl
  simp only [List.getElem_toArray, List.getElem_cons_zero, List.getElem_cons_succ] at g0 g1 g2 g3
  refine bodyPost_ret (v := .agg #[.slice v.os.A v.os.n v.os.c, .slice v.oy.A v.oy.n v.oy.c, .slice v.ok.A v.ok.n v.ok.c, .bool m.used]) ?_ rfl ⟨_, rfl, ⟨v.os, v.oy, v.ok, H0.out.apart _, by rw [l1, l2, l3], l1, l2, l3, o1, o2, o3⟩, h4, fall⟩
  simp [results, Tryz.results49, go_sem, g0, g1, g2, g3]

end Go.Proofs.YtneggoonlmmjeaaGreat
namespace Go.Proofs.YtneggoonlmmjeaaGreat
open Go.RowKit Go.Shelf
set_option linter.unusedVariables false
set_option linter.unusedSimpArgs false
set_option maxRecDepth 100000

def sapB (n : Int) : Bool := decide (2 ≤ n) && decide (n ≤ 254) && decide (n % 2 = 0)
theorem tie_sap (n : Int) (w : World) :
    Calls Tryz.prog 41 #[.int .i64 n] w fun e w' => e = .returned (.bool (sapB n)) ∧ w = w' := by
  unfold sapB
  by_cases h1 : 2 ≤ n
  · have d1 : decide (2 ≤ n) = true := by simpa using h1
    by_cases h2 : n ≤ 254
    · have d2 : decide (n ≤ 254) = true := by simpa using h2
      by_cases h3 : n % 2 = 0
      · have d3 : decide (n % 2 = 0) = true := by simpa using h3
        have e3 : (n % 2 == 0) = true := by simpa using h3
        rw [d1, d2, d3]
        clear h3
        go_enter Tryz.func41, Tryz.ntmps41
        go_wp2
        go_ret
        exact ⟨rfl, rfl⟩
      · have d3 : decide (n % 2 = 0) = false := by simpa using h3
        have e3 : (n % 2 == 0) = false := by simpa using h3
        rw [d1, d2, d3]
        clear h3
        go_enter Tryz.func41, Tryz.ntmps41
        go_wp2
        go_ret
        exact ⟨rfl, rfl⟩
    · have d2 : decide (n ≤ 254) = false := by simpa using h2
      rw [d1, d2]
      go_enter Tryz.func41, Tryz.ntmps41
      go_wp2
      go_ret
      exact ⟨rfl, rfl⟩
  · have d1 : decide (2 ≤ n) = false := by simpa using h1
    rw [d1]
    go_enter Tryz.func41, Tryz.ntmps41
    go_wp2
    go_ret
    exact ⟨rfl, rfl⟩


theorem window_New_no (n : Int) (w : World) (h : n < 1 ∨ 64 < n) :
    Calls Tryz.prog 40 #[.int .i64 n] w fun e w' => e = .returned (.tuple #[.pointer none, .int .i64 1]) ∧ w = w' := by
  rcases h with h | h
  · have d1 : decide (n < 1) = true := by simpa using h
    go_enter Tryz.func40, Tryz.ntmps40
    go_wp2
    go_ret2
    exact ⟨rfl, rfl⟩
  · have d1 : decide (n < 1) = false := by simp; omega
    have d2 : decide (64 < n) = true := by simpa using h
    go_enter Tryz.func40, Tryz.ntmps40
    go_wp2
    go_ret2
    exact ⟨rfl, rfl⟩
theorem window_New_yes (n : Int) (w : World) (h1 : 1 ≤ n) (h2 : n ≤ 64) :
    Calls Tryz.prog 40 #[.int .i64 n] w fun e w' => ∃ b, e = .returned (.tuple #[.pointer (some ⟨b, 0, none⟩), .int .i64 0]) ∧ Blk w' b #[.int .i64 n, .int .i64 n, .int .i64 0] 139 ∧ w.heap.size ≤ b ∧ Fr [] w w' := by
  have d1 : decide (n < 1) = false := by simp; omega
  have d2 : decide (64 < n) = false := by simp; omega
  go_enter Tryz.func40, Tryz.ntmps40
  go_wp2
  go_ret2
  exact ⟨_, rfl, Blk.new _ _ _, Nat.le_refl _, (Fr.refl _ _).alloc _⟩

/-- A configuration. -/
structure CM where
  wd : Int
  tr : Int
  ak : Int
  po : Int
  re : Int
  bu : Int
abbrev CM.val (c : CM) : Value := .agg #[.int .i64 c.wd, .int .i64 c.tr, .int .i64 c.ak, .int .i64 c.po, .int .i64 c.re, .int .i64 c.bu]
def tickB (n : Int) : Bool := decide (1 ≤ n) && decide (n ≤ 10000)
def tick (n : Int) : Prop := 1 ≤ n ∧ n ≤ 10000
def CM.ok (c : CM) : Prop := 1 ≤ c.wd ∧ c.wd ≤ 64 ∧ 1 ≤ c.tr ∧ c.tr ≤ 100 ∧ tick c.ak ∧ tick c.po ∧ tick c.re ∧ tick c.bu
instance (c : CM) : Decidable c.ok := by unfold CM.ok tick; infer_instance

def NewNo (w : World) (e : Ending) (w' : World) : Prop := e = .returned (.tuple #[.pointer none, .int .i64 1]) ∧ Fr [] w w'
set_option maxRecDepth 100000 in
theorem tie_New_no1 (c : CM) (n m : Int) (w : World) (h : c.wd < 1 ∨ 64 < c.wd) :
    Calls Tryz.prog 13 #[c.val, .int .i64 n, .int .i64 m] w (NewNo w) := by
  go_enter Tryz.func13, Tryz.ntmps13
  have hb := Blk.new w #[.int .i64 c.wd, .int .i64 c.tr, .int .i64 c.ak, .int .i64 c.po, .int .i64 c.re, .int .i64 c.bu] 30
  go_wp2_with fail
  refine (window_New_no c.wd _ h).mono ?_
  rintro e w1 ⟨rfl, rfl⟩
  go_wp2
  go_ret2
  exact ⟨rfl, (Fr.refl _ _).alloc _⟩
set_option maxRecDepth 100000 in
theorem tie_New_no2 (c : CM) (n m : Int) (w : World) (h1 : 1 ≤ c.wd) (h2 : c.wd ≤ 64) (h : c.tr < 1 ∨ 100 < c.tr) :
    Calls Tryz.prog 13 #[c.val, .int .i64 n, .int .i64 m] w (NewNo w) := by
  rcases h with h | h
  · have d1 : decide (c.tr < 1) = true := by simpa using h
    go_enter Tryz.func13, Tryz.ntmps13
    have hb := Blk.new w #[.int .i64 c.wd, .int .i64 c.tr, .int .i64 c.ak, .int .i64 c.po, .int .i64 c.re, .int .i64 c.bu] 30
    go_wp2_with fail
    refine (window_New_yes c.wd _ h1 h2).mono ?_
    rintro e w1 ⟨bw, rfl, hbw, hbws, f1⟩
    have hb1 := hb.fr f1 (by simp)
    have c1 : w1.cell? ⟨w.heap.size, 1, none⟩ = some (.int .i64 c.tr) := hb1.cell 1 rfl
    go_wp2
    go_ret2
    exact ⟨rfl, ((Fr.refl _ _).alloc _).tr f1⟩
  · have d1 : decide (c.tr < 1) = false := by simp; omega
    have d2 : decide (100 < c.tr) = true := by simpa using h
    go_enter Tryz.func13, Tryz.ntmps13
    have hb := Blk.new w #[.int .i64 c.wd, .int .i64 c.tr, .int .i64 c.ak, .int .i64 c.po, .int .i64 c.re, .int .i64 c.bu] 30
    go_wp2_with fail
    refine (window_New_yes c.wd _ h1 h2).mono ?_
    rintro e w1 ⟨bw, rfl, hbw, hbws, f1⟩
    have hb1 := hb.fr f1 (by simp)
    have c1 : w1.cell? ⟨w.heap.size, 1, none⟩ = some (.int .i64 c.tr) := hb1.cell 1 rfl
    go_wp2
    go_ret2
    exact ⟨rfl, ((Fr.refl _ _).alloc _).tr f1⟩
set_option maxRecDepth 100000 in
theorem tie_New_no3 (c : CM) (n m : Int) (w : World) (h1 : 1 ≤ c.wd) (h2 : c.wd ≤ 64) (h3 : 1 ≤ c.tr) (h4 : c.tr ≤ 100) (h : sapB n = false ∨ sapB m = false) :
    Calls Tryz.prog 13 #[c.val, .int .i64 n, .int .i64 m] w (NewNo w) := by
  have d1 : decide (c.tr < 1) = false := by simp; omega
  have d2 : decide (100 < c.tr) = false := by simp; omega
  cases hn : sapB n with
  | false =>
    have HN := Lib.hid hn
    clear hn h
    go_enter Tryz.func13, Tryz.ntmps13
    have hb := Blk.new w #[.int .i64 c.wd, .int .i64 c.tr, .int .i64 c.ak, .int .i64 c.po, .int .i64 c.re, .int .i64 c.bu] 30
    go_wp2_with fail
    refine (window_New_yes c.wd _ h1 h2).mono ?_
    rintro e w1 ⟨bw, rfl, hbw, hbws, f1⟩
    have hb1 := hb.fr f1 (by simp)
    have c1 : w1.cell? ⟨w.heap.size, 1, none⟩ = some (.int .i64 c.tr) := hb1.cell 1 rfl
    go_wp2_with fail
    refine (tie_sap n _).mono ?_
    rintro e w2 ⟨rfl, rfl⟩
    rw [HN.out]
    go_wp2
    go_ret2
    exact ⟨rfl, ((Fr.refl _ _).alloc _).tr f1⟩
  | true =>
    have HM := Lib.hid (show sapB m = false by simpa [hn] using h)
    have HN := Lib.hid hn
    clear hn h
    go_enter Tryz.func13, Tryz.ntmps13
    have hb := Blk.new w #[.int .i64 c.wd, .int .i64 c.tr, .int .i64 c.ak, .int .i64 c.po, .int .i64 c.re, .int .i64 c.bu] 30
    go_wp2_with fail
    refine (window_New_yes c.wd _ h1 h2).mono ?_
    rintro e w1 ⟨bw, rfl, hbw, hbws, f1⟩
    have hb1 := hb.fr f1 (by simp)
    have c1 : w1.cell? ⟨w.heap.size, 1, none⟩ = some (.int .i64 c.tr) := hb1.cell 1 rfl
    go_wp2_with fail
    refine (tie_sap n _).mono ?_
    rintro e w2 ⟨rfl, rfl⟩
    rw [HN.out]
    go_wp2_with fail
    refine (tie_sap m _).mono ?_
    rintro e w2 ⟨rfl, rfl⟩
    rw [HM.out]
    go_wp2
    go_ret2
    exact ⟨rfl, ((Fr.refl _ _).alloc _).tr f1⟩

def ticksL (c : CM) : List Int := [c.ak, c.po, c.re, c.bu]
theorem ticks_step {c : CM} {j : Nat} (h : ∀ x ∈ (ticksL c).take j, tick x) {y : Int} (hy : (ticksL c)[j]? = some y) (ht : tick y) : ∀ x ∈ (ticksL c).take (j + 1), tick x := by
  intro x hx
  rw [List.take_add_one, hy] at hx
  simp only [List.mem_append, Option.toList_some, List.mem_singleton] at hx
  rcases hx with hx | rfl
  · exact h x hx
  · exact ht
/-- A new connection. -/
def newM (c : CM) (n m : Int) : TM := { cw := c.wd, ct := c.tr, ca := c.ak, cp := c.po, cr := c.re, cb := c.bu, near := n, there := m, state := 0, vs := 0, vr := 0, va := 0, own := 0, other := 0, retries := 0, busy := false, epoch := 0, rc := 0, rvs := 0, rvr := 0, rr := false, rw := false, rx := false, ry := false, rz := false, rv := false, used := false, poll := false, num := 0, wide := c.wd, count := 0, out := 0, q := [], tm := [], send := [], say := [], took := [], p := none }
def NewOk (c : CM) (n m : Int) (w : World) (e : Ending) (w' : World) : Prop := ∃ v : TV, e = .returned (.tuple #[.pointer (some ⟨v.t, 0, none⟩), .int .i64 0]) ∧ IsTie w' v (newM c n m) ∧ v.pp = .pointer none ∧ v.n0 = w.heap.size ∧ Fr [] w w'
theorem TabAt.mk {w : World} {g cap : Nat} {bs : Nat → Nat} (h : IsT w g bs rowsM) (hg : bs 14 ≤ g) (hb : ∀ s, s < 14 → bs 14 ≤ bs s) : TabAt w (.slice (some ⟨g, 0, none⟩) 14 cap) (bs 14) w.heap.size := by
  refine ⟨g, cap, bs, rfl, h, rfl, hg, World.block_lt_of_cell? _ _ (h.outer 0 (by omega)), fun s hs => ⟨hb s hs, ?_⟩, fun s hs e he => ?_⟩
  · obtain ⟨s0, p0, _⟩ := h.row s hs 0 (by omega)
    exact World.block_lt_of_cell? _ _ p0
  · obtain ⟨s0, p0, p1, p2, p3, p4⟩ := h.row s hs e he
    exact ⟨s0, p0, p3, fun hl A n c ev => ⟨tbX_low (p4 A n c ev), p3.lt hl A n c ev⟩⟩
/-- A configuration in memory. -/
def CfgAt (B0 : Nat) (c : CM) (w : World) : Prop := w.cell? ⟨B0, 0, none⟩ = some (.int .i64 c.wd) ∧ w.cell? ⟨B0, 1, none⟩ = some (.int .i64 c.tr) ∧ w.cell? ⟨B0, 2, none⟩ = some (.int .i64 c.ak) ∧ w.cell? ⟨B0, 3, none⟩ = some (.int .i64 c.po) ∧ w.cell? ⟨B0, 4, none⟩ = some (.int .i64 c.re) ∧ w.cell? ⟨B0, 5, none⟩ = some (.int .i64 c.bu)
set_option maxHeartbeats 1000000 in
set_option maxRecDepth 100000 in
theorem tie_New (c : CM) (n m : Int) (w : World) (h1 : 1 ≤ c.wd) (h2 : c.wd ≤ 64) (h3 : 1 ≤ c.tr) (h4 : c.tr ≤ 100) (hn : sapB n = true) (hm : sapB m = true) (ht : ∀ x ∈ ticksL c, tick x) :
    Calls Tryz.prog 13 #[c.val, .int .i64 n, .int .i64 m] w (NewOk c n m w) := by
  have d1 : decide (c.tr < 1) = false := by simp; omega
  have d2 : decide (100 < c.tr) = false := by simp; omega
  have HN := Lib.hid hn
  have HM := Lib.hid hm
  clear hn hm
  have HT := Lib.hid ht
  clear ht
  go_enter Tryz.func13, Tryz.ntmps13
  have hb := Blk.new w #[.int .i64 c.wd, .int .i64 c.tr, .int .i64 c.ak, .int .i64 c.po, .int .i64 c.re, .int .i64 c.bu] 30
  go_wp2_with fail
  refine (window_New_yes c.wd _ h1 h2).mono ?_
  rintro e w1 ⟨bw, rfl, hbw, hbws, f1⟩
  have hb1 := hb.fr f1 (by simp)
  have c1 : w1.cell? ⟨w.heap.size, 1, none⟩ = some (.int .i64 c.tr) := hb1.cell 1 rfl
  have c2 : w1.cell? ⟨w.heap.size, 2, none⟩ = some (.int .i64 c.ak) := hb1.cell 2 rfl
  have c3 : w1.cell? ⟨w.heap.size, 3, none⟩ = some (.int .i64 c.po) := hb1.cell 3 rfl
  have c4 : w1.cell? ⟨w.heap.size, 4, none⟩ = some (.int .i64 c.re) := hb1.cell 4 rfl
  have c5 : w1.cell? ⟨w.heap.size, 5, none⟩ = some (.int .i64 c.bu) := hb1.cell 5 rfl
  go_wp2_with fail
  refine (tie_sap n _).mono ?_
  rintro e w2 ⟨rfl, rfl⟩
  rw [HN.out]
  go_wp2_with fail
  refine (tie_sap m _).mono ?_
  rintro e w2 ⟨rfl, rfl⟩
  rw [HM.out]
  go_wp2
  have F : Fr [] w (w1.alloc (.cells #[.int .i64 c.ak, .int .i64 c.po, .int .i64 c.re, .int .i64 c.bu] 3)) := (((Fr.refl _ _).alloc _).tr f1).alloc _
  have hB : Blk (w1.alloc (.cells #[.int .i64 c.ak, .int .i64 c.po, .int .i64 c.re, .int .i64 c.bu] 3)) w1.heap.size #[.int .i64 c.ak, .int .i64 c.po, .int .i64 c.re, .int .i64 c.bu] 3 := Blk.new _ _ _
  have hb2 := hb1.alloc (.cells #[.int .i64 c.ak, .int .i64 c.po, .int .i64 c.re, .int .i64 c.bu] 3)
  have hbw2 := (hbw.alloc (.cells #[.int .i64 c.ak, .int .i64 c.po, .int .i64 c.re, .int .i64 c.bu] 3))
  have hbws2 : w.heap.size ≤ bw := by simp at hbws; omega
  have HBW := Lib.hid (And.intro hbw2 hbws2)
  have HF := Lib.hid F
  clear hbw2 hbws2 hbws F
  clear hb hb1 hbw f1 c1 c2 c3 c4 c5 d1 d2 h1 h2 h3 h4
  generalize (w1.alloc (.cells #[.int .i64 c.ak, .int .i64 c.po, .int .i64 c.re, .int .i64 c.bu] 3)) = w2 at *
  go_loopw [50] (fun i wr => w2 = wr ∧ ∃ j : Nat, i = .int .i64 j ∧ j ≤ 4 ∧ ∀ x ∈ (ticksL c).take j, tick x) (fun i _ => 4 - (intOf i).toNat)
  case atStart => exact ⟨rfl, 0, rfl, by omega, by simp⟩
  case round =>
    obtain ⟨rfl, j, rfl, hj, hg⟩ := hrel
    by_cases e0 : j = 0
    · subst e0
      have c0 : w2.cell? ⟨w1.heap.size, 0, none⟩ = some (.int .i64 c.ak) := hB.cell 0 rfl
      have Hg := Lib.hid hg
      clear hg
      by_cases t1 : 1 ≤ c.ak
      · have d1 : decide (c.ak < 1) = false := by simp; omega
        by_cases t2 : c.ak ≤ 10000
        · have d2 : decide (10000 < c.ak) = false := by simp; omega
          go_wp2
          go_roundw
          case rel => exact ⟨trivial, 1, by simp, by omega, ticks_step Hg.out rfl ⟨t1, t2⟩⟩
          case measure => simp [intOf]
        · have d2 : decide (10000 < c.ak) = true := by simp; omega
          go_wp2
          go_ret2
          exact absurd (HT.out c.ak (by simp [ticksL])) (fun h => by have := h.2; omega)
      · have d1 : decide (c.ak < 1) = true := by simp; omega
        go_wp2
        go_ret2
        exact absurd (HT.out c.ak (by simp [ticksL])) (fun h => by have := h.1; omega)
    by_cases e1 : j = 1
    · subst e1
      have c0 : w2.cell? ⟨w1.heap.size, 1, none⟩ = some (.int .i64 c.po) := hB.cell 1 rfl
      have Hg := Lib.hid hg
      clear hg
      by_cases t1 : 1 ≤ c.po
      · have d1 : decide (c.po < 1) = false := by simp; omega
        by_cases t2 : c.po ≤ 10000
        · have d2 : decide (10000 < c.po) = false := by simp; omega
          go_wp2
          go_roundw
          case rel => exact ⟨trivial, 2, by simp, by omega, ticks_step Hg.out rfl ⟨t1, t2⟩⟩
          case measure => simp [intOf]
        · have d2 : decide (10000 < c.po) = true := by simp; omega
          go_wp2
          go_ret2
          exact absurd (HT.out c.po (by simp [ticksL])) (fun h => by have := h.2; omega)
      · have d1 : decide (c.po < 1) = true := by simp; omega
        go_wp2
        go_ret2
        exact absurd (HT.out c.po (by simp [ticksL])) (fun h => by have := h.1; omega)
    by_cases e2 : j = 2
    · subst e2
      have c0 : w2.cell? ⟨w1.heap.size, 2, none⟩ = some (.int .i64 c.re) := hB.cell 2 rfl
      have Hg := Lib.hid hg
      clear hg
      by_cases t1 : 1 ≤ c.re
      · have d1 : decide (c.re < 1) = false := by simp; omega
        by_cases t2 : c.re ≤ 10000
        · have d2 : decide (10000 < c.re) = false := by simp; omega
          go_wp2
          go_roundw
          case rel => exact ⟨trivial, 3, by simp, by omega, ticks_step Hg.out rfl ⟨t1, t2⟩⟩
          case measure => simp [intOf]
        · have d2 : decide (10000 < c.re) = true := by simp; omega
          go_wp2
          go_ret2
          exact absurd (HT.out c.re (by simp [ticksL])) (fun h => by have := h.2; omega)
      · have d1 : decide (c.re < 1) = true := by simp; omega
        go_wp2
        go_ret2
        exact absurd (HT.out c.re (by simp [ticksL])) (fun h => by have := h.1; omega)
    by_cases e3 : j = 3
    · subst e3
      have c0 : w2.cell? ⟨w1.heap.size, 3, none⟩ = some (.int .i64 c.bu) := hB.cell 3 rfl
      have Hg := Lib.hid hg
      clear hg
      by_cases t1 : 1 ≤ c.bu
      · have d1 : decide (c.bu < 1) = false := by simp; omega
        by_cases t2 : c.bu ≤ 10000
        · have d2 : decide (10000 < c.bu) = false := by simp; omega
          go_wp2
          go_roundw
          case rel => exact ⟨trivial, 4, by simp, by omega, ticks_step Hg.out rfl ⟨t1, t2⟩⟩
          case measure => simp [intOf]
        · have d2 : decide (10000 < c.bu) = true := by simp; omega
          go_wp2
          go_ret2
          exact absurd (HT.out c.bu (by simp [ticksL])) (fun h => by have := h.2; omega)
      · have d1 : decide (c.bu < 1) = true := by simp; omega
        go_wp2
        go_ret2
        exact absurd (HT.out c.bu (by simp [ticksL])) (fun h => by have := h.1; omega)
    obtain rfl : j = 4 := by omega
    clear hg
    go_wp2
    obtain ⟨B0, hB0⟩ : ∃ B0, w.heap.size = B0 := ⟨_, rfl⟩
    have HB0 := Lib.hid hB0
    rw [hB0] at hb2
    simp only [hB0]
    have hcls : ∀ wx, Fr [] w2 wx → CfgAt B0 c wx := fun wx hf => ⟨hf.cell (hb2.cell 0 rfl) (by simp), hf.cell (hb2.cell 1 rfl) (by simp), hf.cell (hb2.cell 2 rfl) (by simp), hf.cell (hb2.cell 3 rfl) (by simp), hf.cell (hb2.cell 4 rfl) (by simp), hf.cell (hb2.cell 5 rfl) (by simp)⟩
    have HC := Lib.hid hcls
    clear hcls hb2 hB hB0
    haveI : Nonempty (Held (CfgAt B0 c)) := ⟨⟨w2, HC.out w2 (Fr.refl _ _)⟩⟩
    have hc0 : ∀ n : Held (CfgAt B0 c), n.x.cell? ⟨B0, 0, none⟩ = some (.int .i64 c.wd) := fun n => n.ok.1
    have hc1 : ∀ n : Held (CfgAt B0 c), n.x.cell? ⟨B0, 1, none⟩ = some (.int .i64 c.tr) := fun n => n.ok.2.1
    have hc2 : ∀ n : Held (CfgAt B0 c), n.x.cell? ⟨B0, 2, none⟩ = some (.int .i64 c.ak) := fun n => n.ok.2.2.1
    have hc3 : ∀ n : Held (CfgAt B0 c), n.x.cell? ⟨B0, 3, none⟩ = some (.int .i64 c.po) := fun n => n.ok.2.2.2.1
    have hc4 : ∀ n : Held (CfgAt B0 c), n.x.cell? ⟨B0, 4, none⟩ = some (.int .i64 c.re) := fun n => n.ok.2.2.2.2.1
    have hc5 : ∀ n : Held (CfgAt B0 c), n.x.cell? ⟨B0, 5, none⟩ = some (.int .i64 c.bu) := fun n => n.ok.2.2.2.2.2
    refine wp_region_mixP (fun x => ∃ n : Held (CfgAt B0 c), x = n.x) [([0, 1, 2, 5], some 3), ([], some 4), ([], some 6), ([], some 7), ([], some 8), ([9, 10], none)] (by kernel_rfl) (by kernel_rfl) (by kernel_rfl) (by kernel_rfl) ⟨⟨_, HC.out _ (Fr.refl _ _).drew⟩, rfl⟩ ?_
    simp only [wpMixP, pickL, pick1, List.getElem?_toArray, List.getElem?_cons_zero, List.getElem?_cons_succ]
    repeat (go_big_quiet_step (fail))
    refine wpQuiet_nil ?_
    go_wp2_with fail
    refine (grid_Rows _).mono ?_
    rintro e w3 ⟨g, cap, bs, rfl, hT, hgl, hbl, h14, f3⟩
    go_wp2_with fail
    have F3 : Fr [] w w3 := (HF.out.drew).tr f3
    have hpt : Fr [] w2 w3 := ((Fr.refl [] w2).drew).tr f3
    have htab : TabAt w3 (.slice (some ⟨g, 0, none⟩) 14 cap) (bs 14) w3.heap.size := TabAt.mk hT (by rw [h14]; exact hgl) (fun s hs => by rw [h14]; exact hbl s hs)
    have hbw3 : Blk w3 bw #[.int .i64 c.wd, .int .i64 c.wd, .int .i64 0] 139 := HBW.out.1.fr hpt (by simp)
    have hlo : w2.heap.size = bs 14 := h14.symm
    have hbwl : bw < bs 14 := by rw [← hlo]; exact HBW.out.1.lt
    have HX := Lib.hid (And.intro F3 (And.intro hpt (And.intro htab (And.intro hbw3 (And.intro hlo hbwl)))))
    clear F3 htab hbw3 hlo hbwl hT hgl hbl h14 f3
    refine ⟨⟨⟨_, HC.out _ hpt⟩, rfl⟩, ?_⟩
    clear hpt
    dsimp only
    refine wpQuiet_nil ?_
    go_wp2_with fail
    refine (back_New w3 64 (by omega) (by omega)).mono ?_
    rintro e w4 ⟨k, q, rfl, hbk, hk, hq, f4⟩
    have h34 : Fr [] w2 w4 := HX.out.2.1.tr f4
    have HBK := Lib.hid (And.intro hbk (And.intro hk (And.intro hq f4)))
    clear hbk hk hq f4
    go_wp2_with fail
    refine ⟨⟨⟨_, HC.out _ h34⟩, rfl⟩, ?_⟩
    dsimp only
    refine wpQuiet_nil ?_
    go_wp2_with fail
    refine (clk_New w4 4 (by omega) (by omega)).mono ?_
    rintro e w5 ⟨ck, rfl, hck, hcl, f5⟩
    have h35 : Fr [] w2 w5 := h34.tr f5
    have HCK := Lib.hid (And.intro hck (And.intro hcl f5))
    clear hck hcl f5 h34
    go_wp2_with fail
    refine ⟨⟨⟨_, HC.out _ h35⟩, rfl⟩, ?_⟩
    dsimp only
    refine wpQuiet_nil ?_
    go_wp2_with fail
    refine ⟨⟨⟨_, HC.out _ h35⟩, rfl⟩, ?_⟩
    dsimp only
    refine wpQuiet_nil ?_
    go_wp2_with fail
    have h36 : Fr [] w2 (w5.alloc (.cells #[.int .i64 c.wd, .int .i64 c.tr, .int .i64 c.ak, .int .i64 c.po, .int .i64 c.re, .int .i64 c.bu, .int .i64 n, .int .i64 m, .slice (some ⟨g, 0, none⟩) 14 cap, .int .i64 0, .int .i64 0, .int .i64 0, .int .i64 0, .pointer (some ⟨k, 0, none⟩), .pointer (some ⟨bw, 0, none⟩), .pointer (some ⟨ck, 0, none⟩), .int .i64 0, .int .i64 0, .int .i64 0, .bool false, .int .i64 0, .int .i64 0, .int .i64 0, .int .i64 0, .bool false, .bool false, .bool false, .bool false, .bool false, .bool false, .slice none 0 0, .slice none 0 0, .slice none 0 0, .bool false, .pointer none, .bool false, .int .i64 0] 105)) := h35.alloc _
    refine ⟨⟨⟨_, HC.out _ h36⟩, rfl⟩, ?_⟩
    dsimp only
    repeat (go_big_quiet_step (fail))
    refine wpQuiet_nil ?_
    go_wp2
    go_ret2
    obtain ⟨hbk, hk, hq, f4⟩ := HBK.out
    obtain ⟨hck, hcl, f5⟩ := HCK.out
    obtain ⟨F3, hpt, htab, hbw3, hlo, hbwl⟩ := HX.out
    have fa : Fr [] w5 (w5.alloc (.cells #[.int .i64 c.wd, .int .i64 c.tr, .int .i64 c.ak, .int .i64 c.po, .int .i64 c.re, .int .i64 c.bu, .int .i64 n, .int .i64 m, .slice (some ⟨g, 0, none⟩) 14 cap, .int .i64 0, .int .i64 0, .int .i64 0, .int .i64 0, .pointer (some ⟨k, 0, none⟩), .pointer (some ⟨bw, 0, none⟩), .pointer (some ⟨ck, 0, none⟩), .int .i64 0, .int .i64 0, .int .i64 0, .bool false, .int .i64 0, .int .i64 0, .int .i64 0, .int .i64 0, .bool false, .bool false, .bool false, .bool false, .bool false, .bool false, .slice none 0 0, .slice none 0 0, .slice none 0 0, .bool false, .pointer none, .bool false, .int .i64 0] 105)) := (Fr.refl [] w5).alloc _
    have f3a := (f4.tr f5).tr fa
    have s3 := F3.size
    have s4 := f4.size
    have s5 := f5.size
    have sa := fa.size
    refine ⟨⟨w5.heap.size, k, q, bw, ck, bs 14, w3.heap.size, w.heap.size, .slice (some ⟨g, 0, none⟩) 14 cap, .pointer none, 0, Sl.nil, Sl.nil, Sl.nil, Sl.nil, Sl.nil⟩, rfl, ⟨Blk.new w5 _ _, (hbk.fr0 f5).fr0 fa, hbw3.fr f3a (by simp), hck.fr fa (by simp), RowG.nil, World.ownsRow_nil _ _ _ _, RowG.nil, by simp [Sl.blk, Sl.nil], htab.fr f3a (by simp), f3a.size, ?_, rfl, s3, ?_⟩, rfl, rfl, F3.tr f3a⟩
    · intro x hx
      simp only [TV.foot, List.mem_cons, List.mem_append, Sl.blk, Sl.nil, List.not_mem_nil, or_false] at hx
      show x < bs 14 ∨ w3.heap.size ≤ x
      rcases hx with rfl | rfl | rfl | rfl | rfl <;> omega
    · intro x hx
      have := HBW.out.2
      simp only [TV.foot, List.mem_cons, List.mem_append, Sl.blk, Sl.nil, List.not_mem_nil, or_false] at hx
      show w.heap.size ≤ x
      rcases hx with rfl | rfl | rfl | rfl | rfl <;> omega
end Go.Proofs.YtneggoonlmmjeaaGreat
namespace Go.Proofs.YtneggoonlmmjeaaGreat
open Go.RowKit Go.Shelf
set_option linter.unusedVariables false
set_option linter.unusedSimpArgs false
set_option maxRecDepth 100000

theorem nodup_len : ∀ {l M : List Int}, l.Nodup → (∀ x ∈ l, x ∈ M) → l.length ≤ M.length
  | [], _, _, _ => Nat.zero_le _
  | a :: l, M, h, hs => by
    have h1 : l.Nodup := (List.nodup_cons.1 h).2
    have h2 : a ∉ l := (List.nodup_cons.1 h).1
    have ha : a ∈ M := hs a (by simp)
    have := nodup_len (l := l) (M := M.erase a) h1 fun x hx => (List.mem_erase_of_ne (show x ≠ a from fun e => by subst e; exact h2 hx)).2 (hs x (by simp [hx]))
    rw [List.length_erase_of_mem ha] at this
    have := List.length_pos_of_mem ha
    simp only [List.length_cons]
    omega
theorem tstop_nil (k : Int) : tstop [] k = [] := rfl
theorem tstop_cons (x : Int × Int) (r : TL) (k : Int) : tstop (x :: r) k = if x.1 = k then r else x :: tstop r k := by
  unfold tstop
  by_cases h : x.1 = k
  · simp [List.findIdx?_cons, h]
  · simp only [List.findIdx?_cons, h, if_false, beq_iff_eq]
    cases hf : List.findIdx? (fun y => y.1 == k) r with
    | none => simp
    | some i => simp
theorem tleft_nil (k : Int) : tleft [] k = 0 := rfl
theorem tleft_cons (x : Int × Int) (r : TL) (k : Int) : tleft (x :: r) k = if x.1 = k then x.2 else tleft r k := by
  unfold tleft
  by_cases h : x.1 = k
  · simp [List.findIdx?_cons, h]
  · simp only [List.findIdx?_cons, h, if_false, beq_iff_eq]
    cases hf : List.findIdx? (fun y => y.1 == k) r with
    | none => simp
    | some i => simp
theorem tstop_sub {k : Int} : ∀ {l : TL} {x : Int × Int}, x ∈ tstop l k → x ∈ l
  | [], x, h => h
  | y :: r, x, h => by
    rw [tstop_cons] at h
    split at h
    · exact List.mem_cons_of_mem _ h
    · rcases List.mem_cons.1 h with rfl | h
      · simp
      · exact List.mem_cons_of_mem _ (tstop_sub h)
theorem tstop_keys {k : Int} : ∀ {l : TL}, (l.map (·.1)).Nodup → ((tstop l k).map (·.1)).Nodup ∧ ∀ x ∈ tstop l k, x.1 ≠ k
  | [], h => ⟨h, by simp [tstop_nil]⟩
  | y :: r, h => by
    rw [List.map_cons, List.nodup_cons] at h
    obtain ⟨h1, h2⟩ := h
    rw [tstop_cons]
    split
    · rename_i e
      exact ⟨h2, fun x hx e2 => h1 (List.mem_map.2 ⟨x, hx, e2.trans e.symm⟩)⟩
    · rename_i e
      obtain ⟨h3, h4⟩ := tstop_keys (k := k) h2
      refine ⟨?_, fun x hx => ?_⟩
      · rw [List.map_cons, List.nodup_cons]
        refine ⟨fun hm => ?_, h3⟩
        obtain ⟨x, hx, e2⟩ := List.mem_map.1 hm
        exact h1 (List.mem_map.2 ⟨x, tstop_sub hx, e2⟩)
      · rcases List.mem_cons.1 hx with rfl | hx
        · exact e
        · exact h4 x hx
theorem tidx_neg {l : TL} {k : Int} (h : tidx l k < 0) : tstop l k = l ∧ tleft l k = 0 := by
  rcases tidx_cases l k with ⟨_, _, e1, e2⟩ | ⟨i, _, _, e, _⟩
  · exact ⟨e1, e2⟩
  · omega

/-- Timers as they may be. -/
def TmOk (l : TL) : Prop := (l.map (·.1)).Nodup ∧ ∀ x ∈ l, 29 ≤ x.1 ∧ x.1 ≤ 32 ∧ 1 ≤ x.2 ∧ x.2 ≤ 10000
theorem TmOk.stop {l : TL} (h : TmOk l) (k : Int) : TmOk (tstop l k) := ⟨(tstop_keys h.1).1, fun x hx => h.2 x (tstop_sub hx)⟩
theorem TmOk.nil : TmOk [] := ⟨by simp, by simp⟩
theorem TmOk.start {l : TL} (h : TmOk l) (k v : Int) (hk : 29 ≤ k) (hk2 : k ≤ 32) (hv : 1 ≤ v) (hv2 : v ≤ 10000) : TmOk (tstop l k ++ [(k, v)]) := by
  obtain ⟨h1, h2⟩ := tstop_keys (k := k) h.1
  refine ⟨?_, fun x hx => ?_⟩
  · rw [List.map_append, List.nodup_append]
    refine ⟨h1, by simp, fun a ha b hb => ?_⟩
    obtain ⟨x, hx, e⟩ := List.mem_map.1 ha
    simp at hb
    rw [hb, ← e]
    exact h2 x hx
  · rcases List.mem_append.1 hx with hx | hx
    · exact h.2 x (tstop_sub hx)
    · simp at hx
      subst hx
      exact ⟨hk, hk2, hv, hv2⟩
theorem TmOk.len {l : TL} (h : TmOk l) : l.length ≤ 4 := by
  have := nodup_len (l := l.map (·.1)) (M := [29, 30, 31, 32]) h.1 fun x hx => by
    obtain ⟨y, hy, rfl⟩ := List.mem_map.1 hx
    have := h.2 y hy
    simp only [List.mem_cons, List.not_mem_nil, or_false]
    omega
  simpa using this
theorem TmOk.room {l : TL} (h : TmOk l) {k : Int} (hk : 29 ≤ k) (hk2 : k ≤ 32) : (tstop l k).length < 4 := by
  obtain ⟨h1, h2⟩ := tstop_keys (k := k) h.1
  have := nodup_len (l := (tstop l k).map (·.1)) (M := [29, 30, 31, 32].erase k) h1 fun x hx => by
    obtain ⟨y, hy, rfl⟩ := List.mem_map.1 hx
    have h3 := h.2 y (tstop_sub hy)
    have h4 := h2 y hy
    rw [List.mem_erase_of_ne h4]
    simp only [List.mem_cons, List.not_mem_nil, or_false]
    omega
  have e : ([29, 30, 31, 32].erase k : List Int).length = 3 := by
    rw [List.length_erase_of_mem (by simp only [List.mem_cons, List.not_mem_nil, or_false]; omega)]; rfl
  rw [e, List.length_map] at this
  omega

theorem wfin_ok {m n : Int} : ∀ (k : Nat) (s : WS), 1 ≤ s.d ∧ s.d ≤ m ∧ 0 ≤ s.c ∧ s.c < s.d → 1 ≤ (wfin m n k s).d ∧ (wfin m n k s).d ≤ m ∧ 0 ≤ (wfin m n k s).c ∧ (wfin m n k s).c < (wfin m n k s).d
  | 0, s, h => h
  | k + 1, s, h => by
    simp only [wfin]
    split
    · rename_i hc
      refine wfin_ok k _ ?_
      unfold WS.next
      split
      · simp only; omega
      · simp only; omega
    · exact h

/-- What is always so of a connection; j: how often it counted; k: how much it hands out. -/
structure Inv (j k : Nat) (m : TM) : Prop where
  st : 0 ≤ m.state ∧ m.state < 14
  cw : 1 ≤ m.cw ∧ m.cw ≤ 64
  ct : 1 ≤ m.ct ∧ m.ct ≤ 100
  ti : tick m.ca ∧ tick m.cp ∧ tick m.cr ∧ tick m.cb
  vs : 0 ≤ m.vs ∧ m.vs < 128
  vr : 0 ≤ m.vr ∧ m.vr < 128
  va : 0 ≤ m.va ∧ m.va < 128
  dist : (m.out : Int) = (m.vs - m.va) % 128
  out : m.out ≤ m.q.length
  q : m.q.length ≤ 64
  sdu : ∀ x ∈ m.q, x.length ≤ 1024
  wide : 1 ≤ m.wide ∧ m.wide ≤ m.cw ∧ 0 ≤ m.count ∧ m.count < m.wide
  own : 0 ≤ m.own ∧ m.own < 4294967296
  other : 0 ≤ m.other ∧ m.other < 4294967296
  num : 0 ≤ m.num ∧ m.num < 4294967296
  epoch : 0 ≤ m.epoch ∧ m.epoch ≤ j
  retries : 0 ≤ m.retries ∧ m.retries ≤ j
  tm : TmOk m.tm
  send : m.send.length ≤ 65 * k
  say : m.say.length ≤ k
  took : m.took.length ≤ k
  p : ∀ d, m.p = some d → d.info.length ≤ 100000
theorem Inv.mono {j k j' k' : Nat} {m : TM} (h : Inv j k m) (hj : j ≤ j') (hk : k ≤ k') : Inv j' k' m :=
  { h with epoch := ⟨h.epoch.1, by have := h.epoch.2; omega⟩, retries := ⟨h.retries.1, by have := h.retries.2; omega⟩, send := by have := h.send; omega, say := by have := h.say; omega, took := by have := h.took; omega }
theorem Inv.tick {j k : Nat} {m : TM} (h : Inv j k m) (x : Int) : tick (ticksM m x) := by
  obtain ⟨a, b, c, d⟩ := h.ti
  unfold ticksM
  split
  · exact a
  · split
    · exact b
    · split
      · exact c
      · exact d
theorem Inv.sendM {j k : Nat} {m : TM} (h : Inv j k m) (d : PD) : Inv (j + 1) (k + 1) (sendM m d) :=
  { h.mono (Nat.le_succ j) (Nat.le_succ k) with send := by show (m.send ++ [_]).length ≤ _; rw [List.length_append]; have := h.send; simp only [List.length_cons, List.length_nil]; omega }
theorem Inv.sayM {j k : Nat} {m : TM} (h : Inv j k m) (a : Int) : Inv (j + 1) (k + 1) (sayM m a) :=
  { h.mono (Nat.le_succ j) (Nat.le_succ k) with say := by show (m.say ++ [a]).length ≤ _; rw [List.length_append]; have := h.say; simp only [List.length_cons, List.length_nil]; omega }
theorem Inv.startM {j k : Nat} {m : TM} (h : Inv j k m) {x : Int} (hx : 29 ≤ x) (hx2 : x ≤ 32) : Inv j k (startM m x) :=
  { h with tm := h.tm.start x _ hx hx2 (h.tick x).1 (h.tick x).2 }
theorem Inv.tmS {j k : Nat} {m : TM} (h : Inv j k m) {l : TL} (hl : TmOk l) : Inv j k { m with tm := l } := { h with tm := hl }
theorem Inv.one {j k : Nat} {m : TM} (h : Inv j k m) : Inv (j + 1) (k + 1) m := h.mono (Nat.le_succ _) (Nat.le_succ _)

theorem Inv.pushS {j k : Nat} {m : TM} (h : Inv j k m) (hm : mayPush m) {n : Nat} (hn : m.send.length + n ≤ 65 * k) (h1 : 0 < n) : Inv j k (pushS m) := by
  obtain ⟨k1, k2, k3⟩ := hm
  refine { h with vs := ?_, dist := ?_, out := ?_, send := ?_ }
  · show 0 ≤ (m.vs + 1) % 128 ∧ (m.vs + 1) % 128 < 128
    omega
  · show ((m.out + 1 : Nat) : Int) = ((m.vs + 1) % 128 - m.va) % 128
    have := h.dist; have := h.wide.2.1; have := h.cw.2
    omega
  · exact k3
  · show (m.send ++ [_]).length ≤ _
    rw [List.length_append]; simp only [List.length_cons, List.length_nil]; omega
theorem Inv.pushL {j k : Nat} : ∀ (n : Nat) {m : TM}, Inv j k m → m.send.length + n ≤ 65 * k → Inv j k (pushL n m)
  | 0, m, h, _ => h
  | n + 1, m, h, hn => by
    simp only [Go.Proofs.YtneggoonlmmjeaaGreat.pushL]
    split
    · rename_i hm
      refine Inv.pushL n (h.pushS hm (n := n + 1) hn (by omega)) ?_
      show (m.send ++ [_]).length + n ≤ _
      rw [List.length_append]; simp only [List.length_cons, List.length_nil]; omega
    · exact h
theorem Inv.pushM {j k : Nat} {m : TM} (h : Inv j k m) : Inv (j + 1) (k + 1) (pushM m) := by
  have h1 : Inv (j + 1) (k + 1) (Go.Proofs.YtneggoonlmmjeaaGreat.pushL (m.q.length - m.out) m) := Inv.pushL _ h.one (by have := h.send; have := h.q; omega)
  unfold Go.Proofs.YtneggoonlmmjeaaGreat.pushM
  dsimp only
  split
  · exact h1.startM (by omega) (by omega)
  · exact h1
theorem Inv.pushP {j k : Nat} {m : TM} (h : Inv j k m) (hk : k ≤ 1000) : pushP m where
  tm := by have := h.tm.len; omega
  q := by have := h.q; omega
  out := h.out
  dist := h.dist
  wide := by have := h.wide.2.1; have := h.cw.2; omega
  sdu := fun x hx => by have := h.sdu x hx; omega
  send := by have := h.send; have := h.q; omega
  ca1 := h.ti.1.1
  ca2 := h.ti.1.2
  room := h.tm.room (by omega) (by omega)
theorem Inv.ackP {j k : Nat} {m : TM} (h : Inv j k m) : ackP m :=
  ⟨by have := h.tm.len; omega, by have := h.q; omega, h.out, h.dist, h.cw.2, by have := h.wide; omega, h.wide.2.2.1, by have := h.wide; have := h.cw.2; omega, h.ti.1.1, h.ti.1.2, h.tm.room (by omega) (by omega)⟩
theorem ack_cases (s a n : Int) : (ackN s a n = -1 ∧ ackA s a n = a) ∨ (0 ≤ n ∧ n ≤ 127 ∧ (n - a) % 128 ≤ (s - a) % 128 ∧ ackN s a n = (n - a) % 128 ∧ ackA s a n = n) := by
  unfold ackN ackA
  split
  · rename_i h; exact .inr ⟨h.1, h.2.1, h.2.2, rfl, rfl⟩
  · exact .inl ⟨rfl, rfl⟩
theorem Inv.ackM {j k : Nat} {m : TM} (h : Inv j k m) : Inv (j + 1) (k + 1) (ackM m) := by
  have h1 := h.one
  unfold Go.Proofs.YtneggoonlmmjeaaGreat.ackM
  split
  · exact h1
  · rename_i d _
    have hva := h.va
    have hvs := h.vs
    have hd := h.dist
    rcases ack_cases m.vs m.va d.nr with ⟨e1, e2⟩ | ⟨n0, n1, n2, e1, e2⟩
    · rw [if_pos (by omega), e2]
      exact h1
    · split
      · rename_i hlt
        have : d.nr = m.va := by omega
        rw [e2, this]
        exact h1
      · have hack : Inv (j + 1) (k + 1) (ackedM m d.nr (ackN m.vs m.va d.nr).toNat) := by
          refine { h1 with va := ?_, dist := ?_, out := ?_, q := ?_, sdu := ?_, wide := ?_, retries := ?_, tm := h.tm.stop 29 }
          · show 0 ≤ d.nr ∧ d.nr < 128
            omega
          · show ((m.out - (ackN m.vs m.va d.nr).toNat : Nat) : Int) = (m.vs - d.nr) % 128
            rw [e1]; omega
          · show m.out - (ackN m.vs m.va d.nr).toNat ≤ (m.q.drop (ackN m.vs m.va d.nr).toNat).length
            rw [List.length_drop]
            have := h.out
            omega
          · show (m.q.drop (ackN m.vs m.va d.nr).toNat).length ≤ 64
            rw [List.length_drop]
            have := h.q
            omega
          · exact fun x hx => h.sdu x (List.mem_of_mem_drop hx)
          · have hw := h.wide
            have := wfin_ok (m := m.cw) (n := ((ackN m.vs m.va d.nr).toNat : Int)) ((((ackN m.vs m.va d.nr).toNat : Nat) : Int).toNat) ⟨m.wide, m.count, 0⟩ ⟨hw.1, hw.2.1, hw.2.2.1, hw.2.2.2⟩
            exact ⟨this.1, this.2.1, this.2.2.1, this.2.2.2⟩
          · show (0 : Int) ≤ 0 ∧ (0 : Int) ≤ _
            omega
        split
        · exact hack.startM (by omega) (by omega)
        · exact hack
theorem Inv.takeM {j k : Nat} {m : TM} (h : Inv j k m) : Inv (j + 1) (k + 1) (takeM m) := by
  unfold Go.Proofs.YtneggoonlmmjeaaGreat.takeM
  split
  · exact h.one
  · rename_i d _
    refine { h.one with vr := ?_, took := ?_ }
    · show 0 ≤ (m.vr + 1) % 128 ∧ (m.vr + 1) % 128 < 128
      omega
    · show (m.took ++ [_]).length ≤ _
      rw [List.length_append]; have := h.took; simp only [List.length_cons, List.length_nil]; omega
theorem Inv.goBackM {j k : Nat} {m : TM} (h : Inv j k m) : Inv (j + 1) (k + 1) (goBackM m) :=
  { h.one with vs := h.va, dist := (by show ((0 : Nat) : Int) = (m.va - m.va) % 128; omega), out := Nat.zero_le _, tm := h.tm.stop 29 }
theorem Inv.clearM {j k : Nat} {m : TM} (h : Inv j k m) : Inv (j + 1) (k + 1) (clearM m) :=
  { h.one with vs := (by show (0 : Int) ≤ 0 ∧ (0 : Int) < 128; omega), vr := (by show (0 : Int) ≤ 0 ∧ (0 : Int) < 128; omega), va := (by show (0 : Int) ≤ 0 ∧ (0 : Int) < 128; omega), dist := (by show ((0 : Nat) : Int) = (0 - 0) % 128; omega), out := Nat.zero_le _, q := Nat.zero_le _, sdu := (by intro x hx; cases hx), wide := ⟨h.cw.1, Int.le_refl _, Int.le_refl _, (by show (0 : Int) < m.cw; have := h.cw.1; omega)⟩, epoch := (by show 0 ≤ m.epoch + 1 ∧ m.epoch + 1 ≤ ((j + 1 : Nat) : Int); have := h.epoch; omega) }

/-- The actions that may be done, without or with what is heard. -/
def actOk (a : Int) : Bool := decide (0 ≤ a) && decide (a ≤ 34) && decide (a ≠ 4) && decide (a ≠ 11)
def needP (a : Int) : Bool := decide (a = 18) || decide (a = 19)
theorem Inv.act {j k : Nat} {m : TM} (h : Inv j k m) {a : Int} (ha : actOk a = true) : Inv (j + 1) (k + 1) (act a m) := by
  have key : ∀ b : Int, actOk b = true → b ∈ [0, 1, 2, 3, 5, 6, 7, 8, 9, 10, 12, 13, 14, 15, 16, 17, 18, 19, 20, 21, 22, 23, 24, 25, 26, 27, 28, 29, 30, 31, 32, 33, (34 : Int)] := fun b hb => by
    simp only [actOk, Bool.and_eq_true, decide_eq_true_eq] at hb
    simp only [List.mem_cons, List.not_mem_nil, or_false]
    omega
  have hm := key a ha
  simp only [List.mem_cons, List.not_mem_nil, or_false] at hm
  rcases hm with rfl | rfl | rfl | rfl | rfl | rfl | rfl | rfl | rfl | rfl | rfl | rfl | rfl | rfl | rfl | rfl | rfl | rfl | rfl | rfl | rfl | rfl | rfl | rfl | rfl | rfl | rfl | rfl | rfl | rfl | rfl | rfl | rfl
  · exact h.sendM _
  · exact h.sendM _
  · exact h.sendM _
  · exact h.sendM _
  · exact h.sayM _
  · exact h.sayM _
  · exact h.sayM _
  · exact h.sayM _
  · exact h.sayM _
  · exact h.clearM
  · exact h.one.tmS TmOk.nil
  · exact h.one.startM (by omega) (by omega)
  · exact h.one.startM (by omega) (by omega)
  · exact h.one.startM (by omega) (by omega)
  · exact h.one.tmS (h.tm.stop 31)
  · exact h.one.startM (by omega) (by omega)
  · exact h.takeM
  · exact h.ackM
  · exact { h.one with tm := h.tm.stop 32 }
  · exact { h.one with }
  · exact h.goBackM
  · exact h.sendM _
  · exact h.sendM _
  · exact h.sendM _
  · exact h.sendM _
  · exact h.sendM _
  · exact h.sendM _
  · exact (h.sendM _).tmS (h.tm.stop 29)
  · exact (h.sendM _).tmS (h.tm.stop 29)
  · exact h.pushM
  · exact { h.one with retries := (by show 0 ≤ m.retries + 1 ∧ m.retries + 1 ≤ ((j + 1 : Nat) : Int); have := h.retries; omega) }
  · exact { h.one with retries := (by show (0 : Int) ≤ 0 ∧ (0 : Int) ≤ ((j + 1 : Nat) : Int); omega), tm := h.tm.stop 30 }
  · exact { h.one with wide := (by show (1 : Int) ≤ 1 ∧ 1 ≤ m.cw ∧ (0 : Int) ≤ 0 ∧ (0 : Int) < 1; have := h.cw; omega) }
theorem Inv.pre {j k : Nat} {m : TM} (h : Inv j k m) (hj : j ≤ 1000000) (hk : k ≤ 1000) {a : Int} (ha : actOk a = true) (hp : needP a = true → ∃ d, m.p = some d) : pre a m := by
  have key : ∀ b : Int, actOk b = true → b ∈ [0, 1, 2, 3, 5, 6, 7, 8, 9, 10, 12, 13, 14, 15, 16, 17, 18, 19, 20, 21, 22, 23, 24, 25, 26, 27, 28, 29, 30, 31, 32, 33, (34 : Int)] := fun b hb => by
    simp only [actOk, Bool.and_eq_true, decide_eq_true_eq] at hb
    simp only [List.mem_cons, List.not_mem_nil, or_false]
    omega
  have hm := key a ha
  have h1 := h.send
  have h2 := h.say
  have h3 := h.took
  have h4 := h.tm.len
  have h5 := h.q
  have h6 := h.epoch
  have h7 := h.retries
  have hs : m.send.length ≤ 100000 := by omega
  have hy : m.say.length ≤ 100000 := by omega
  have ht : m.tm.length ≤ 1000 := by omega
  have rm : ∀ x, 29 ≤ x → x ≤ 32 → (m.tm.length ≤ 1000 ∧ 1 ≤ ticksM m x ∧ ticksM m x ≤ 10000 ∧ (tidx m.tm x < 0 → (m.tm.length : Int) < 4)) := fun x hx hx2 => ⟨ht, (h.tick x).1, (h.tick x).2, fun hn => by
    have := h.tm.room hx hx2
    rw [(tidx_neg hn).1] at this
    omega⟩
  simp only [List.mem_cons, List.not_mem_nil, or_false] at hm
  rcases hm with rfl | rfl | rfl | rfl | rfl | rfl | rfl | rfl | rfl | rfl | rfl | rfl | rfl | rfl | rfl | rfl | rfl | rfl | rfl | rfl | rfl | rfl | rfl | rfl | rfl | rfl | rfl | rfl | rfl | rfl | rfl | rfl | rfl
  · exact ⟨hs, h.own⟩
  · exact ⟨hs, h.own⟩
  · exact ⟨hs, h.num⟩
  · exact ⟨hs, h.num⟩
  · exact hy
  · exact hy
  · exact hy
  · exact hy
  · exact hy
  · exact ⟨by omega, by omega, by omega⟩
  · exact ht
  · exact rm 29 (by omega) (by omega)
  · exact rm 30 (by omega) (by omega)
  · exact rm 31 (by omega) (by omega)
  · exact ht
  · exact rm 32 (by omega) (by omega)
  · obtain ⟨d, hd⟩ := hp rfl; exact ⟨by omega, d, hd, h.p d hd⟩
  · obtain ⟨d, hd⟩ := hp rfl; exact ⟨h.ackP, d, hd⟩
  · exact ht
  · exact ht
  · exact ht
  · exact hs
  · exact hs
  · exact hs
  · exact hs
  · exact hs
  · exact hs
  · exact ⟨hs, ht⟩
  · exact ⟨hs, ht⟩
  · exact h.pushP hk
  · exact ⟨by omega, by omega⟩
  · exact ht
  · exact h.cw.1
theorem pushL_p : ∀ (n : Nat) (m : TM), (pushL n m).p = m.p
  | 0, _ => rfl
  | n + 1, m => by
    simp only [pushL]
    split
    · rw [pushL_p n]; rfl
    · rfl
theorem act_p (a : Int) (m : TM) : (act a m).p = m.p := by
  unfold act
  split <;> first | rfl | (unfold peerM; split <;> rfl) | (unfold takeM; split <;> rfl) | (unfold ackM; split <;> first | rfl | (split <;> first | rfl | (split <;> rfl))) | (unfold pushM; dsimp only; split <;> exact pushL_p _ _)
theorem pushL_state : ∀ (n : Nat) (m : TM), (pushL n m).state = m.state
  | 0, _ => rfl
  | n + 1, m => by
    simp only [pushL]
    split
    · rw [pushL_state n]; rfl
    · rfl
theorem act_state (a : Int) (m : TM) : (act a m).state = m.state := by
  unfold act
  split <;> first | rfl | (unfold peerM; split <;> rfl) | (unfold takeM; split <;> rfl) | (unfold ackM; split <;> first | rfl | (split <;> first | rfl | (split <;> rfl))) | (unfold pushM; dsimp only; split <;> exact pushL_state _ _)
theorem Inv.actL {l : List Int} : ∀ {j k : Nat} {m : TM}, Inv j k m → (∀ a ∈ l, actOk a = true) → Inv (j + l.length) (k + l.length) (actL l m) := by
  induction l with
  | nil => intro j k m h _; exact h
  | cons a l ih =>
    intro j k m h ha
    have := ih (h.act (ha a (by simp))) (fun b hb => ha b (by simp [hb]))
    rw [show j + 1 + l.length = j + (a :: l).length by simp; omega, show k + 1 + l.length = k + (a :: l).length by simp; omega] at this
    exact this
theorem Inv.preL {l : List Int} : ∀ {j k : Nat} {m : TM}, Inv j k m → j + l.length ≤ 1000000 → k + l.length ≤ 1000 → (∀ a ∈ l, actOk a = true) → ((∃ a ∈ l, needP a = true) → ∃ d, m.p = some d) → preL l m := by
  induction l with
  | nil => intro j k m _ _ _ _ _; exact trivial
  | cons a l ih =>
    intro j k m h hj hk ha hp
    simp only [List.length_cons] at hj hk
    refine ⟨h.pre (by omega) (by omega) (ha a (by simp)) (fun hn => hp ⟨a, by simp, hn⟩), ?_⟩
    refine ih (h.act (ha a (by simp))) (by omega) (by omega) (fun b hb => ha b (by simp [hb])) (fun ⟨b, hb, hn⟩ => ?_)
    rw [act_p]
    exact hp ⟨b, by simp [hb], hn⟩
theorem Inv.st_ {j k : Nat} {m : TM} (h : Inv j k m) {s : Int} (h0 : 0 ≤ s) (h1 : s < 14) : Inv j k { m with state := s } := { h with st := ⟨h0, h1⟩ }
end Go.Proofs.YtneggoonlmmjeaaGreat
namespace Go.Proofs.YtneggoonlmmjeaaGreat
open Go.RowKit Go.Shelf
set_option linter.unusedVariables false
set_option linter.unusedSimpArgs false
set_option maxRecDepth 100000

def rowOk (s e : Nat) : Bool := (rowsM s e).doL.all (fun a => actOk a && (!needP a || (decide (13 ≤ e) && decide (e ≤ 27)))) && decide ((rowsM s e).doL.length ≤ 10) && decide (0 ≤ (rowsM s e).next) && decide ((rowsM s e).next < 14)
/-- The rows that refuse. -/
def rowFr (s e : Nat) : Bool := decide (e = 28) || (decide (s = 7) && (decide (e = 20) || decide (e = 29)))
set_option maxRecDepth 100000 in
theorem rows_ok : ((List.range 14).all fun s => (List.range 34).all fun e => rowFr s e || rowOk s e) = true := by kernel_rfl
theorem row_ok {s e : Nat} (hs : s < 14) (he : e < 34) (h : rowFr s e = false) : rowOk s e = true := by
  have h1 := rows_ok
  rw [List.all_eq_true] at h1
  have h2 := h1 s (List.mem_range.2 hs)
  rw [List.all_eq_true] at h2
  have h3 := h2 e (List.mem_range.2 he)
  rw [h, Bool.false_or] at h3
  exact h3
structure RowOk (s e : Nat) : Prop where
  act : ∀ a ∈ (rowsM s e).doL, actOk a = true
  p : (∃ a ∈ (rowsM s e).doL, needP a = true) → 13 ≤ e ∧ e ≤ 27
  len : (rowsM s e).doL.length ≤ 10
  next0 : 0 ≤ (rowsM s e).next
  next1 : (rowsM s e).next < 14
theorem RowOk.of {s e : Nat} (hs : s < 14) (he : e < 34) (h : rowFr s e = false) : RowOk s e := by
  have h1 := row_ok hs he h
  simp only [rowOk, Bool.and_eq_true, decide_eq_true_eq, List.all_eq_true, Bool.or_eq_true, Bool.not_eq_true'] at h1
  obtain ⟨⟨⟨h2, h3⟩, h4⟩, h5⟩ := h1
  exact ⟨fun a ha => (h2 a ha).1, fun ⟨a, ha, hn⟩ => by rcases (h2 a ha).2 with h | h; rw [hn] at h; cases h; exact h, h3, h4, h5⟩
theorem deeds_ok {a : Int} (h : actOk a = true) : DeedOk a := by
  have key : ∀ b : Int, actOk b = true → b ∈ [0, 1, 2, 3, 5, 6, 7, 8, 9, 10, 12, 13, 14, 15, 16, 17, 18, 19, 20, 21, 22, 23, 24, 25, 26, 27, 28, 29, 30, 31, 32, 33, (34 : Int)] := fun b hb => by
    simp only [actOk, Bool.and_eq_true, decide_eq_true_eq] at hb
    simp only [List.mem_cons, List.not_mem_nil, or_false]
    omega
  have hm := key a h
  simp only [List.mem_cons, List.not_mem_nil, or_false] at hm
  rcases hm with rfl | rfl | rfl | rfl | rfl | rfl | rfl | rfl | rfl | rfl | rfl | rfl | rfl | rfl | rfl | rfl | rfl | rfl | rfl | rfl | rfl | rfl | rfl | rfl | rfl | rfl | rfl | rfl | rfl | rfl | rfl | rfl | rfl
  · exact deed_0
  · exact deed_1
  · exact deed_2
  · exact deed_3
  · exact deed_5
  · exact deed_6
  · exact deed_7
  · exact deed_8
  · exact deed_9
  · exact deed_10
  · exact deed_12
  · exact deed_13
  · exact deed_14
  · exact deed_15
  · exact deed_16
  · exact deed_17
  · exact deed_18
  · exact deed_19
  · exact deed_20
  · exact deed_21
  · exact deed_22
  · exact deed_23
  · exact deed_24
  · exact deed_25
  · exact deed_26
  · exact deed_27
  · exact deed_28
  · exact deed_29
  · exact deed_30
  · exact deed_31
  · exact deed_32
  · exact deed_33
  · exact deed_34
/-- An event, where all is as it always is. -/
theorem tie_ev (w : World) (v : TV) (m : TM) (s e j k : Nat) (h : IsTie w v m) (hi : Inv j k m) (hst : m.state = (s : Int)) (hs : s < 14) (he : e < 34) (hf : rowFr s e = false) (hj : j + 10 ≤ 1000000) (hk : k + 10 ≤ 1000) (hp : 13 ≤ e ∧ e ≤ 27 → ∃ d, m.p = some d) :
    Calls Tryz.prog 48 #[.pointer (some ⟨v.t, 0, none⟩), .int .i64 (e : Int)] w fun r w' => r = .returned (.tuple #[]) ∧ TieTo w w' v (evM (rowsM s e) m) := by
  have ho := RowOk.of hs he hf
  have := ho.len
  exact tie_event w v m s e h hst hs he (fun a ha => deeds_ok (ho.act a ha)) (hi.preL (by omega) (by omega) ho.act fun hn => hp (ho.p hn)) (by omega)
theorem Inv.evM {j k s e : Nat} {m : TM} (hi : Inv j k m) (ho : RowOk s e) : Inv (j + 10) (k + 10) (evM (rowsM s e) m) :=
  ((hi.actL ho.act).mono (by have := ho.len; omega) (by have := ho.len; omega)).st_ ho.next0 ho.next1
theorem evM_p (r : RowM) (m : TM) : (evM r m).p = m.p := by
  show (actL r.doL m).p = m.p
  generalize r.doL = l
  induction l generalizing m with
  | nil => rfl
  | cons a l ih => exact (ih (act a m)).trans (act_p a m)
end Go.Proofs.YtneggoonlmmjeaaGreat
namespace Go.Proofs.YtneggoonlmmjeaaGreat
open Go.RowKit Go.Shelf
set_option linter.unusedVariables false
set_option linter.unusedSimpArgs false
set_option maxRecDepth 100000

/-- From call to call. -/
structure Turned (w w' : World) (v v' : TV) : Prop where
  t : v'.t = v.t
  n0 : v'.n0 = v.n0
  pp : v'.pp = .pointer none
  fr : Fr v.foot w w'
  new : ∀ x ∈ v'.foot, x ∈ v.foot ∨ w.heap.size ≤ x
  hi : v'.hi = v.hi
theorem Turned.of {w w' : World} {v v' : TV} (h : Went w w' v v') (hp : v'.pp = .pointer none) : Turned w w' v v' := ⟨h.t, TV.fix_n0 h.fix, hp, h.fr, h.new, by have := h.fix; simp only [TV.fix, Prod.mk.injEq] at this; exact this.2.2.2.2.2.2.1⟩
theorem Turned.trans {a b c : World} {v v1 v2 : TV} (h : Turned a b v v1) (k : Turned b c v1 v2) : Turned a c v v2 :=
  ⟨k.t.trans h.t, k.n0.trans h.n0, k.pp, h.fr.trans k.fr h.new, fun x hx => by
    rcases k.new x hx with h1 | h1
    · exact h.new x h1
    · exact .inr (Nat.le_trans h.fr.size h1), k.hi.trans h.hi⟩
theorem Turned.fr0 {a b c : World} {v v1 : TV} (h : Turned a b v v1) (f : Fr [] b c) : Turned a c v v1 := ⟨h.t, h.n0, h.pp, h.fr.tr0 f, h.new, h.hi⟩
theorem Turned.pre {a b c : World} {v v1 : TV} (f : Fr [] a b) (h : Turned b c v v1) : Turned a c v v1 :=
  ⟨h.t, h.n0, h.pp, (f.mono (M := v.foot) (by simp)).trans h.fr (fun x hx => .inl hx), fun x hx => (h.new x hx).imp id (Nat.le_trans f.size), h.hi⟩
/-- What a call hands out, and leaves. -/
def Gives (w : World) (v : TV) (m : TM) (r : Ending) (w' : World) : Prop := ∃ x v', r = .returned x ∧ OutV w' m v'.foot x ∧ IsTie w' v' (clearO m) ∧ Turned w w' v v'
theorem OutV.fr {w w' : World} {m : TM} {F : List Nat} {x : Value} (h : OutV w m F x) (f : Fr [] w w') : OutV w' m F x := by
  obtain ⟨os, oy, ok, h1, h2, h3, h4, h5, h6, h7, h8⟩ := h
  exact ⟨os, oy, ok, h1, h2, h3, h4, h5, PRow.fr f h6, own_fr h7 f, BRow.fr f h8⟩
theorem OutV.frZ {w w' : World} {m : TM} {F : List Nat} {x : Value} {Z : Nat} {cs : Array Value} (h : OutV w m F x) (f : Fr [Z] w w') (hb : Blk w Z cs 36) : OutV w' m F x := by
  obtain ⟨os, oy, ok, h1, h2, h3, h4, h5, h6, h7, h8⟩ := h
  have to : ∀ t, 36 ≠ t → TyOut w [Z] t := fun t ne => TyOut.cons hb ne (TyOut.nil _ _)
  exact ⟨os, oy, ok, h1, h2, h3, h4, h5, h6.ofTy f (to _ (by decide)) (to _ (by decide)), own_ofTy h7 f (to _ (by decide)), h8.frL f (to _ (by decide)) (by obtain ⟨_, ho⟩ := h8.own; exact own_nin ho (to _ (by decide)))⟩

def ownM (m : TM) (n : Int) (l : List Int) : TM := if l.contains 0 || l.contains 1 then { m with own := n, used := true } else m
def doB (m : TM) (e : Nat) (n : Int) : TM := ownM (beginM m none true m.other) n (rowsM m.state.toNat e).doL
def doM (m : TM) (e : Nat) (n : Int) : TM := evM (rowsM m.state.toNat e) (doB m e n)
theorem Inv.beginM {j k k' : Nat} {m : TM} (h : Inv j k m) {p : Option PD} {b : Bool} {n : Int} (hp : ∀ d, p = some d → d.info.length ≤ 100000) (hn : 0 ≤ n ∧ n < 4294967296) : Inv j k' (beginM m p b n) :=
  { h with num := hn, send := Nat.zero_le _, say := Nat.zero_le _, took := Nat.zero_le _, p := hp }
theorem Inv.clearO {j k : Nat} {m : TM} (h : Inv j k m) : Inv j 0 (clearO m) :=
  { h with send := Nat.zero_le _, say := Nat.zero_le _, took := Nat.zero_le _, p := by intro d hd; cases hd }
theorem Inv.ownM {j k : Nat} {m : TM} (h : Inv j k m) {n : Int} (hn : 0 ≤ n ∧ n < 4294967296) (l : List Int) : Inv j k (ownM m n l) := by
  unfold Go.Proofs.YtneggoonlmmjeaaGreat.ownM
  split
  · exact { h with own := hn }
  · exact h
theorem Inv.doB {j k : Nat} {m : TM} (h : Inv j k m) {e : Nat} {n : Int} (hn : 0 ≤ n ∧ n < 4294967296) : Inv j 0 (doB m e n) :=
  (h.beginM (by intro d hd; cases hd) h.other).ownM hn _
theorem ownM_take {m : TM} {n : Int} {l : List Int} {j : Nat} (hj : j < l.length) : ownM m n (l.take (j + 1)) = if l[j] = 0 ∨ l[j] = 1 then { m with own := n, used := true } else ownM m n (l.take j) := by
  unfold ownM
  rw [List.take_add_one, List.getElem?_eq_getElem hj]
  simp only [Option.toList_some, List.contains_eq_any_beq, List.any_append, List.any_cons, List.any_nil, Bool.or_false]
  by_cases h0 : l[j] = 0
  · simp [h0]
  · by_cases h1 : l[j] = 1
    · simp [h1]
    · have e0 : ((0 : Int) == l[j]) = false := by rw [beq_eq_false_iff_ne]; exact fun h => h0 h.symm
      have e1 : ((1 : Int) == l[j]) = false := by rw [beq_eq_false_iff_ne]; exact fun h => h1 h.symm
      simp [h0, h1, e0, e1]

/-- The end of a call: what it came to is laid into its result. -/
theorem gives_end {w w1 w5 w6 w7 : World} {v v6 : TV} {m M : TM} {pv : Value} {Z : Nat} {os oy ok : Sl} (h0 : IsTie w1 v m) (f0 : Fr [] w w1) (hlt : ∀ x ∈ v.foot, x < Z) (hile : v.hi ≤ Z) (hZ : w.heap.size = Z) (hb : Blk w1 Z #[.slice none 0 0, .slice none 0 0, .slice none 0 0, .bool false] 36)
    (W : Went w1 w5 (v.begun pv) v6) (ho : OutV w6 M (v6.begun (.pointer none)).foot (.agg #[.slice os.A M.send.length os.c, .slice oy.A M.say.length oy.c, .slice ok.A M.took.length ok.c, .bool M.used])) (h7 : IsTie w6 (v6.begun (.pointer none)) (clearO M)) (f7 : Fr [v.t] w5 w6)
    (hw : w7 = (((w6.setCell ⟨Z, 0, none⟩ (.slice os.A M.send.length os.c)).setCell ⟨Z, 1, none⟩ (.slice oy.A M.say.length oy.c)).setCell ⟨Z, 2, none⟩ (.slice ok.A M.took.length ok.c)).setCell ⟨Z, 3, none⟩ (.bool M.used)) :
    Blk w7 Z #[.slice os.A M.send.length os.c, .slice oy.A M.say.length oy.c, .slice ok.A M.took.length ok.c, .bool M.used] 36 ∧ Gives w v M (.returned (.agg #[.slice os.A M.send.length os.c, .slice oy.A M.say.length oy.c, .slice ok.A M.took.length ok.c, .bool M.used])) w7 := by
  have hlt1 : Z < w1.heap.size := hb.lt
  have hbz5 := hb.fr W.fr (fun hm => by have := hlt Z (v.begun_foot _ _ hm); omega)
  have hbz := hbz5.fr f7 (fun hm => by simp at hm; have := hlt v.t v.t_foot; omega)
  have hf6 : ∀ x ∈ v6.foot, x ∈ v.foot ∨ w1.heap.size ≤ x := fun x hx => (W.new x hx).imp (v.begun_foot _ x) id
  have ehi : v6.hi = v.hi := by have := W.fix; simp only [TV.fix, Prod.mk.injEq] at this; exact this.2.2.2.2.2.2.1
  obtain ⟨h8, b8, f8⟩ := h7.retW (Z := Z) (fun hm => by
    rcases hf6 Z (v6.begun_foot _ _ hm) with h1 | h1
    · have := hlt Z h1; omega
    · omega) (by show v6.hi ≤ Z; omega) hbz hw
  refine ⟨b8, _, _, rfl, ho.frZ f8 hbz, h8, W.t, (TV.fix_n0 W.fix).trans rfl, rfl, ?_, ?_, by have a := W.fix; simp only [TV.fix, Prod.mk.injEq] at a; exact a.2.2.2.2.2.2.1⟩
  · have a : Fr v.foot w w1 := f0.mono (by simp)
    have b : Fr v.foot w w5 := a.trans W.fr (fun x hx => .inl (v.begun_foot _ x hx))
    have c : Fr v.foot w w6 := b.trans f7 (fun x hx => .inl (by simp at hx; subst hx; exact v.t_foot))
    exact c.trans f8 (fun x hx => .inr (by simp at hx; subst hx; omega))
  · intro x hx
    rcases hf6 x (v6.begun_foot _ x hx) with h1 | h1
    · exact .inl h1
    · exact .inr (by have := f0.size; omega)
theorem ownM_set (m : TM) (n : Int) (l : List Int) : { (ownM m n l) with own := n, used := true } = { m with own := n, used := true } := by unfold ownM; split <;> rfl
theorem fldR0 (x y z : Value) (w : World) : (Instr.field 108 (.agg #[x, y, z]) 0).run Tryz.prog w = .ok x w := by kernel_rfl
theorem fldR2 (x y z : Value) (w : World) : (Instr.field 108 (.agg #[x, y, z]) 2).run Tryz.prog w = .ok z w := by kernel_rfl
attribute [local go_sem] fldR0 fldR2
set_option maxHeartbeats 4000000 in
theorem tie_Do (w : World) (v : TV) (m : TM) (e j k : Nat) (n : Int) (h : IsTie w v m) (hi : Inv j k m) (hn : 0 ≤ n ∧ n < 4294967296) (he : e ≤ 7) (he5 : e ≠ 5) (hj : j + 10 ≤ 1000000) :
    Calls Tryz.prog 15 #[.pointer (some ⟨v.t, 0, none⟩), .int .i64 (e : Int), .int .i64 n] w (Gives w v (doM m e n)) := by
  have d1 : decide ((e : Int) < 0) = false := by simp
  have d2 : decide (7 < (e : Int)) = false := by simp; omega
  have d3 : ((e : Int) == 5) = false := by rw [beq_eq_false_iff_ne]; omega
  obtain ⟨w1, hw1⟩ : ∃ w1, w.alloc (.cells #[.slice none 0 0, .slice none 0 0, .slice none 0 0, .bool false] 36) = w1 := ⟨_, rfl⟩
  obtain ⟨Z, hZ⟩ : ∃ Z, w.heap.size = Z := ⟨_, rfl⟩
  have hb : Blk w1 Z #[.slice none 0 0, .slice none 0 0, .slice none 0 0, .bool false] 36 := by rw [← hw1, ← hZ]; exact Blk.new w _ _
  have f0 : Fr [] w w1 := by rw [← hw1]; exact (Fr.refl [] w).alloc _
  have h0 := h.fr0 f0
  have hlt : ∀ x ∈ v.foot, x < Z := by rw [← hZ]; exact h.lt
  have hile : v.hi ≤ Z := by rw [← hZ]; exact h.hile
  obtain ⟨s, hs⟩ : ∃ s : Nat, m.state = s := ⟨m.state.toNat, by have := hi.st; omega⟩
  have hs14 : s < 14 := by have := hi.st; omega
  have HS := Lib.hid (And.intro hs hs14)
  have HB := Lib.hid hb
  have HZ := Lib.hid hZ
  have H0 := Lib.hid (And.intro h0 (And.intro f0 (And.intro hlt hile)))
  have HI := Lib.hid hi
  have HN := Lib.hid hn
  have HE := Lib.hid (And.intro he he5)
  clear h f0 hb hlt hile hi he he5 hn hs hs14
  go_enter Tryz.func15, Tryz.ntmps15
  go_wp2_with fail
  clear hw1 hZ
  refine (tie_made _ v m h0).mono ?_
  rintro e1 w2 ⟨rfl, rfl⟩
  have c17 := h0.c17
  clear h0
  go_wp2_with fail
  refine (tie_begin _ v m none none true m.other H0.out.1 rfl).mono ?_
  rintro e1 w2 ⟨rfl, h2, f2⟩
  have H2 := Lib.hid (And.intro h2 f2)
  have hrow := tie_row w2 (v.begun (.pointer none)) (beginM m none true m.other) s e h2 HS.out.1 HS.out.2 (by have := HE.out.1; omega)
  clear h2 f2 c17 d1 d2 d3
  go_wp2_with fail
  refine hrow.mono ?_
  rintro e1 w3 ⟨x, rfl, ⟨sl, rfl, hI, hIb⟩, f3⟩
  obtain ⟨r, hr⟩ : ∃ r, rowsM s e = r := ⟨_, rfl⟩
  have HR := Lib.hid hr
  rw [hr] at hI hIb
  simp only [hr]
  have hlen := (RowOk.of HS.out.2 (e := e) (by have := HE.out.1; omega) (by have := HE.out.1; simp [rowFr]; omega)).len
  rw [hr] at hlen
  clear hr
  obtain ⟨acts, next, known⟩ := r
  simp only at hlen
  simp only at hI hIb
  have hn := hI.n_
  obtain ⟨A, nn, c⟩ := sl
  simp only at hn
  subst hn
  have h3 := H2.out.1.fr0 f3
  have H3 := Lib.hid (And.intro h3 (And.intro f3 (And.intro hI hIb)))
  clear h3 f3 hI hIb hrow
  go_wp2
  go_loopw [36] (fun i wr => ∃ j : Nat, i = .int .i64 j ∧ j ≤ acts.length ∧ IsTie wr (v.begun (.pointer none)) (ownM (beginM m none true m.other) n (acts.take j)) ∧ Fr [v.t] w3 wr) (fun i _ => acts.length - (intOf i).toNat)
  case atStart => exact ⟨0, rfl, by omega, H3.out.1, Fr.refl _ _⟩
  case round =>
    obtain ⟨q, rfl, hq, h4, f4⟩ := hrel
    by_cases hlt : q < acts.length
    · have d1 : (q : Int) < (acts.length : Int) := by omega
      have d2 : q < acts.length := hlt
      obtain ⟨b, off, hA, hc⟩ := H3.out.2.2.1.each q hlt
      simp only at hA
      subst hA
      have hbl := H3.out.2.2.2 (fun e => by rw [e] at hlt; simp at hlt) _ _ _ rfl
      simp only at hbl
      have hbt : b ∉ [v.t] := fun hm => by
        simp at hm
        subst hm
        rcases h4.lohi _ (TV.t_foot _) with h1 | h1
        · exact Nat.lt_irrefl _ (Nat.lt_of_lt_of_le h1 hbl.1)
        · exact Nat.lt_irrefl _ (Nat.lt_of_lt_of_le hbl.2 h1)
      have hcell := f4.cell hc hbt
      have htk := ownM_take (m := beginM m none true m.other) (n := n) hlt
      have H4 := Lib.hid (And.intro h4 f4)
      have HTK := Lib.hid htk
      have c16 := h4.c16
      have z16 := h4.z 16
      obtain ⟨h5, f5⟩ := h4.set1 16 (.int .i64 n) { (ownM (beginM m none true m.other) n (acts.take q)) with own := n } rfl rfl
      have c33 := h5.c33
      have z33 := h5.z 33
      obtain ⟨h6, f6⟩ := h5.set1 33 (.bool true) { (ownM (beginM m none true m.other) n (acts.take q)) with own := n, used := true } rfl rfl
      rw [show ({ (ownM (beginM m none true m.other) n (acts.take q)) with own := n, used := true } : TM) = { beginM m none true m.other with own := n, used := true } from ownM_set _ _ _] at h6
      have H6 := Lib.hid (show IsTie ((wr.setCell ⟨v.t, 16, none⟩ (.int .i64 n)).setCell ⟨v.t, 33, none⟩ (.bool true)) (v.begun (.pointer none)) { beginM m none true m.other with own := n, used := true } ∧ Fr [v.t] wr ((wr.setCell ⟨v.t, 16, none⟩ (.int .i64 n)).setCell ⟨v.t, 33, none⟩ (.bool true)) from ⟨h6, f5.tr f6⟩)
      have hw : IntKind.i64.wrap ((q : Int) + 1) = (q : Int) + 1 := IntWalk.i64_in _ (by omega)
      clear htk hc h4 f4 h5 f5 h6 f6 hbl hbt
      generalize acts[q] = a at *
      have et : (v.begun (.pointer none)).t = v.t := rfl
      rw [et] at c16 z16 c33 z33
      by_cases a0 : a = 0
      · have e0 : (a == 0) = true := by rw [beq_iff_eq]; exact a0
        have HA := Lib.hid (show a = 0 ∨ a = 1 from .inl a0)
        clear a0
        go_wp2
        go_roundw
        case rel => exact ⟨q + 1, by go_num, by omega, by rw [HTK.out, if_pos HA.out]; exact H6.out.1, H4.out.2.tr H6.out.2⟩
        case measure => simp [intOf]; omega
      · have e0 : (a == 0) = false := by rw [beq_eq_false_iff_ne]; exact a0
        by_cases a1 : a = 1
        · have e1 : (a == 1) = true := by rw [beq_iff_eq]; exact a1
          have HA := Lib.hid (show a = 0 ∨ a = 1 from .inr a1)
          clear a0 a1
          go_wp2
          go_roundw
          case rel => exact ⟨q + 1, by go_num, by omega, by rw [HTK.out, if_pos HA.out]; exact H6.out.1, H4.out.2.tr H6.out.2⟩
          case measure => simp [intOf]; omega
        · have e1 : (a == 1) = false := by rw [beq_eq_false_iff_ne]; exact a1
          have HA := Lib.hid (show ¬ (a = 0 ∨ a = 1) from fun h => h.elim a0 a1)
          clear a0 a1
          go_wp2
          go_roundw
          case rel => exact ⟨q + 1, by go_num, by omega, by rw [HTK.out, if_neg HA.out]; exact H4.out.1, H4.out.2⟩
          case measure => simp [intOf]; omega
    · have d1 : ¬ (q : Int) < (acts.length : Int) := by omega
      have hqe : q = acts.length := by omega
      subst hqe
      rw [List.take_length] at h4
      have hst := HS.out.1
      have hs14 := HS.out.2
      have hR := HR.out
      have eB : ownM (beginM m none true m.other) n acts = doB m e n := by
        unfold doB
        rw [hst, Int.toNat_natCast, hR]
      rw [eB] at h4
      have hIB : Inv j 0 (doB m e n) := HI.out.doB HN.out
      have hsB : (doB m e n).state = (s : Int) := by
        rw [← hst]
        unfold doB ownM
        split <;> rfl
      have hev := tie_ev wr (v.begun (.pointer none)) (doB m e n) s e j 0 h4 hIB hsB hs14 (by have := HE.out.1; omega) (by have := HE.out.1; simp [rowFr]; omega) hj (by omega) (fun h => by have := HE.out.1; omega)
      have eM : evM (rowsM s e) (doB m e n) = doM m e n := by
        unfold doM
        rw [hst, Int.toNat_natCast]
      rw [eM] at hev
      have W4 : Went w1 wr (v.begun (.pointer none)) (v.begun (.pointer none)) := ((Went.of (Fr.foot (v := v.begun (.pointer none)) H2.out.2)).fr0 H3.out.2.1).same (Fr.foot (v := v.begun (.pointer none)) f4)
      have HW := Lib.hid W4
      have hev := (hev : Calls Tryz.prog _ #[.pointer (some ⟨v.t, 0, none⟩), .int .i64 (e : Int)] wr _)
      clear h4 f4 hst hs14 hR eB hIB hsB eM W4
      go_wp2_with fail
      refine hev.mono ?_
      rintro e5 w5 ⟨rfl, ht⟩
      obtain ⟨v6, h6, W6⟩ := HW.out.step ht
      have hend := tie_end w5 v6 (doM m e n) h6
      rw [show v6.t = v.t from W6.t] at hend
      have HW6 := Lib.hid W6
      clear ht h6 W6 hev
      go_wp2_with fail
      refine hend.mono ?_
      rintro e6 w6 ⟨x, rfl, ho, h7, f7⟩
      have ho' := ho
      obtain ⟨os, oy, ok, -, rfl, -⟩ := ho
      have hlz : Z ∉ [v.t] := fun hm => by simp at hm; have := H0.out.2.2.1 v.t v.t_foot; omega
      have hbz := (HB.out.fr HW6.out.fr (fun hm => by have := H0.out.2.2.1 Z (v.begun_foot _ _ hm); omega)).fr f7 hlz
      have HEND := Lib.hid (gives_end (w7 := (((w6.setCell ⟨Z, 0, none⟩ (.slice os.A (doM m e n).send.length os.c)).setCell ⟨Z, 1, none⟩ (.slice oy.A (doM m e n).say.length oy.c)).setCell ⟨Z, 2, none⟩ (.slice ok.A (doM m e n).took.length ok.c)).setCell ⟨Z, 3, none⟩ (.bool (doM m e n).used)) H0.out.1 H0.out.2.1 H0.out.2.2.1 H0.out.2.2.2 HZ.out HB.out HW6.out ho' h7 f7 rfl)
      have y0 := hbz.cell 0 rfl
      have y1 := hbz.cell 1 rfl
      have y2 := hbz.cell 2 rfl
      have y3 := hbz.cell 3 rfl
      have x0 := hbz.free 0
      have x1 := hbz.free 1
      have x2 := hbz.free 2
      have x3 := hbz.free 3
      simp only [List.getElem_toArray, List.getElem_cons_zero, List.getElem_cons_succ] at y0 y1 y2 y3
      clear ho' h7 f7 hlz hbz hend
      go_wp2
      obtain ⟨b8, hg⟩ := HEND.out
      have g0 := b8.cell 0 rfl
      have g1 := b8.cell 1 rfl
      have g2 := b8.cell 2 rfl
      have g3 := b8.cell 3 rfl
      simp only [List.getElem_toArray, List.getElem_cons_zero, List.getElem_cons_succ] at g0 g1 g2 g3
      exact bodyPost_ret (v := .agg #[.slice os.A (doM m e n).send.length os.c, .slice oy.A (doM m e n).say.length oy.c, .slice ok.A (doM m e n).took.length ok.c, .bool (doM m e n).used]) (by simp [results, Tryz.results15, go_sem, g0, g1, g2, g3]) rfl hg
end Go.Proofs.YtneggoonlmmjeaaGreat
namespace Go.Proofs.YtneggoonlmmjeaaGreat
open Go.RowKit Go.Shelf
set_option linter.unusedVariables false
set_option linter.unusedSimpArgs false
set_option maxRecDepth 100000
attribute [local go_sem] fldR0 fldR2

/-- A timer that is over. -/
def tickE (m : TM) (e : Int) : TM :=
  if (rowsM m.state.toNat e.toNat).known = false then m else if m.ct ≤ m.retries then evM (rowsM m.state.toNat 33) m else evM (rowsM m.state.toNat e.toNat) m
def tickI (m : TM) : TM := { beginM m none false 0 with tm := trest m.tm }
def tickM (m : TM) : TM := (tover m.tm).foldl tickE (tickI m)
/-- None that refuses. -/
def tickOk (m : TM) : Prop := ∀ q (hq : q < (tover m.tm).length), rowFr (((tover m.tm).take q).foldl tickE (tickI m)).state.toNat ((tover m.tm)[q]).toNat = false
theorem TmOk.rest {l : TL} (h : TmOk l) : TmOk (trest l) := by
  obtain ⟨h1, h2⟩ := h
  constructor
  · unfold trest
    rw [List.map_map]
    show ((l.filter _).map fun x => x.1).Nodup
    exact List.Nodup.sublist (List.Sublist.map _ List.filter_sublist) h1
  · intro x hx
    unfold trest at hx
    obtain ⟨y, hy, rfl⟩ := List.mem_map.1 hx
    obtain ⟨h3, h4⟩ := List.mem_filter.1 hy
    have h5 := h2 y h3
    simp only [bne_iff_ne] at h4
    simp only
    omega
theorem TmOk.over {l : TL} (h : TmOk l) : ∀ x ∈ tover l, 29 ≤ x ∧ x ≤ 32 := by
  intro x hx
  unfold tover at hx
  obtain ⟨y, hy, rfl⟩ := List.mem_map.1 hx
  have := h.2 y (List.mem_filter.1 hy).1
  omega
theorem Inv.tickI {j k : Nat} {m : TM} (h : Inv j k m) : Inv j 0 (tickI m) := (h.beginM (p := none) (b := false) (n := 0) (by intro d hd; cases hd) (by omega)).tmS h.tm.rest
theorem tickE_cfg (m : TM) (e : Int) : (tickE m e).cfg = m.cfg := by
  unfold tickE
  split
  · rfl
  · split <;> exact actL_cfg _ _
theorem Inv.tickE {j k : Nat} {m : TM} (h : Inv j k m) {e : Int} (he : 29 ≤ e ∧ e ≤ 32) (hf : rowFr m.state.toNat e.toNat = false) : Inv (j + 10) (k + 10) (tickE m e) := by
  have hst := h.st
  unfold Go.Proofs.YtneggoonlmmjeaaGreat.tickE
  split
  · exact h.mono (by omega) (by omega)
  · split
    · exact h.evM (RowOk.of (by omega) (by omega) (by simp [rowFr]))
    · exact h.evM (RowOk.of (by omega) (by omega) hf)
theorem IsTie.noInt {w : World} {v : TV} {m : TM} (h : IsTie w v m) (hy : v.oy = Sl.nil) {x : Nat} {cs : Array Value} {f : Nat × Nat} (e : w.heap[x]? = some (.cells cs 3 f)) : x ∉ v.foot := by
  intro hm
  obtain ⟨xs, ho⟩ := h.os.own
  obtain ⟨ys, hk⟩ := h.ok.own
  obtain ⟨zs, hq⟩ := h.back.que.row.own
  have fin : ∀ {cs' f' u'}, w.heap[x]? = some (.cells cs' u' f') → u' ≠ 3 → False := fun e' n2 => by
    rw [e] at e'
    cases e'
    exact n2 rfl
  simp only [TV.foot, List.mem_cons, List.mem_append] at hm
  rcases hm with rfl | rfl | rfl | rfl | rfl | hm | hm | hm | hm | hm
  · exact fin h.blk (by decide)
  · exact fin h.back.back (by decide)
  · exact fin h.back.que.head (by decide)
  · exact fin h.win (by decide)
  · exact fin h.clk.head (by decide)
  · obtain ⟨_, cs, e2⟩ := own_blk hq x hm; exact fin e2 (by decide)
  · obtain ⟨_, cs, e2⟩ := own_blk h.clk.own x hm; exact fin e2 (by decide)
  · obtain ⟨_, cs, e2⟩ := own_blk ho x hm; exact fin e2 (by decide)
  · rw [hy] at hm; simp [Sl.blk, Sl.nil] at hm
  · obtain ⟨_, cs, e2⟩ := own_blk hk x hm; exact fin e2 (by decide)

set_option maxHeartbeats 4000000 in
theorem tie_Tick (w : World) (v : TV) (m : TM) (j k : Nat) (y : Value) (h : IsTie w v m) (hi : Inv j k m) (ho : tickOk m) (hj : j + 50 ≤ 1000000) :
    Calls Tryz.prog 17 #[.pointer (some ⟨v.t, 0, none⟩), y] w (Gives w v (tickM m)) := by
  obtain ⟨w1, hw1⟩ : ∃ w1, w.alloc (.cells #[.slice none 0 0, .slice none 0 0, .slice none 0 0, .bool false] 36) = w1 := ⟨_, rfl⟩
  obtain ⟨Z, hZ⟩ : ∃ Z, w.heap.size = Z := ⟨_, rfl⟩
  have hb : Blk w1 Z #[.slice none 0 0, .slice none 0 0, .slice none 0 0, .bool false] 36 := by rw [← hw1, ← hZ]; exact Blk.new w _ _
  have f0 : Fr [] w w1 := by rw [← hw1]; exact (Fr.refl [] w).alloc _
  have h0 := h.fr0 f0
  have hlt : ∀ x ∈ v.foot, x < Z := by rw [← hZ]; exact h.lt
  have hile : v.hi ≤ Z := by rw [← hZ]; exact h.hile
  have HB := Lib.hid hb
  have HZ := Lib.hid hZ
  have H0 := Lib.hid (And.intro h0 (And.intro f0 (And.intro hlt hile)))
  have HI := Lib.hid hi
  have HO := Lib.hid ho
  obtain ⟨L, hL⟩ : ∃ L, tover m.tm = L := ⟨_, rfl⟩
  have HL := Lib.hid hL
  clear h f0 hb hlt hile hi ho hL
  go_enter Tryz.func17, Tryz.ntmps17
  go_wp2_with fail
  clear hw1 hZ
  refine (tie_made _ v m h0).mono ?_
  rintro e1 w2 ⟨rfl, rfl⟩
  clear h0
  go_wp2_with fail
  refine (tie_begin _ v m none none false 0 H0.out.1 rfl).mono ?_
  rintro e1 w2 ⟨rfl, h2, f2⟩
  have c15 := h2.c15
  have et : (v.begun (.pointer none)).t = v.t := rfl
  rw [et] at c15
  have hck := clk_Tick w2 _ _ _ _ _ h2.clk (by have := HI.out.tm.len; show m.tm.length ≤ 1000; omega) (fun x hx => by have := HI.out.tm.2 x hx; omega)
  have H2 := Lib.hid (And.intro h2 f2)
  clear h2 f2
  go_wp2_with fail
  refine hck.mono ?_
  rintro e1 w3 ⟨so, s', now', rfl, hso, hcl, hnew, f3⟩
  obtain ⟨h2, f2⟩ := H2.out
  obtain ⟨h3, g3, n3⟩ := h2.setClk1 hcl (f3.mono (fun x hx => .inl (by simp at hx; simp [hx]))) (fun x hx => .inr (hnew x hx))
  have hon : (tover (beginM m none false 0).tm) = L := HL.out
  rw [hon] at hso
  have hsn := own_n hso.own
  obtain ⟨v3, hv3⟩ : ∃ v3, ({ v.begun (.pointer none) with cl := s', now := now' } : TV) = v3 := ⟨_, rfl⟩
  rw [hv3] at h3 n3
  have h3 : IsTie w3 v3 (tickI m) := h3
  have e3 : v3.t = v.t := by rw [← hv3]; rfl
  have W3 : Went w1 w3 (v.begun (.pointer none)) v3 := (Went.of (Fr.foot (v := v.begun (.pointer none)) f2)).trans ⟨e3, by rw [← hv3]; rfl, g3, n3⟩
  have hy3 : v3.oy = Sl.nil := by rw [← hv3]; rfl
  have hoff : ∀ x ∈ so.blk, x ∉ v3.foot := fun x hx => by
    obtain ⟨_, cs, e⟩ := own_blk hso.own x hx
    exact h3.noInt hy3 e
  have hlen : L.length ≤ 4 := by rw [← HL.out]; exact Nat.le_trans (tover_len _) HI.out.tm.len
  have hov : ∀ x ∈ L, 29 ≤ x ∧ x ≤ 32 := by rw [← HL.out]; exact HI.out.tm.over
  have hok : ∀ q (hq : q < L.length), rowFr ((L.take q).foldl tickE (tickI m)).state.toNat (L[q]).toNat = false := by
    have := HO.out
    unfold tickOk at this
    rw [HL.out] at this
    exact this
  have H3 := Lib.hid (And.intro h3 (And.intro W3 (And.intro hso (And.intro hoff (And.intro hov hok)))))
  clear h2 f2 h3 g3 n3 hcl hnew f3 hck c15 hon hso W3 hy3 hoff hov hok H2 HO
  obtain ⟨A, nn, c⟩ := so
  simp only at hsn
  subst hsn
  go_wp2
  go_loopw [19] (fun i wr => ∃ q : Nat, i = .int .i64 q ∧ q ≤ L.length ∧ ∃ v', IsTie wr v' ((L.take q).foldl tickE (tickI m)) ∧ Went w3 wr v3 v' ∧ Inv (j + 10 * q) (10 * q) ((L.take q).foldl tickE (tickI m))) (fun i _ => L.length - (intOf i).toNat)
  case atStart => exact ⟨0, rfl, by omega, v3, H3.out.1, Went.refl _ _, HI.out.tickI⟩
  case round =>
    obtain ⟨q, rfl, hq, v', h', W', I'⟩ := hrel
    by_cases hlt : q < L.length
    · have d1 : (q : Int) < (L.length : Int) := by omega
      have d2 : q < L.length := hlt
      have hw : IntKind.i64.wrap ((q : Int) + 1) = (q : Int) + 1 := IntWalk.i64_in _ (by omega)
      obtain ⟨b, hA, hc⟩ := own_at H3.out.2.2.1.own (by omega)
      simp only at hA
      subst hA
      have hbn : b ∉ v3.foot := H3.out.2.2.2.1 b (by simp [Sl.blk])
      have hcell := W'.fr.cell (hc q (.int .i64 L[q]) (by rw [List.getElem?_map, List.getElem?_eq_getElem hlt]; rfl)) hbn
      have htk : (L.take (q + 1)).foldl tickE (tickI m) = tickE ((L.take q).foldl tickE (tickI m)) L[q] := by rw [← List.take_append_getElem hlt, List.foldl_append]; rfl
      have hev := H3.out.2.2.2.2.1 _ (List.getElem_mem hlt)
      have hrf := H3.out.2.2.2.2.2 q hlt
      obtain ⟨M, hM⟩ : ∃ M, (L.take q).foldl tickE (tickI m) = M := ⟨_, rfl⟩
      rw [hM] at htk hrf h' I'
      have HTK := Lib.hid htk
      have HI' := Lib.hid I'
      have et : v'.t = v.t := by rw [W'.t]; exact H3.out.2.1.t
      have HH := Lib.hid (And.intro h' (And.intro W' (And.intro et (And.intro hev hrf))))
      clear hc hbn htk h' W' I' et hev hrf hM
      generalize L[q] = a at *
      obtain ⟨e, rfl⟩ : ∃ e : Nat, a = (e : Int) := ⟨a.toNat, by have := HH.out.2.2.2.1; omega⟩
      obtain ⟨s, hs⟩ : ∃ s : Nat, M.state = s := ⟨M.state.toNat, by have := HI'.out.st; omega⟩
      have hs14 : s < 14 := by have := HI'.out.st; omega
      have HS := Lib.hid (And.intro hs hs14)
      have hrow := tie_row wr v' M s e HH.out.1 hs hs14 (by have := HH.out.2.2.2.1; omega)
      rw [HH.out.2.2.1] at hrow
      clear hs hs14
      go_wp2_with fail
      refine hrow.mono ?_
      rintro e4 w4 ⟨x, rfl, ⟨sl, rfl, -, -⟩, f4⟩
      have h4 := HH.out.1.fr0 f4
      have W4 := HH.out.2.1.fr0 f4
      have c18 := h4.c18
      have c1 := h4.c1
      rw [HH.out.2.2.1] at c18 c1
      have H4 := Lib.hid (And.intro h4 W4)
      clear h4 W4 f4 hrow hcell
      cases hkn : (rowsM s e).known with
      | false =>
        have hE : tickE M (e : Int) = M := by
          unfold tickE
          rw [HS.out.1]
          simp only [Int.toNat_natCast]
          rw [if_pos hkn]
        have hI6 := HI'.out.mono (Nat.le_add_right _ 10) (Nat.le_add_right _ 10)
        rw [← hE, ← HTK.out] at hI6
        have h7 := H4.out.1
        rw [← hE, ← HTK.out] at h7
        have H7 := Lib.hid (And.intro h7 (And.intro H4.out.2 hI6))
        clear h7 hI6 hE hkn c18 c1
        go_wp2
        go_roundw
        case rel => exact ⟨q + 1, by go_num, by omega, v', H7.out.1, H7.out.2.1, by have := H7.out.2.2; rw [show j + 10 * (q + 1) = j + 10 * q + 10 by omega, show 10 * (q + 1) = 10 * q + 10 by omega]; exact this⟩
        case measure => simp [intOf]; omega
      | true =>
        have HK := Lib.hid hkn
        have F4 : Fr [] w4 w4 := Fr.refl _ _
        by_cases hr : M.ct ≤ M.retries
        · have d3 : decide (M.ct ≤ M.retries) = true := by simpa using hr
          have HR := Lib.hid hr
          clear hr
          go_wp2
          go_quiet (fail)
          have F5 := F4.drewN nq
          clear hkn F4
          generalize w4.drewN nq = w5 at *
          have hE : tickE M (e : Int) = evM (rowsM s 33) M := by
            unfold tickE
            rw [HS.out.1]
            simp only [Int.toNat_natCast]
            rw [if_neg (by rw [HK.out]; decide), if_pos HR.out]
          obtain ⟨h5, W5⟩ := H4.out
          have h5 := h5.fr0 F5
          have W5 := W5.fr0 F5
          have hv := tie_ev w5 v' M s 33 (j + 10 * q) (10 * q) h5 HI'.out HS.out.1 HS.out.2 (by omega) (by simp [rowFr]) (by omega) (by omega) (fun h => by have := HH.out.2.2.2.1; omega)
          rw [← hE, HH.out.2.2.1] at hv
          have H5 := Lib.hid W5
          have hI6 := HI'.out.tickE (e := (e : Int)) HH.out.2.2.2.1 HH.out.2.2.2.2
          clear h5 W5 F5 c18 c1 hE
          go_wp2_with fail
          refine hv.mono ?_
          rintro e6 w6 ⟨rfl, ht⟩
          obtain ⟨v7, h7, W7⟩ := H5.out.step ht
          rw [← HTK.out] at h7 hI6
          have H7 := Lib.hid (And.intro h7 (And.intro W7 hI6))
          clear h7 W7 hI6 ht hv H5
          go_wp2
          go_roundw
          case rel => exact ⟨q + 1, by go_num, by omega, v7, H7.out.1, H7.out.2.1, by have := H7.out.2.2; rw [show j + 10 * (q + 1) = j + 10 * q + 10 by omega, show 10 * (q + 1) = 10 * q + 10 by omega]; exact this⟩
          case measure => simp [intOf]; omega
        · have d3 : decide (M.ct ≤ M.retries) = false := by simpa using hr
          have HR := Lib.hid hr
          clear hr
          go_wp2
          go_quiet (fail)
          have F5 := F4.drewN nq
          clear hkn F4
          generalize w4.drewN nq = w5 at *
          have hE : tickE M (e : Int) = evM (rowsM s e) M := by
            unfold tickE
            rw [HS.out.1]
            simp only [Int.toNat_natCast]
            rw [if_neg (by rw [HK.out]; decide), if_neg (by have := HR.out; omega)]
          obtain ⟨h5, W5⟩ := H4.out
          have h5 := h5.fr0 F5
          have W5 := W5.fr0 F5
          have hv := tie_ev w5 v' M s e (j + 10 * q) (10 * q) h5 HI'.out HS.out.1 HS.out.2 (by have := HH.out.2.2.2.1; omega) (by have := HH.out.2.2.2.2; rw [HS.out.1] at this; simpa using this) (by omega) (by omega) (fun h => by have := HH.out.2.2.2.1; omega)
          rw [← hE, HH.out.2.2.1] at hv
          have H5 := Lib.hid W5
          have hI6 := HI'.out.tickE (e := (e : Int)) HH.out.2.2.2.1 HH.out.2.2.2.2
          clear h5 W5 F5 c18 c1 hE
          go_wp2_with fail
          refine hv.mono ?_
          rintro e6 w6 ⟨rfl, ht⟩
          obtain ⟨v7, h7, W7⟩ := H5.out.step ht
          rw [← HTK.out] at h7 hI6
          have H7 := Lib.hid (And.intro h7 (And.intro W7 hI6))
          clear h7 W7 hI6 ht hv H5
          go_wp2
          go_roundw
          case rel => exact ⟨q + 1, by go_num, by omega, v7, H7.out.1, H7.out.2.1, by have := H7.out.2.2; rw [show j + 10 * (q + 1) = j + 10 * q + 10 by omega, show 10 * (q + 1) = 10 * q + 10 by omega]; exact this⟩
          case measure => simp [intOf]; omega
    · have d1 : ¬ (q : Int) < (L.length : Int) := by omega
      have hqe : q = L.length := by omega
      subst hqe
      rw [List.take_length] at h' I'
      have eM : L.foldl tickE (tickI m) = tickM m := by unfold tickM; rw [HL.out]
      rw [eM] at h'
      have W6 := H3.out.2.1.trans W'
      have hend := tie_end wr v' (tickM m) h'
      rw [show v'.t = v.t from W6.t] at hend
      have HW6 := Lib.hid W6
      clear h' I' W' W6 eM
      go_wp2_with fail
      refine hend.mono ?_
      rintro e6 w6 ⟨x, rfl, ho, h7, f7⟩
      have ho' := ho
      obtain ⟨os, oy, ok, -, rfl, -⟩ := ho
      have hlz : Z ∉ [v.t] := fun hm => by simp at hm; have := H0.out.2.2.1 v.t v.t_foot; omega
      have hbz := (HB.out.fr HW6.out.fr (fun hm => by have := H0.out.2.2.1 Z (v.begun_foot _ _ hm); omega)).fr f7 hlz
      have HEND := Lib.hid (gives_end (w7 := (((w6.setCell ⟨Z, 0, none⟩ (.slice os.A (tickM m).send.length os.c)).setCell ⟨Z, 1, none⟩ (.slice oy.A (tickM m).say.length oy.c)).setCell ⟨Z, 2, none⟩ (.slice ok.A (tickM m).took.length ok.c)).setCell ⟨Z, 3, none⟩ (.bool (tickM m).used)) H0.out.1 H0.out.2.1 H0.out.2.2.1 H0.out.2.2.2 HZ.out HB.out HW6.out ho' h7 f7 rfl)
      have y0 := hbz.cell 0 rfl
      have y1 := hbz.cell 1 rfl
      have y2 := hbz.cell 2 rfl
      have y3 := hbz.cell 3 rfl
      have x0 := hbz.free 0
      have x1 := hbz.free 1
      have x2 := hbz.free 2
      have x3 := hbz.free 3
      simp only [List.getElem_toArray, List.getElem_cons_zero, List.getElem_cons_succ] at y0 y1 y2 y3
      clear ho' h7 f7 hlz hbz hend
      go_wp2
      obtain ⟨b8, hg⟩ := HEND.out
      have g0 := b8.cell 0 rfl
      have g1 := b8.cell 1 rfl
      have g2 := b8.cell 2 rfl
      have g3 := b8.cell 3 rfl
      simp only [List.getElem_toArray, List.getElem_cons_zero, List.getElem_cons_succ] at g0 g1 g2 g3
      exact bodyPost_ret (v := .agg #[.slice os.A (tickM m).send.length os.c, .slice oy.A (tickM m).say.length oy.c, .slice ok.A (tickM m).took.length ok.c, .bool (tickM m).used]) (by simp [results, Tryz.results17, go_sem, g0, g1, g2, g3]) rfl hg
end Go.Proofs.YtneggoonlmmjeaaGreat
