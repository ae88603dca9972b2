
/- The program's SAPs beside the reference's: each deed, and what both tell. -/
import Derived.Test.YtgmpikaibeenmaaSapsY
import Derived.Test.YtgmpikaibeenmaaSapsQ
namespace Go.Proofs.Ytgmpikaibeenmaa
open Go.RowKit Go.Shelf Go.ChangeMaps
set_option linter.unusedVariables false
set_option linter.unusedSimpArgs false
set_option maxRecDepth 100000

/-- The reference's list: the same, rising. -/
structure Rel (RA m : List AE) : Prop where
  perm : RA.Perm m
  sort : RA.Pairwise (fun x y => x.k < y.k)
theorem Rel.nod {RA m : List AE} (h : Rel RA m) : (RA.map (·.k)).Nodup := by
  rw [List.Nodup, List.pairwise_map]
  exact h.sort.imp fun h => by omega
theorem Rel.look {RA m : List AE} (h : Rel RA m) (n : Int) : lookA RA n = lookA m n := by
  have hn := h.nod
  have hn2 : (m.map (·.k)).Nodup := (h.perm.map _).nodup_iff.1 hn
  cases h1 : lookA m n with
  | none =>
    unfold lookA
    rw [List.find?_eq_none]
    intro x hx
    simpa using lookA_none h1 x (h.perm.mem_iff.1 hx)
  | some x =>
    obtain ⟨h2, rfl⟩ := look_memA h1
    exact look_someA hn (h.perm.mem_iff.2 h2)
theorem Rel.len {RA m : List AE} (h : Rel RA m) : RA.length = m.length := h.perm.length_eq
theorem Rel.filter {RA m : List AE} (h : Rel RA m) (p : AE → Bool) : Rel (RA.filter p) (m.filter p) := ⟨h.perm.filter p, h.sort.filter p⟩
theorem Rel.map {RA m : List AE} (h : Rel RA m) (f : AE → AE) (hf : ∀ x, (f x).k = x.k) : Rel (RA.map f) (m.map f) := ⟨h.perm.map f, by rw [List.pairwise_map]; exact h.sort.imp fun h => by rw [hf, hf]; exact h⟩
theorem ins_perm {α : Type} (p : α → Bool) (x : α) (l : List α) : (ins p x l).Perm (x :: l) := by
  unfold ins
  have := List.perm_middle (a := x) (l₁ := l.takeWhile p) (l₂ := l.dropWhile p)
  rwa [List.takeWhile_append_dropWhile] at this
theorem ins_sort {n c : Int} : ∀ {l : List AE}, l.Pairwise (fun x y => x.k < y.k) → (∀ x ∈ l, x.k ≠ n) → (ins (leA n) ⟨n, c, []⟩ l).Pairwise (fun x y => x.k < y.k)
  | [], _, _ => by simp [ins]
  | x :: l, h, hn => by
    rw [List.pairwise_cons] at h
    have hx := hn x (by simp)
    by_cases hl : leA n x = true
    · have e : ins (leA n) ⟨n, c, []⟩ (x :: l) = x :: ins (leA n) ⟨n, c, []⟩ l := by unfold ins; simp [List.takeWhile_cons, List.dropWhile_cons, hl]
      rw [e, List.pairwise_cons]
      refine ⟨fun y hy => ?_, ins_sort h.2 fun y hy => hn y (by simp [hy])⟩
      rcases (ins_mem _ _ _ _).1 hy with rfl | hy
      · unfold leA at hl; simp at hl ⊢; omega
      · exact h.1 y hy
    · have e : ins (leA n) ⟨n, c, []⟩ (x :: l) = ⟨n, c, []⟩ :: x :: l := by unfold ins; simp [List.takeWhile_cons, List.dropWhile_cons, hl]
      rw [e, List.pairwise_cons]
      have hlt : n < x.k := by unfold leA at hl; simp at hl; omega
      refine ⟨fun y hy => ?_, List.pairwise_cons.2 h⟩
      rcases List.mem_cons.1 hy with rfl | hy
      · exact hlt
      · have := h.1 y hy; simp only; omega
theorem Rel.open_ {RA m : List AE} (h : Rel RA m) (n c : Int) : (openR RA n c).1 = (openA m n c).1 ∧ Rel (openR RA n c).2 (openA m n c).2 := by
  unfold openR openA
  by_cases ha : argB n c = false
  · rw [if_pos ha, if_pos ha]; exact ⟨rfl, h⟩
  rw [if_neg ha, if_neg ha, h.look, h.len]
  cases hl : lookA m n with
  | some x => simp; exact h
  | none =>
    simp only [Option.isSome_none, Bool.false_eq_true, if_false]
    by_cases hf : 16 ≤ m.length
    · rw [if_pos hf, if_pos hf]; exact ⟨rfl, h⟩
    · rw [if_neg hf, if_neg hf]
      refine ⟨rfl, (ins_perm _ _ _).trans ?_, ins_sort h.sort fun x hx => lookA_none hl x (h.perm.mem_iff.1 hx)⟩
      exact (h.perm.cons _).trans (List.perm_append_comm (l₁ := [(⟨n, c, []⟩ : AE)]) (l₂ := m))
theorem Rel.close_ {RA m : List AE} (h : Rel RA m) (n : Int) : (closeA RA n).1 = (closeA m n).1 ∧ Rel (closeA RA n).2 (closeA m n).2 := by
  unfold closeA
  rw [h.look]
  cases hl : lookA m n with
  | none => simp; exact h
  | some x => simp only [Option.isSome_some, if_true]; exact ⟨trivial, h.filter _⟩
theorem Rel.join_ {RA m : List AE} (h : Rel RA m) (n g : Int) : (joinA RA n g).1 = (joinA m n g).1 ∧ Rel (joinA RA n g).2 (joinA m n g).2 := by
  unfold joinA
  rw [h.look]
  split
  · exact ⟨rfl, h⟩
  · split
    · exact ⟨rfl, h⟩
    · split
      · exact ⟨rfl, h⟩
      · exact ⟨rfl, h.map _ fun x => by split <;> rfl⟩
theorem Rel.leave_ {RA m : List AE} (h : Rel RA m) (n g : Int) : (leaveA RA n g).1 = (leaveA m n g).1 ∧ Rel (leaveA RA n g).2 (leaveA m n g).2 := by
  unfold leaveA
  rw [h.look]
  split
  · exact ⟨rfl, h⟩
  · split
    · exact ⟨rfl, h⟩
    · split
      · exact ⟨rfl, h.map _ fun x => by split <;> rfl⟩
      · exact ⟨rfl, h⟩
theorem Rel.hear {R : List RE} {m : List AE} (h : Rel (R.map RE.a) m) (to : Int) : hearR R to = hearA m to := by
  have e : hearR R to = ((R.map RE.a).filter fun x => hearsB to x.k x.gs).map (·.k) := by
    unfold hearR; rw [List.filter_map, List.map_map]; rfl
  rw [e]
  refine sorted_perm_eq ?_ (srt_pw _) ?_
  · rw [List.pairwise_map]; exact (h.sort.filter _).imp fun h => by omega
  · exact ((h.perm.filter _).map _).trans (List.mergeSort_perm _ _).symm
theorem Rel.cls {R : List RE} {m : List AE} (h : Rel (R.map RE.a) m) (n : Int) : clsR R n = clsA m n := by
  have := h.look n
  rw [look_ra] at this
  unfold clsR clsA
  rw [← this]
  cases lookR R n <;> rfl

/-- Of what was there, L alone may be otherwise. -/
def Mut (L : List Nat) (w w' : World) : Prop := ∃ M, Fr M w w' ∧ ∀ x ∈ M, x ∈ L ∨ w.heap.size ≤ x
theorem Mut.of {L : List Nat} {w w1 w3 : World} (f0 : Fr [] w w1) (hh : Mut L w1 w3) : Mut L w w3 := by
  obtain ⟨M, f, hM⟩ := hh
  refine ⟨M, (f0.mono (by simp)).trans f (fun x hx => .inl hx), fun x hx => (hM x hx).imp id (fun h => ?_)⟩
  have := f0.size
  omega
theorem AtM.frL {w0 w w' : World} {p : Nat} {m : List AE} {L : List Nat} (h : AtM w0 w p m) (f : Fr L w w') (hb : ∀ x ∈ L, w0.heap.size ≤ x) (hn : ∀ x ∈ L, ∃ cs t f, w.heap[x]? = some (.cells cs t f)) (hp : ∀ x ∈ L, x ≠ p) : AtM w0 w' p m := by
  have ⟨F, hF⟩ := h.atF
  have hq : ∀ x ∈ L, x ∉ F := fun x hx => hF.notin (hn x hx) (hp x hx)
  obtain ⟨b, c, l, ⟨h1, h2, h3, h4⟩, rfl⟩ := hF
  exact ⟨b, c, l, h1.fr f (fun x hx hm => hq x hm hx), h2, h3.trans f (fun y hy => .inr (hb y hy)), h4⟩

/-- Both, side by side: k bounds how many groups one may be in. -/
structure Both (w0 w : World) (p q : Nat) (s : Sl) (R : List RE) (m : List AE) (k : Nat) : Prop where
  at_ : AtM w0 w p m
  ga : GA m
  isR : IsR w q s R
  new : ∀ b ∈ rfoot q s R, w0.heap.size ≤ b ∧ b ≠ p
  rel : Rel (R.map RE.a) m
  len : ∀ x ∈ m, x.gs.length ≤ k
def BothM (w0 : World) (p q : Nat) (m : List AE) (k : Nat) (w : World) : Prop := ∃ s R, Both w0 w p q s R m k
theorem Both.on {w0 w w' : World} {p q : Nat} {s : Sl} {R : List RE} {m : List AE} {k : Nat} (h : Both w0 w p q s R m k) (f : Fr [] w w') : Both w0 w' p q s R m k := ⟨h.at_.on f, h.ga, h.isR.fr0 f, h.new, h.rel, h.len⟩
theorem BothM.on {w0 w w' : World} {p q : Nat} {m : List AE} {k : Nat} (f : Fr [] w w') (h : BothM w0 p q m k w) : BothM w0 p q m k w' := by
  obtain ⟨s, R, h⟩ := h; exact ⟨s, R, h.on f⟩
theorem Both.lenR {w0 w : World} {p q : Nat} {s : Sl} {R : List RE} {m : List AE} {k : Nat} (h : Both w0 w p q s R m k) : R.length ≤ 16 := by
  have := (h.at_.inv h.ga).small
  have := h.rel.len
  rw [List.length_map] at this
  omega
theorem Both.memR {w0 w : World} {p q : Nat} {s : Sl} {R : List RE} {m : List AE} {k : Nat} (h : Both w0 w p q s R m k) {x : RE} (hx : x ∈ R) : x.a ∈ m := h.rel.perm.mem_iff.1 (List.mem_map_of_mem hx)
theorem Both.lenG {w0 w : World} {p q : Nat} {s : Sl} {R : List RE} {m : List AE} {k : Nat} (h : Both w0 w p q s R m k) : ∀ x ∈ R, x.gs.length ≤ k := fun x hx => h.len x.a (h.memR hx)
theorem Both.nodR {w0 w : World} {p q : Nat} {s : Sl} {R : List RE} {m : List AE} {k : Nat} (h : Both w0 w p q s R m k) : (R.map (·.k)).Nodup := by
  have := h.rel.nod
  rw [List.map_map] at this
  exact this
theorem groupB_wf {y : Int} (h : groupB y = true) : (Lit.int .i64 y).wf = true := by
  unfold groupB at h
  simp [Lit.wf, IntKind.min, IntKind.max, IntKind.signed, IntKind.bits] at h ⊢
  omega
theorem Both.wfG {w0 w : World} {p q : Nat} {s : Sl} {R : List RE} {m : List AE} {k : Nat} (h : Both w0 w p q s R m k) : ∀ x ∈ R, ∀ y ∈ x.gs, (Lit.int .i64 y).wf = true := fun x hx y hy => groupB_wf ((h.ga x.a (h.memR hx)).2 y hy)
theorem len_step {m : List AE} {k : Nat} (h : ∀ x ∈ m, x.gs.length ≤ k) (D n c : Int) : ∀ x ∈ (stepA m D n c).2, x.gs.length ≤ k + 1 := by
  have h' : ∀ x ∈ m, x.gs.length ≤ k + 1 := fun x hx => Nat.le_trans (h x hx) (by omega)
  unfold stepA
  split
  · unfold openA
    split
    · exact h'
    · split
      · exact h'
      · split
        · exact h'
        · intro x hx
          rcases List.mem_append.1 hx with hx | hx
          · exact h' x hx
          · simp at hx; subst hx; simp
  · split
    · unfold closeA
      split
      · exact fun x hx => h' x (List.mem_filter.1 hx).1
      · exact h'
    · split
      · unfold joinA
        split
        · exact h'
        · split
          · exact h'
          · split
            · exact h'
            · intro x hx
              obtain ⟨y, hy, rfl⟩ := List.mem_map.1 hx
              have := h y hy
              split
              · simp; exact this
              · omega
      · unfold leaveA
        split
        · exact h'
        · split
          · exact h'
          · split
            · intro x hx
              obtain ⟨y, hy, rfl⟩ := List.mem_map.1 hx
              have := h y hy
              split
              · exact Nat.le_trans (List.length_filter_le _ _) (by omega)
              · omega
            · exact h'
theorem Both.both {w0 w w2 w3 : World} {p q : Nat} {s : Sl} {R : List RE} {m m' : List AE} {k : Nat} (h : Both w0 w p q s R m k) (f2 : ∃ F, AtF w0 w p m F ∧ Fr F w w2) (hA2 : AtM w0 w2 p m') (hG : GA m') (hL : ∀ x ∈ m', x.gs.length ≤ k + 1) {RA : List AE} (hR : AtRm w2 w3 q s R RA) (hRel : Rel RA m') :
    BothM w0 p q m' (k + 1) w3 := by
  obtain ⟨F, hF, f2⟩ := f2
  obtain ⟨s', R', h1, rfl, h3, h4⟩ := hR
  have hd : ∀ b ∈ rfoot q s R, b ∉ F := fun b hb => hF.notin (h.isR.lt b hb) (h.new b hb).2
  have hcell : ∀ b ∈ rmut q s, ∃ cs t f, w2.heap[b]? = some (.cells cs t f) := fun b hb => by
    have hb' : b ∈ rfoot q s R := by simp only [rmut, rfoot, List.mem_cons, List.mem_append] at hb ⊢; exact hb.imp id .inl
    obtain ⟨cs, t, f, e⟩ := h.isR.lt b hb'
    exact ⟨cs, t, f, f2.keeps e (hd b hb')⟩
  have hm : ∀ b ∈ rmut q s, b ∈ rfoot q s R := fun b hb => by simp only [rmut, rfoot, List.mem_cons, List.mem_append] at hb ⊢; exact hb.imp id .inl
  have hp : p < w2.heap.size := by obtain ⟨b, c, l, hh⟩ := hA2; exact hh.is.blk.lt
  refine ⟨s', R', hA2.frL h3 (fun x hx => (h.new x (hm x hx)).1) hcell (fun x hx => (h.new x (hm x hx)).2), hG, h1, fun b hb => ?_, hRel, hL⟩
  rcases h4 b hb with h5 | h5
  · exact h.new b h5
  · exact ⟨by have := hA2.fr.size; omega, by omega⟩

set_option maxHeartbeats 4000000 in
theorem Do_full (w0 w : World) (p q : Nat) (s : Sl) (R : List RE) (m : List AE) (F : List Nat) (k : Nat) (D n c : Int) (h : Both w0 w p q s R m k) (hF0 : AtF w0 w p m F) (hk : k ≤ 1000) :
    Calls Try.prog 38 #[.pointer (some ⟨p, 0, none⟩), .pointer (some ⟨q, 0, none⟩), .agg #[.int .i64 D, .int .i64 n, .int .i64 c]] w fun e w' =>
      e = .returned (.bool true) ∧ BothM w0 p q (stepA m D n c).2 (k + 1) w' ∧ Mut (F ++ rmut q s) w w' := by
  have f0 : Fr [] w (w.alloc (.cells #[.int .i64 D, .int .i64 n, .int .i64 c] 87)) := (Fr.refl _ _).alloc _
  have hB := Blk.new w #[.int .i64 D, .int .i64 n, .int .i64 c] 87
  have HFW := Lib.hid (fun (w3 : World) => Mut.of (L := F ++ rmut q s) (w3 := w3) f0)
  have h1 := h.on f0
  have hF := hF0.on f0
  have hdn : ∃ cs t f, (w.alloc (.cells #[.int .i64 D, .int .i64 n, .int .i64 c] 87)).heap[w.heap.size]? = some (.cells cs t f) := ⟨_, _, _, hB⟩
  have hdp : w.heap.size ≠ p := by
    obtain ⟨b, c, l, hh⟩ := h.at_
    have := hh.is.blk.lt; omega
  have hdF := hF.notin hdn hdp
  have hrF : ∀ b ∈ rfoot q s R, b ∉ F := fun b hb => hF.notin (h1.isR.lt b hb) (h1.new b hb).2
  have b0 := hB.cell 0 (v := .int .i64 D) rfl
  have b1 := hB.cell 1 (v := .int .i64 n) rfl
  have b2 := hB.cell 2 (v := .int .i64 c) rfl
  have hGS := h.ga.step D n c
  have hLS := len_step h.len D n c
  clear h hF0 hB f0 hdn hdp
  by_cases c1 : D ≤ 2
  · have d1 : decide (D ≤ 2) = true := by simpa using c1
    have hst : (stepA m D n c).2 = (openA m n c).2 := by unfold stepA; rw [if_pos c1]
    have HST := Lib.hid hst
    rw [hst] at hLS hGS
    clear hst c1
    have hrel := h1.rel.open_ n c
    have HREL := Lib.hid hrel
    have hrel1 := hrel.1
    clear hrel
    have HLS := Lib.hid hLS
    have HGS := Lib.hid hGS
    clear hLS hGS
    go_enter Try.func38, Try.ntmps38
    go_wp2_with fail
    generalize w.alloc (.cells #[.int .i64 D, .int .i64 n, .int .i64 c] 87) = w1 at *
    generalize w.heap.size = bd at *
    have H1 := Lib.hid h1
    have HR1 := Lib.hid hrel1
    clear hrel1
    refine (Open_F w0 w1 p m n c F hF).mono ?_
    rintro e w2 ⟨rfl, hG2, f2⟩
    have hA2 := hG2.atM
    have b1 := f2.cell b1 hdF
    have b2 := f2.cell b2 hdF
    have hR2 := h1.isR.fr f2 hrF
    have hnod := h1.nodR
    have hlg : ∀ x ∈ R, x.gs.length ≤ 1000 := fun x hx => Nat.le_trans (h1.lenG x hx) hk
    have hwg := h1.wfG
    have hl16 := h1.lenR
    clear hG2 h1
    go_wp2_with fail
    refine (r_Open w2 q s R n c hR2 (by omega)).mono ?_
    rintro e w3 ⟨rfl, hR3⟩
    rw [HR1.out]
    have hfin := H1.out.both ⟨F, hF, f2⟩ hA2 HGS.out HLS.out hR3 HREL.out.2
    have HFIN := Lib.hid hfin
    have hfr : Mut (F ++ rmut q s) w1 w3 := by
      obtain ⟨s5, R5, _, _, f3, _⟩ := hR3
      exact ⟨F ++ rmut q s, (f2.mono (fun x hx => .inl (List.mem_append_left _ hx))).trans f3 (fun x hx => .inl (List.mem_append_right _ hx)), fun x hx => .inl hx⟩
    have HFR := Lib.hid hfr
    clear hfin hfr hR3 hA2 hR2 hnod hlg hwg
    go_wp2
    go_ret
    exact ⟨rfl, HST.out ▸ HFIN.out, HFW.out _ HFR.out⟩
  · have d1 : decide (D ≤ 2) = false := by simpa using c1
    by_cases c2 : D = 3
    · have d2 : (D == 3) = true := by simpa using c2
      have hst : (stepA m D n c).2 = (closeA m n).2 := by unfold stepA; rw [if_neg c1, if_pos c2]
      have HST := Lib.hid hst
      rw [hst] at hLS hGS
      clear hst c1 c2
      have hrel := h1.rel.close_ n
      have HREL := Lib.hid hrel
      have hrel1 := hrel.1
      clear hrel
      have HLS := Lib.hid hLS
      have HGS := Lib.hid hGS
      clear hLS hGS
      go_enter Try.func38, Try.ntmps38
      go_wp2_with fail
      generalize w.alloc (.cells #[.int .i64 D, .int .i64 n, .int .i64 c] 87) = w1 at *
      generalize w.heap.size = bd at *
      have H1 := Lib.hid h1
      have HR1 := Lib.hid hrel1
      clear hrel1
      refine (Close_F w0 w1 p m n F hF).mono ?_
      rintro e w2 ⟨rfl, hG2, f2⟩
      have hA2 := hG2.atM
      have b1 := f2.cell b1 hdF
      have b2 := f2.cell b2 hdF
      have hR2 := h1.isR.fr f2 hrF
      have hnod := h1.nodR
      have hlg : ∀ x ∈ R, x.gs.length ≤ 1000 := fun x hx => Nat.le_trans (h1.lenG x hx) hk
      have hwg := h1.wfG
      have hl16 := h1.lenR
      clear hG2 h1
      go_wp2_with fail
      refine (r_Close w2 q s R n hR2 (by omega) hnod).mono ?_
      rintro e w3 ⟨rfl, hR3⟩
      rw [HR1.out]
      have hfin := H1.out.both ⟨F, hF, f2⟩ hA2 HGS.out HLS.out hR3 HREL.out.2
      have HFIN := Lib.hid hfin
      have hfr : Mut (F ++ rmut q s) w1 w3 := by
        obtain ⟨s5, R5, _, _, f3, _⟩ := hR3
        exact ⟨F ++ rmut q s, (f2.mono (fun x hx => .inl (List.mem_append_left _ hx))).trans f3 (fun x hx => .inl (List.mem_append_right _ hx)), fun x hx => .inl hx⟩
      have HFR := Lib.hid hfr
      clear hfin hfr hR3 hA2 hR2 hnod hlg hwg
      go_wp2
      go_ret
      exact ⟨rfl, HST.out ▸ HFIN.out, HFW.out _ HFR.out⟩
    · have d2 : (D == 3) = false := by simpa using c2
      by_cases c3 : D ≤ 5
      · have d3 : decide (D ≤ 5) = true := by simpa using c3
        have hst : (stepA m D n c).2 = (joinA m n c).2 := by unfold stepA; rw [if_neg c1, if_neg c2, if_pos c3]
        have HST := Lib.hid hst
        rw [hst] at hLS hGS
        clear hst c1 c2 c3
        have hrel := h1.rel.join_ n c
        have HREL := Lib.hid hrel
        have hrel1 := hrel.1
        clear hrel
        have HLS := Lib.hid hLS
        have HGS := Lib.hid hGS
        clear hLS hGS
        go_enter Try.func38, Try.ntmps38
        go_wp2_with fail
        generalize w.alloc (.cells #[.int .i64 D, .int .i64 n, .int .i64 c] 87) = w1 at *
        generalize w.heap.size = bd at *
        have H1 := Lib.hid h1
        have HR1 := Lib.hid hrel1
        clear hrel1
        refine (Join_F w0 w1 p m n c F hF).mono ?_
        rintro e w2 ⟨rfl, hG2, f2⟩
        have hA2 := hG2.atM
        have b1 := f2.cell b1 hdF
        have b2 := f2.cell b2 hdF
        have hR2 := h1.isR.fr f2 hrF
        have hnod := h1.nodR
        have hlg : ∀ x ∈ R, x.gs.length ≤ 1000 := fun x hx => Nat.le_trans (h1.lenG x hx) hk
        have hwg := h1.wfG
        have hl16 := h1.lenR
        clear hG2 h1
        go_wp2_with fail
        refine (r_Join w2 q s R n c hR2 (by omega) hnod hlg hwg).mono ?_
        rintro e w3 ⟨rfl, hR3⟩
        rw [HR1.out]
        have hfin := H1.out.both ⟨F, hF, f2⟩ hA2 HGS.out HLS.out hR3 HREL.out.2
        have HFIN := Lib.hid hfin
        have hfr : Mut (F ++ rmut q s) w1 w3 := by
          obtain ⟨s5, R5, _, _, f3, _⟩ := hR3
          exact ⟨F ++ rmut q s, (f2.mono (fun x hx => .inl (List.mem_append_left _ hx))).trans f3 (fun x hx => .inl (List.mem_append_right _ hx)), fun x hx => .inl hx⟩
        have HFR := Lib.hid hfr
        clear hfin hfr hR3 hA2 hR2 hnod hlg hwg
        go_wp2
        go_ret
        exact ⟨rfl, HST.out ▸ HFIN.out, HFW.out _ HFR.out⟩
      · have d3 : decide (D ≤ 5) = false := by simpa using c3
        have hst : (stepA m D n c).2 = (leaveA m n c).2 := by unfold stepA; rw [if_neg c1, if_neg c2, if_neg c3]
        have HST := Lib.hid hst
        rw [hst] at hLS hGS
        clear hst c1 c2 c3
        have hrel := h1.rel.leave_ n c
        have HREL := Lib.hid hrel
        have hrel1 := hrel.1
        clear hrel
        have HLS := Lib.hid hLS
        have HGS := Lib.hid hGS
        clear hLS hGS
        go_enter Try.func38, Try.ntmps38
        go_wp2_with fail
        generalize w.alloc (.cells #[.int .i64 D, .int .i64 n, .int .i64 c] 87) = w1 at *
        generalize w.heap.size = bd at *
        have H1 := Lib.hid h1
        have HR1 := Lib.hid hrel1
        clear hrel1
        refine (Leave_F w0 w1 p m n c F hF).mono ?_
        rintro e w2 ⟨rfl, hG2, f2⟩
        have hA2 := hG2.atM
        have b1 := f2.cell b1 hdF
        have b2 := f2.cell b2 hdF
        have hR2 := h1.isR.fr f2 hrF
        have hnod := h1.nodR
        have hlg : ∀ x ∈ R, x.gs.length ≤ 1000 := fun x hx => Nat.le_trans (h1.lenG x hx) hk
        have hwg := h1.wfG
        have hl16 := h1.lenR
        clear hG2 h1
        go_wp2_with fail
        refine (r_Leave w2 q s R n c hR2 (by omega) hnod hlg hwg).mono ?_
        rintro e w3 ⟨rfl, hR3⟩
        rw [HR1.out]
        have hfin := H1.out.both ⟨F, hF, f2⟩ hA2 HGS.out HLS.out hR3 HREL.out.2
        have HFIN := Lib.hid hfin
        have hfr : Mut (F ++ rmut q s) w1 w3 := by
          obtain ⟨s5, R5, _, _, f3, _⟩ := hR3
          exact ⟨F ++ rmut q s, (f2.mono (fun x hx => .inl (List.mem_append_left _ hx))).trans f3 (fun x hx => .inl (List.mem_append_right _ hx)), fun x hx => .inl hx⟩
        have HFR := Lib.hid hfr
        clear hfin hfr hR3 hA2 hR2 hnod hlg hwg
        go_wp2
        go_ret
        exact ⟨rfl, HST.out ▸ HFIN.out, HFW.out _ HFR.out⟩
end Go.Proofs.Ytgmpikaibeenmaa
