/- SapsPlays, walked. -/
import Derived.Test.YtdmgpbochddahaaSapsZ
namespace Go.Proofs.Ytdmgpbochddahaa
open Go.RowKit Go.Shelf Go.ChangeMaps
set_option linter.unusedVariables false
set_option linter.unusedSimpArgs false

def keysR (R : List RE) : List Int := R.map (·.k)
set_option maxHeartbeats 1000000 in
theorem law_list (w : World) (q : Nat) (s : Sl) (R : List RE) (h : IsR w q s R) (hs : R.length ≤ 1000) :
    Calls Try.prog 22 #[.pointer (some ⟨q, 0, none⟩)] w fun e w' =>
      ∃ s : Sl, e = .returned (.slice s.A s.n s.c) ∧ w'.ownsRow w.heap.size 3 1 s.v (keysR R).length ((keysR R).map (Value.int .i64)) ∧ Fr [] w w' := by
  obtain ⟨ji, j0, j1, j2, j3⟩ := info_parts (show (Try.prog.info? 3).map (fun i => (i.zero, i.size, i.bytes)) = some (some (.int .i64 0), 1, 8) by kernel_rfl)
  have ju : Try.prog.underlying 31 = some (.slice 3) := Try.underlying31
  go_enter Try.func22, Try.ntmps22
  go_wp2
  go_loopw [3, 4] (fun v i wr => ∃ k : Nat, i = .int .i64 k ∧ k ≤ R.length ∧ Fr [] w wr ∧ wr.ownsRow w.heap.size 3 1 v (keysR (R.take k)).length ((keysR (R.take k)).map (Value.int .i64))) (fun _ i _ => R.length - (intOf i).toNat)
  case atStart => exact ⟨0, rfl, by omega, Fr.refl _ _, World.ownsRow_nil _ _ _ _⟩
  case round =>
    obtain ⟨k, rfl, hk, hf, hown⟩ := hrel
    have h' := h.fr0 hf
    have c0 := h'.c0
    have hsz := hf.size
    have hlen : (keysR (R.take k)).length ≤ k := by unfold keysR; rw [List.length_map]; exact List.length_take_le _ _
    by_cases hlt : k < R.length
    · obtain ⟨b, hA, c1, c2, c3⟩ := h'.at_ k hlt
      rw [hA] at c0
      obtain ⟨x, hx⟩ : ∃ x, R[k] = x := ⟨_, rfl⟩
      have htk : R.take (k + 1) = R.take k ++ [R[k]] := List.take_succ_eq_append_getElem hlt
      rw [hx] at c1 htk
      have HW := Lib.hid (show keysR (R.take (k + 1)) = keysR (R.take k) ++ [x.k] by rw [htk]; simp [keysR])
      clear hx htk c2 c3 hA h'
      go_wp2_with (at_builtin; refine wpList_append_src rfl _ _ 31 rfl (w.heap.size) 3 ji (.int .i64 0) 1 8 ju j0 j1 j2 j3 rfl (by decide) _ _ _ rfl (hown.alloc _) _ 1 [.int .i64 x.k] rfl Src.one rfl (by intro u hu; simp at hu; subst hu; rfl) (by unfold maxLen; omega) (by omega) (by first | (simp; done) | (simp; omega)) ?_)
      intro v' w4 hown4 hgrow
      have f4 : Fr [] w w4 := (hf.alloc _).grown hgrow (fun k hk => .inr (hown.lt k hk).1)
      have hown5 : w4.ownsRow w.heap.size 3 1 v' (keysR (R.take (k + 1))).length ((keysR (R.take (k + 1))).map (Value.int .i64)) := by rw [HW.out]; simpa using hown4
      go_wp2
      go_roundw
      case rel => exact ⟨k + 1, by go_num, by omega, f4, hown5⟩
      case measure => simp [intOf]; omega
    · have HW := Lib.hid (show keysR (R.take k) = keysR R by rw [List.take_of_length_le (by omega)])
      obtain ⟨s2, rfl⟩ := own_sl hown
      go_wp2
      go_ret
      exact ⟨s2, rfl, by rw [← HW.out]; exact hown, hf⟩

def Both0 (w0 : World) (p q : Nat) (s : Sl) (R : List RE) (m : List AE) (k : Nat) (F : List Nat) (w : World) : Prop := Both w0 w p q s R m k ∧ AtF w0 w p m F
/-- A slice of these numbers, and what holds of memory. -/
def IntsB (l : List Int) (B : World → Prop) : World → Value → Prop := fun w v => (∃ s : Sl, v = .slice s.A s.n s.c ∧ Ints .i64 w s.v l) ∧ B w
theorem IntsB.keeps {l : List Int} {B : World → Prop} (h : ∀ w w', Fr [] w w' → B w → B w') : Keeps [] (IntsB l B) := fun w w' v f ⟨⟨s, e, hi⟩, hb⟩ => ⟨⟨s, e, hi.fr f⟩, h _ _ f hb⟩
theorem keys_hear {R : List RE} {m : List AE} (h : Rel (R.map RE.a) m) : keysR R = hearA m 255 := by
  rw [← h.hear]
  unfold hearR keysR
  rw [List.filter_eq_self.2]
  intro x _
  rfl
theorem Both.foot {w0 w : World} {p q : Nat} {s : Sl} {R : List RE} {m : List AE} {k : Nat} (h : Both w0 w p q s R m k) : ∃ F, AtF w0 w p m F ∧ ∀ x ∈ F, w0.heap.size ≤ x := by
  obtain ⟨b, c, l, hh⟩ := h.at_
  exact ⟨_, ⟨b, c, l, hh, rfl⟩, hh.new⟩
theorem clsA_eq {m : List AE} {n : Int} : (clsA m n == clsA m n) = true := by simp

set_option maxHeartbeats 4000000 in
set_option maxRecDepth 100000 in
theorem walk_SapsPlays (w : World) (A : Option Addr) (n cap : Nat) (g : Nat → Nat → Int) (hm : n ≤ 9223372036854775807) (ha : ArgRec [.i64, .i64, .i64] w A n g) (to : Int) (hto : (Lit.int .i64 to).wf = true) :
    Calls Try.prog 7 #[.slice A n cap, .int .i64 to] w fun e w' => e = .returned (.bool true) ∧ Fr [] w w' := by
  by_cases hl : 200 < n
  · have d1 : decide ((200 : Int) < (n : Int)) = true := by simp; omega
    go_enter Try.func7, Try.ntmps7
    go_wp2_with fail
    refine (saps_awake _).mono ?_
    rintro e w1 ⟨rfl, f1⟩
    go_wp2
    go_ret
    exact ⟨rfl, f1⟩
  · have d1 : decide ((200 : Int) < (n : Int)) = false := by simp; omega
    go_enter Try.func7, Try.ntmps7
    go_wp2_with fail
    refine (saps_awake _).mono ?_
    rintro e w1 ⟨rfl, f1⟩
    go_wp2_with fail
    refine (saps_New _).mono ?_
    rintro e w2 ⟨p, b, rfl, hS, hp, hb, f2⟩
    have h0 : AtM w w2 p [] := AtM.start hS hp hb f1 f2
    have hpl : p < w2.heap.size := hS.blk.lt
    have hsz := f1.size
    have hsz2 := f2.size
    have h00 : BothM w p w2.heap.size [] 0 (w2.alloc (.cells #[.slice none 0 0] 43)) := by
      refine ⟨Sl.nil, [], h0.on ((Fr.refl _ _).alloc _), (fun _ h => by cases h), ⟨Blk.new _ _ _, World.ownsRow_nil _ _ _ _, (fun _ h => by cases h), (fun _ h => by cases h), by simp [Sl.blk, Sl.nil], (fun _ h => by cases h)⟩, fun b hb => ?_, ⟨List.Perm.refl _, List.Pairwise.nil⟩, (fun _ h => by cases h)⟩
      simp [rfoot, Sl.blk, Sl.nil] at hb
      subst hb
      exact ⟨by omega, by omega⟩
    generalize hq : w2.heap.size = q at h00
    clear hS hp hb f1 f2 h0 hpl hsz hsz2
    go_wp2
    clear hq
    go_loopw [7] (fun i wr => ∃ (k : Nat) (m : List AE), i = .int .i64 k ∧ k ≤ n ∧ BothM w p q m k wr) (fun i _ => n - (intOf i).toNat)
    case atStart => exact ⟨0, [], rfl, by omega, h00⟩
    case round =>
      obtain ⟨k, m, rfl, hk, s, R, hB⟩ := hrel
      clear h00
      by_cases hlt : k < n
      · have d2 : decide ((k : Int) < (n : Int)) = true := by simp; omega
        obtain ⟨b', off, rfl, hc⟩ := ha.at_ k hlt
        obtain ⟨F, hF, hFn⟩ := hB.foot
        have hbl : b' < w.heap.size := World.block_lt_of_cell? w _ (hc 0 (by decide)).1
        have hfr := hB.at_.fr
        have c0 := hfr.cell (hc 0 (by decide)).1 (by simp)
        have c1 := hfr.cell (hc 1 (by decide)).1 (by simp)
        have c2 := hfr.cell (hc 2 (by decide)).1 (by simp)
        simp only [List.length_cons, List.length_nil, Nat.zero_add, Nat.reduceAdd, Nat.add_zero, List.getElem_cons_zero, List.getElem_cons_succ] at c0 c1 c2
        have hwf1 := (hc 1 (by decide)).2
        have hwf2 := (hc 2 (by decide)).2
        clear hc
        generalize g k 0 = D at *
        generalize g k 1 = N at *
        generalize g k 2 = C at *
        have hnb : b' ∉ F ++ rmut q s := fun hx => by
          rcases List.mem_append.1 hx with hx | hx
          · have := hFn _ hx; omega
          · have := (hB.new b' (by simp only [rmut, rfoot, List.mem_cons, List.mem_append] at hx ⊢; exact hx.imp id .inl)).1; omega
        have k0 : ∀ wx, Fr (F ++ rmut q s) wr wx → wx.cell? ⟨b', off + k * 3, none⟩ = some (.int .i64 D) := fun wx hf => hf.cell c0 hnb
        have k1 : ∀ wx, Fr (F ++ rmut q s) wr wx → wx.cell? ⟨b', off + k * 3 + 1, none⟩ = some (.int .i64 N) := fun wx hf => hf.cell c1 hnb
        have k2 : ∀ wx, Fr (F ++ rmut q s) wr wx → wx.cell? ⟨b', off + k * 3 + 2, none⟩ = some (.int .i64 C) := fun wx hf => hf.cell c2 hnb
        obtain ⟨m', hm'⟩ : ∃ m', (stepA m D N C).2 = m' := ⟨_, rfl⟩
        have HM := Lib.hid hm'
        obtain ⟨BMK, hBMK⟩ : ∃ BMK : World → Prop, BMK = BothM w p q m' (k + 1) := ⟨_, rfl⟩
        have hBon : ∀ w w', Fr [] w w' → BMK w → BMK w' := by subst hBMK; exact fun _ _ f h => BothM.on f h
        have HBM := Lib.hid hBMK
        have HB0 := Lib.hid (show Both0 w p q s R m k F wr from ⟨hB, hF⟩)
        have hB0on : ∀ w' w'', Fr [] w' w'' → Both0 w p q s R m k F w' → Both0 w p q s R m k F w'' := fun _ _ f h => ⟨h.1.on f, h.2.on f⟩
        clear hm' hBMK c0 c1 c2 hB hF
        go_wp2
        refine wp_region_keepsC (F ++ rmut q s) [false, false, false, false, false, false, true, false, false, false, false, false, false, false, false, false, false, false, false, false, false, false, false, false, false, false, false, false, false, false, false, false, false, false, false, false, false, false, false, false, false, false, false, false, false, false, false, false, false, false, false, false, false, false, false, false, false, false, false, false, false] [none, none, none, none, none, none, some 61, some 61, some 61, none, none, none, none, none, none, some 61, none, none, none, none, none, none, some 61, none, some 61, some 61, none, none, some 61, none, none, some 61, some 61, none, some 61, some 61, none, none, none, none, none, none, some 61, none, none, none, none, none, none, some 61, some 61, none, some 61, some 61, none, some 61, none, some 61, some 61, none, none] (Both0 w p q s R m k F) [Is (.pointer (some ⟨p, 0, none⟩)), Is (.pointer (some ⟨q, 0, none⟩)), Is (.slice (some ⟨b', off, none⟩) n cap), Is (.int .i64 (k : Int)), Is (.pointer (some ⟨b', off + k * 3, none⟩)), Is (.agg #[.int .i64 D, .int .i64 N, .int .i64 C]), (IsW (.bool true) BMK), (IsW (.bool false) BMK), (IsW (.bool false) BMK), Is (.pointer (some ⟨p, 0, none⟩)), Is (.slice (some ⟨b', off, none⟩) n cap), Is (.int .i64 (k : Int)), Is (.pointer (some ⟨b', off + k * 3, none⟩)), Is (.pointer (some ⟨b', off + k * 3 + 1, none⟩)), Is (.int .i64 N), (IsW (.int .i64 (clsA m' N)) BMK), Is (.pointer (some ⟨q, 0, none⟩)), Is (.slice (some ⟨b', off, none⟩) n cap), Is (.int .i64 (k : Int)), Is (.pointer (some ⟨b', off + k * 3, none⟩)), Is (.pointer (some ⟨b', off + k * 3 + 1, none⟩)), Is (.int .i64 N), (IsW (.int .i64 (clsA m' N)) BMK), Is (.bool false), (IsW (.bool false) BMK), (IsW (.bool false) BMK), Is (.pointer (some ⟨p, 0, none⟩)), Is (.int .i64 to), (IntsB (hearA m' to) BMK), Is (.pointer (some ⟨q, 0, none⟩)), Is (.int .i64 to), (IntsB (hearA m' to) BMK), (IsW (.bool true) BMK), Is (.bool false), (IsW (.bool false) BMK), (IsW (.bool false) BMK), Is (.pointer (some ⟨p, 0, none⟩)), Is (.slice (some ⟨b', off, none⟩) n cap), Is (.int .i64 (k : Int)), Is (.pointer (some ⟨b', off + k * 3, none⟩)), Is (.pointer (some ⟨b', off + k * 3 + 2, none⟩)), Is (.int .i64 C), (IntsB (hearA m' C) BMK), Is (.pointer (some ⟨q, 0, none⟩)), Is (.slice (some ⟨b', off, none⟩) n cap), Is (.int .i64 (k : Int)), Is (.pointer (some ⟨b', off + k * 3, none⟩)), Is (.pointer (some ⟨b', off + k * 3 + 2, none⟩)), Is (.int .i64 C), (IntsB (hearA m' C) BMK), (IsW (.bool true) BMK), Is (.bool false), (IsW (.bool false) BMK), (IsW (.bool false) BMK), Is (.pointer (some ⟨p, 0, none⟩)), (IntsB (hearA m' 255) BMK), Is (.pointer (some ⟨q, 0, none⟩)), (IntsB (hearA m' 255) BMK), (IsW (.bool true) BMK), Is (.bool false), Is (.bool false)] 61 (by kernel_rfl) (by kernel_rfl) (by kernel_rfl) (by kernel_rfl) (by kernel_rfl) (by kernel_rfl) (by kernel_rfl) (by kernel_rfl) ?hV (hB0on) (HB0.out) ?hS ?hD
        case hV =>
          repeat (first | exact trivial | exact Is.keepsN _ | exact Any.keepsN | exact IsW.keeps hBon | exact IntsB.keeps hBon | refine And.intro ?_ ?_)
        case hS =>
          (repeat' (first | exact trivial | refine And.intro ?_ ?_))
          · intro ac wx hf hbs hs hp K hK
            simp only [waits, holdsA, nth, Is, Any, List.filter_cons, List.filter_nil, List.map_cons, List.map_nil, Region.binds, if_true, true_and, and_true, Nat.reduceAdd, List.getElem?_cons_zero, List.getElem?_cons_succ, Option.bind_some, Array.getD_eq_getD_getElem?] at hp
            have hs5 := hs 5 (by kernel_rfl)
            simp only [Array.getD_eq_getD_getElem?, List.getElem?_toArray, List.getElem?_cons_succ, List.getElem?_cons_zero, Option.getD_some] at hs5
            clear hs
            clear hbs
            clear hp
            clear hf
            go_simp
            try dsimp only
            refine hK.out _ _ ?_ ?_
            · change Fr [] _ _
              ((repeat (first | (with_reducible exact Fr.refl _ _) | (with_reducible assumption) | (with_reducible refine Fr.drew ?_) | (with_reducible refine Fr.drewN ?_ _) | (with_reducible refine Fr.alloc ?_ _) | (with_reducible refine Fr.setL ?_ _ _ _ ?_) | (focus (refine Or.inl ?_; simp; done)) | (focus (refine Or.inr ?_; simp; done)) | (focus (refine Or.inr ?_; simp; omega)) | (focus (refine Or.inr ?_; omega)))); done)
            · simp only [nth]
              first | (unfold Is; rfl) | (unfold Any; exact trivial) | exact IsSl.new _ _ _ _ | assumption
          · intro ac wx hf hbs hs hp K hK
            simp only [waits, holdsA, nth, Is, Any, List.filter_cons, List.filter_nil, List.map_cons, List.map_nil, Region.binds, if_true, true_and, and_true, Nat.reduceAdd, List.getElem?_cons_zero, List.getElem?_cons_succ, Option.bind_some, Array.getD_eq_getD_getElem?] at hp
            have hs6 := hs 6 (by kernel_rfl)
            simp only [Array.getD_eq_getD_getElem?, List.getElem?_toArray, List.getElem?_cons_succ, List.getElem?_cons_zero, Option.getD_some] at hs6
            clear hs
            clear hbs
            clear hp
            clear hf
            go_simp
            try dsimp only
            refine hK.out _ _ ?_ ?_
            · change Fr [] _ _
              ((repeat (first | (with_reducible exact Fr.refl _ _) | (with_reducible assumption) | (with_reducible refine Fr.drew ?_) | (with_reducible refine Fr.drewN ?_ _) | (with_reducible refine Fr.alloc ?_ _) | (with_reducible refine Fr.setL ?_ _ _ _ ?_) | (focus (refine Or.inl ?_; simp; done)) | (focus (refine Or.inr ?_; simp; done)) | (focus (refine Or.inr ?_; simp; omega)) | (focus (refine Or.inr ?_; omega)))); done)
            · simp only [nth]
              first | (unfold Is; rfl) | (unfold Any; exact trivial) | exact IsSl.new _ _ _ _ | assumption
          · intro ac wx hf hbs hs hp K hK
            simp only [waits, holdsA, nth, Is, Any, List.filter_cons, List.filter_nil, List.map_cons, List.map_nil, Region.binds, if_true, true_and, and_true, Nat.reduceAdd, List.getElem?_cons_zero, List.getElem?_cons_succ, Option.bind_some, Array.getD_eq_getD_getElem?] at hp
            have hs0 := hs 0 (by kernel_rfl)
            simp only [Array.getD_eq_getD_getElem?, List.getElem?_toArray, List.getElem?_cons_succ, List.getElem?_cons_zero, Option.getD_some] at hs0
            clear hs
            clear hbs
            clear hp
            clear hf
            go_simp
            try dsimp only
            refine hK.out _ _ ?_ ?_
            · change Fr [] _ _
              ((repeat (first | (with_reducible exact Fr.refl _ _) | (with_reducible assumption) | (with_reducible refine Fr.drew ?_) | (with_reducible refine Fr.drewN ?_ _) | (with_reducible refine Fr.alloc ?_ _) | (with_reducible refine Fr.setL ?_ _ _ _ ?_) | (focus (refine Or.inl ?_; simp; done)) | (focus (refine Or.inr ?_; simp; done)) | (focus (refine Or.inr ?_; simp; omega)) | (focus (refine Or.inr ?_; omega)))); done)
            · simp only [nth]
              first | (unfold Is; rfl) | (unfold Any; exact trivial) | exact IsSl.new _ _ _ _ | assumption
          · intro ac wx hf hbs hs hp K hK
            simp only [waits, holdsA, nth, Is, Any, List.filter_cons, List.filter_nil, List.map_cons, List.map_nil, Region.binds, if_true, true_and, and_true, Nat.reduceAdd, List.getElem?_cons_zero, List.getElem?_cons_succ, Option.bind_some, Array.getD_eq_getD_getElem?] at hp
            have hs7 := hs 7 (by kernel_rfl)
            simp only [Array.getD_eq_getD_getElem?, List.getElem?_toArray, List.getElem?_cons_succ, List.getElem?_cons_zero, Option.getD_some] at hs7
            clear hs
            clear hbs
            clear hp
            clear hf
            go_simp
            try dsimp only
            refine hK.out _ _ ?_ ?_
            · change Fr [] _ _
              ((repeat (first | (with_reducible exact Fr.refl _ _) | (with_reducible assumption) | (with_reducible refine Fr.drew ?_) | (with_reducible refine Fr.drewN ?_ _) | (with_reducible refine Fr.alloc ?_ _) | (with_reducible refine Fr.setL ?_ _ _ _ ?_) | (focus (refine Or.inl ?_; simp; done)) | (focus (refine Or.inr ?_; simp; done)) | (focus (refine Or.inr ?_; simp; omega)) | (focus (refine Or.inr ?_; omega)))); done)
            · simp only [nth]
              first | (unfold Is; rfl) | (unfold Any; exact trivial) | exact IsSl.new _ _ _ _ | assumption
          · intro ac wx hf hbs hs hp K hK
            simp only [waits, holdsA, nth, Is, Any, List.filter_cons, List.filter_nil, List.map_cons, List.map_nil, Region.binds, if_true, true_and, and_true, Nat.reduceAdd, List.getElem?_cons_zero, List.getElem?_cons_succ, Option.bind_some, Array.getD_eq_getD_getElem?] at hp
            clear hs
            clear hbs
            obtain ⟨h2, h3⟩ := hp
            clear hf
            (try simp only [h2, h3])
            go_simp
            try dsimp only
            refine hK.out _ _ ?_ ?_
            · change Fr [] _ _
              ((repeat (first | (with_reducible exact Fr.refl _ _) | (with_reducible assumption) | (with_reducible refine Fr.drew ?_) | (with_reducible refine Fr.drewN ?_ _) | (with_reducible refine Fr.alloc ?_ _) | (with_reducible refine Fr.setL ?_ _ _ _ ?_) | (focus (refine Or.inl ?_; simp; done)) | (focus (refine Or.inr ?_; simp; done)) | (focus (refine Or.inr ?_; simp; omega)) | (focus (refine Or.inr ?_; omega)))); done)
            · simp only [nth]
              first | (unfold Is; rfl) | (unfold Any; exact trivial) | exact IsSl.new _ _ _ _ | assumption
          · intro ac wx hf hbs hs hp K hK
            simp only [waits, holdsA, nth, Is, Any, List.filter_cons, List.filter_nil, List.map_cons, List.map_nil, Region.binds, if_true, true_and, and_true, Nat.reduceAdd, List.getElem?_cons_zero, List.getElem?_cons_succ, Option.bind_some, Array.getD_eq_getD_getElem?] at hp
            clear hs
            clear hbs
            have h4 := hp
            clear hp
            have cx0 := k0 wx hf
            have cx1 := k1 wx hf
            have cx2 := k2 wx hf
            clear hf
            (try simp only [h4])
            go_simp
            try dsimp only
            refine hK.out _ _ ?_ ?_
            · change Fr [] _ _
              ((repeat (first | (with_reducible exact Fr.refl _ _) | (with_reducible assumption) | (with_reducible refine Fr.drew ?_) | (with_reducible refine Fr.drewN ?_ _) | (with_reducible refine Fr.alloc ?_ _) | (with_reducible refine Fr.setL ?_ _ _ _ ?_) | (focus (refine Or.inl ?_; simp; done)) | (focus (refine Or.inr ?_; simp; done)) | (focus (refine Or.inr ?_; simp; omega)) | (focus (refine Or.inr ?_; omega)))); done)
            · simp only [nth]
              first | (unfold Is; rfl) | (unfold Any; exact trivial) | exact IsSl.new _ _ _ _ | assumption
          · intro ac wx hf hbs hs hp K hK
            simp only [waits, holdsA, nth, Is, Any, List.filter_cons, List.filter_nil, List.map_cons, List.map_nil, Region.binds, if_true, true_and, and_true, Nat.reduceAdd, List.getElem?_cons_zero, List.getElem?_cons_succ, Option.bind_some, Array.getD_eq_getD_getElem?] at hp
            clear hs
            obtain ⟨h0, h1, h5⟩ := hp
            have hb0 := hbs (by kernel_rfl)
            (try simp only [h0, h1, h5])
            go_simp
            go_at_call 19
            refine (Do_full w _ p q s R m F k D N C hb0.1 hb0.2 (by omega)).mono ?_
            rintro e w' ⟨rfl, hb, hmu⟩
            refine hK.out _ _ ?_ ?_
            · obtain ⟨M, f, hM⟩ := hmu
              exact ⟨M, f, fun x hx => (hM x hx).imp id fun h => Nat.le_trans hf.size h⟩
            · simp only [nth]
              refine ⟨rfl, ?_⟩
              rw [HBM.out, ← HM.out]
              exact hb
          · intro ac wx hf hbs hs hp K hK
            simp only [waits, holdsA, nth, Is, Any, List.filter_cons, List.filter_nil, List.map_cons, List.map_nil, Region.binds, if_true, true_and, and_true, Nat.reduceAdd, List.getElem?_cons_zero, List.getElem?_cons_succ, Option.bind_some, Array.getD_eq_getD_getElem?] at hp
            clear hs
            clear hbs
            have h6 := hp
            clear hp
            have e6 := h6.1
            have hb := h6.2
            clear hf
            (try simp only [e6])
            go_simp
            refine hK.out _ _ ?_ ?_
            · change Fr [] _ _
              exact Fr.refl _ _
            · simp only [nth]
              exact ⟨rfl, hb⟩
          · intro ac wx hf hbs hs hp K hK
            simp only [waits, holdsA, nth, Is, Any, List.filter_cons, List.filter_nil, List.map_cons, List.map_nil, Region.binds, if_true, true_and, and_true, Nat.reduceAdd, List.getElem?_cons_zero, List.getElem?_cons_succ, Option.bind_some, Array.getD_eq_getD_getElem?] at hp
            clear hs
            clear hbs
            obtain ⟨h7, h6⟩ := hp
            have e7 := h7.1
            have hb := h7.2
            clear hf
            (try simp only [e7])
            go_simp
            refine hK.out _ _ ?_ ?_
            · change Fr [] _ _
              exact Fr.refl _ _
            · simp only [nth]
              exact ⟨rfl, hb⟩
          · intro ac wx hf hbs hs hp K hK
            simp only [waits, holdsA, nth, Is, Any, List.filter_cons, List.filter_nil, List.map_cons, List.map_nil, Region.binds, if_true, true_and, and_true, Nat.reduceAdd, List.getElem?_cons_zero, List.getElem?_cons_succ, Option.bind_some, Array.getD_eq_getD_getElem?] at hp
            have hs5 := hs 5 (by kernel_rfl)
            simp only [Array.getD_eq_getD_getElem?, List.getElem?_toArray, List.getElem?_cons_succ, List.getElem?_cons_zero, Option.getD_some] at hs5
            clear hs
            clear hbs
            have h8 := hp
            clear hp
            have hg8 := (getD_bool _ _).1 h8.1
            clear hf
            (try simp only [hg8])
            go_simp
            try dsimp only
            refine hK.out _ _ ?_ ?_
            · change Fr [] _ _
              ((repeat (first | (with_reducible exact Fr.refl _ _) | (with_reducible assumption) | (with_reducible refine Fr.drew ?_) | (with_reducible refine Fr.drewN ?_ _) | (with_reducible refine Fr.alloc ?_ _) | (with_reducible refine Fr.setL ?_ _ _ _ ?_) | (focus (refine Or.inl ?_; simp; done)) | (focus (refine Or.inr ?_; simp; done)) | (focus (refine Or.inr ?_; simp; omega)) | (focus (refine Or.inr ?_; omega)))); done)
            · simp only [nth]
              first | (unfold Is; rfl) | (unfold Any; exact trivial) | exact IsSl.new _ _ _ _ | assumption
          · intro ac wx hf hbs hs hp K hK
            simp only [waits, holdsA, nth, Is, Any, List.filter_cons, List.filter_nil, List.map_cons, List.map_nil, Region.binds, if_true, true_and, and_true, Nat.reduceAdd, List.getElem?_cons_zero, List.getElem?_cons_succ, Option.bind_some, Array.getD_eq_getD_getElem?] at hp
            have hs0 := hs 0 (by kernel_rfl)
            simp only [Array.getD_eq_getD_getElem?, List.getElem?_toArray, List.getElem?_cons_succ, List.getElem?_cons_zero, Option.getD_some] at hs0
            clear hs
            clear hbs
            have h8 := hp
            clear hp
            have hg8 := (getD_bool _ _).1 h8.1
            clear hf
            (try simp only [hg8])
            go_simp
            try dsimp only
            refine hK.out _ _ ?_ ?_
            · change Fr [] _ _
              ((repeat (first | (with_reducible exact Fr.refl _ _) | (with_reducible assumption) | (with_reducible refine Fr.drew ?_) | (with_reducible refine Fr.drewN ?_ _) | (with_reducible refine Fr.alloc ?_ _) | (with_reducible refine Fr.setL ?_ _ _ _ ?_) | (focus (refine Or.inl ?_; simp; done)) | (focus (refine Or.inr ?_; simp; done)) | (focus (refine Or.inr ?_; simp; omega)) | (focus (refine Or.inr ?_; omega)))); done)
            · simp only [nth]
              first | (unfold Is; rfl) | (unfold Any; exact trivial) | exact IsSl.new _ _ _ _ | assumption
          · intro ac wx hf hbs hs hp K hK
            simp only [waits, holdsA, nth, Is, Any, List.filter_cons, List.filter_nil, List.map_cons, List.map_nil, Region.binds, if_true, true_and, and_true, Nat.reduceAdd, List.getElem?_cons_zero, List.getElem?_cons_succ, Option.bind_some, Array.getD_eq_getD_getElem?] at hp
            have hs7 := hs 7 (by kernel_rfl)
            simp only [Array.getD_eq_getD_getElem?, List.getElem?_toArray, List.getElem?_cons_succ, List.getElem?_cons_zero, Option.getD_some] at hs7
            clear hs
            clear hbs
            have h8 := hp
            clear hp
            have hg8 := (getD_bool _ _).1 h8.1
            clear hf
            (try simp only [hg8])
            go_simp
            try dsimp only
            refine hK.out _ _ ?_ ?_
            · change Fr [] _ _
              ((repeat (first | (with_reducible exact Fr.refl _ _) | (with_reducible assumption) | (with_reducible refine Fr.drew ?_) | (with_reducible refine Fr.drewN ?_ _) | (with_reducible refine Fr.alloc ?_ _) | (with_reducible refine Fr.setL ?_ _ _ _ ?_) | (focus (refine Or.inl ?_; simp; done)) | (focus (refine Or.inr ?_; simp; done)) | (focus (refine Or.inr ?_; simp; omega)) | (focus (refine Or.inr ?_; omega)))); done)
            · simp only [nth]
              first | (unfold Is; rfl) | (unfold Any; exact trivial) | exact IsSl.new _ _ _ _ | assumption
          · intro ac wx hf hbs hs hp K hK
            simp only [waits, holdsA, nth, Is, Any, List.filter_cons, List.filter_nil, List.map_cons, List.map_nil, Region.binds, if_true, true_and, and_true, Nat.reduceAdd, List.getElem?_cons_zero, List.getElem?_cons_succ, Option.bind_some, Array.getD_eq_getD_getElem?] at hp
            clear hs
            clear hbs
            obtain ⟨h10, h11, h8⟩ := hp
            have hg8 := (getD_bool _ _).1 h8.1
            clear hf
            (try simp only [h10, h11, hg8])
            go_simp
            try dsimp only
            refine hK.out _ _ ?_ ?_
            · change Fr [] _ _
              ((repeat (first | (with_reducible exact Fr.refl _ _) | (with_reducible assumption) | (with_reducible refine Fr.drew ?_) | (with_reducible refine Fr.drewN ?_ _) | (with_reducible refine Fr.alloc ?_ _) | (with_reducible refine Fr.setL ?_ _ _ _ ?_) | (focus (refine Or.inl ?_; simp; done)) | (focus (refine Or.inr ?_; simp; done)) | (focus (refine Or.inr ?_; simp; omega)) | (focus (refine Or.inr ?_; omega)))); done)
            · simp only [nth]
              first | (unfold Is; rfl) | (unfold Any; exact trivial) | exact IsSl.new _ _ _ _ | assumption
          · intro ac wx hf hbs hs hp K hK
            simp only [waits, holdsA, nth, Is, Any, List.filter_cons, List.filter_nil, List.map_cons, List.map_nil, Region.binds, if_true, true_and, and_true, Nat.reduceAdd, List.getElem?_cons_zero, List.getElem?_cons_succ, Option.bind_some, Array.getD_eq_getD_getElem?] at hp
            clear hs
            clear hbs
            obtain ⟨h12, h8⟩ := hp
            have hg8 := (getD_bool _ _).1 h8.1
            clear hf
            (try simp only [h12, hg8])
            go_simp
            try dsimp only
            refine hK.out _ _ ?_ ?_
            · change Fr [] _ _
              ((repeat (first | (with_reducible exact Fr.refl _ _) | (with_reducible assumption) | (with_reducible refine Fr.drew ?_) | (with_reducible refine Fr.drewN ?_ _) | (with_reducible refine Fr.alloc ?_ _) | (with_reducible refine Fr.setL ?_ _ _ _ ?_) | (focus (refine Or.inl ?_; simp; done)) | (focus (refine Or.inr ?_; simp; done)) | (focus (refine Or.inr ?_; simp; omega)) | (focus (refine Or.inr ?_; omega)))); done)
            · simp only [nth]
              first | (unfold Is; rfl) | (unfold Any; exact trivial) | exact IsSl.new _ _ _ _ | assumption
          · intro ac wx hf hbs hs hp K hK
            simp only [waits, holdsA, nth, Is, Any, List.filter_cons, List.filter_nil, List.map_cons, List.map_nil, Region.binds, if_true, true_and, and_true, Nat.reduceAdd, List.getElem?_cons_zero, List.getElem?_cons_succ, Option.bind_some, Array.getD_eq_getD_getElem?] at hp
            clear hs
            clear hbs
            obtain ⟨h13, h8⟩ := hp
            have hg8 := (getD_bool _ _).1 h8.1
            have cx := k1 wx hf
            clear hf
            (try simp only [h13, hg8])
            go_simp
            try dsimp only
            refine hK.out _ _ ?_ ?_
            · change Fr [] _ _
              ((repeat (first | (with_reducible exact Fr.refl _ _) | (with_reducible assumption) | (with_reducible refine Fr.drew ?_) | (with_reducible refine Fr.drewN ?_ _) | (with_reducible refine Fr.alloc ?_ _) | (with_reducible refine Fr.setL ?_ _ _ _ ?_) | (focus (refine Or.inl ?_; simp; done)) | (focus (refine Or.inr ?_; simp; done)) | (focus (refine Or.inr ?_; simp; omega)) | (focus (refine Or.inr ?_; omega)))); done)
            · simp only [nth]
              first | (unfold Is; rfl) | (unfold Any; exact trivial) | exact IsSl.new _ _ _ _ | assumption
          · intro ac wx hf hbs hs hp K hK
            simp only [waits, holdsA, nth, Is, Any, List.filter_cons, List.filter_nil, List.map_cons, List.map_nil, Region.binds, if_true, true_and, and_true, Nat.reduceAdd, List.getElem?_cons_zero, List.getElem?_cons_succ, Option.bind_some, Array.getD_eq_getD_getElem?] at hp
            clear hs
            clear hbs
            obtain ⟨h9, h14, h8, h8_2⟩ := hp
            have hg8 := (getD_bool _ _).1 h8.1
            have hb := h8.2
            (try simp only [h9, h14, hg8])
            go_simp
            go_at_call 13
            have hb' := hb
            rw [HBM.out] at hb'
            obtain ⟨s', R', hB'⟩ := hb'
            refine (Class_any w _ p m' N hB'.at_).mono ?_
            rintro e w' ⟨rfl, rfl⟩
            refine hK.out _ _ ?_ ?_
            · change Fr [] _ _
              exact Fr.refl _ _
            · simp only [nth]
              exact ⟨rfl, hb⟩
          · intro ac wx hf hbs hs hp K hK
            simp only [waits, holdsA, nth, Is, Any, List.filter_cons, List.filter_nil, List.map_cons, List.map_nil, Region.binds, if_true, true_and, and_true, Nat.reduceAdd, List.getElem?_cons_zero, List.getElem?_cons_succ, Option.bind_some, Array.getD_eq_getD_getElem?] at hp
            have hs6 := hs 6 (by kernel_rfl)
            simp only [Array.getD_eq_getD_getElem?, List.getElem?_toArray, List.getElem?_cons_succ, List.getElem?_cons_zero, Option.getD_some] at hs6
            clear hs
            clear hbs
            have h8 := hp
            clear hp
            have hg8 := (getD_bool _ _).1 h8.1
            clear hf
            (try simp only [hg8])
            go_simp
            try dsimp only
            refine hK.out _ _ ?_ ?_
            · change Fr [] _ _
              ((repeat (first | (with_reducible exact Fr.refl _ _) | (with_reducible assumption) | (with_reducible refine Fr.drew ?_) | (with_reducible refine Fr.drewN ?_ _) | (with_reducible refine Fr.alloc ?_ _) | (with_reducible refine Fr.setL ?_ _ _ _ ?_) | (focus (refine Or.inl ?_; simp; done)) | (focus (refine Or.inr ?_; simp; done)) | (focus (refine Or.inr ?_; simp; omega)) | (focus (refine Or.inr ?_; omega)))); done)
            · simp only [nth]
              first | (unfold Is; rfl) | (unfold Any; exact trivial) | exact IsSl.new _ _ _ _ | assumption
          · intro ac wx hf hbs hs hp K hK
            simp only [waits, holdsA, nth, Is, Any, List.filter_cons, List.filter_nil, List.map_cons, List.map_nil, Region.binds, if_true, true_and, and_true, Nat.reduceAdd, List.getElem?_cons_zero, List.getElem?_cons_succ, Option.bind_some, Array.getD_eq_getD_getElem?] at hp
            have hs0 := hs 0 (by kernel_rfl)
            simp only [Array.getD_eq_getD_getElem?, List.getElem?_toArray, List.getElem?_cons_succ, List.getElem?_cons_zero, Option.getD_some] at hs0
            clear hs
            clear hbs
            have h8 := hp
            clear hp
            have hg8 := (getD_bool _ _).1 h8.1
            clear hf
            (try simp only [hg8])
            go_simp
            try dsimp only
            refine hK.out _ _ ?_ ?_
            · change Fr [] _ _
              ((repeat (first | (with_reducible exact Fr.refl _ _) | (with_reducible assumption) | (with_reducible refine Fr.drew ?_) | (with_reducible refine Fr.drewN ?_ _) | (with_reducible refine Fr.alloc ?_ _) | (with_reducible refine Fr.setL ?_ _ _ _ ?_) | (focus (refine Or.inl ?_; simp; done)) | (focus (refine Or.inr ?_; simp; done)) | (focus (refine Or.inr ?_; simp; omega)) | (focus (refine Or.inr ?_; omega)))); done)
            · simp only [nth]
              first | (unfold Is; rfl) | (unfold Any; exact trivial) | exact IsSl.new _ _ _ _ | assumption
          · intro ac wx hf hbs hs hp K hK
            simp only [waits, holdsA, nth, Is, Any, List.filter_cons, List.filter_nil, List.map_cons, List.map_nil, Region.binds, if_true, true_and, and_true, Nat.reduceAdd, List.getElem?_cons_zero, List.getElem?_cons_succ, Option.bind_some, Array.getD_eq_getD_getElem?] at hp
            have hs7 := hs 7 (by kernel_rfl)
            simp only [Array.getD_eq_getD_getElem?, List.getElem?_toArray, List.getElem?_cons_succ, List.getElem?_cons_zero, Option.getD_some] at hs7
            clear hs
            clear hbs
            have h8 := hp
            clear hp
            have hg8 := (getD_bool _ _).1 h8.1
            clear hf
            (try simp only [hg8])
            go_simp
            try dsimp only
            refine hK.out _ _ ?_ ?_
            · change Fr [] _ _
              ((repeat (first | (with_reducible exact Fr.refl _ _) | (with_reducible assumption) | (with_reducible refine Fr.drew ?_) | (with_reducible refine Fr.drewN ?_ _) | (with_reducible refine Fr.alloc ?_ _) | (with_reducible refine Fr.setL ?_ _ _ _ ?_) | (focus (refine Or.inl ?_; simp; done)) | (focus (refine Or.inr ?_; simp; done)) | (focus (refine Or.inr ?_; simp; omega)) | (focus (refine Or.inr ?_; omega)))); done)
            · simp only [nth]
              first | (unfold Is; rfl) | (unfold Any; exact trivial) | exact IsSl.new _ _ _ _ | assumption
          · intro ac wx hf hbs hs hp K hK
            simp only [waits, holdsA, nth, Is, Any, List.filter_cons, List.filter_nil, List.map_cons, List.map_nil, Region.binds, if_true, true_and, and_true, Nat.reduceAdd, List.getElem?_cons_zero, List.getElem?_cons_succ, Option.bind_some, Array.getD_eq_getD_getElem?] at hp
            clear hs
            clear hbs
            obtain ⟨h17, h18, h8⟩ := hp
            have hg8 := (getD_bool _ _).1 h8.1
            clear hf
            (try simp only [h17, h18, hg8])
            go_simp
            try dsimp only
            refine hK.out _ _ ?_ ?_
            · change Fr [] _ _
              ((repeat (first | (with_reducible exact Fr.refl _ _) | (with_reducible assumption) | (with_reducible refine Fr.drew ?_) | (with_reducible refine Fr.drewN ?_ _) | (with_reducible refine Fr.alloc ?_ _) | (with_reducible refine Fr.setL ?_ _ _ _ ?_) | (focus (refine Or.inl ?_; simp; done)) | (focus (refine Or.inr ?_; simp; done)) | (focus (refine Or.inr ?_; simp; omega)) | (focus (refine Or.inr ?_; omega)))); done)
            · simp only [nth]
              first | (unfold Is; rfl) | (unfold Any; exact trivial) | exact IsSl.new _ _ _ _ | assumption
          · intro ac wx hf hbs hs hp K hK
            simp only [waits, holdsA, nth, Is, Any, List.filter_cons, List.filter_nil, List.map_cons, List.map_nil, Region.binds, if_true, true_and, and_true, Nat.reduceAdd, List.getElem?_cons_zero, List.getElem?_cons_succ, Option.bind_some, Array.getD_eq_getD_getElem?] at hp
            clear hs
            clear hbs
            obtain ⟨h19, h8⟩ := hp
            have hg8 := (getD_bool _ _).1 h8.1
            clear hf
            (try simp only [h19, hg8])
            go_simp
            try dsimp only
            refine hK.out _ _ ?_ ?_
            · change Fr [] _ _
              ((repeat (first | (with_reducible exact Fr.refl _ _) | (with_reducible assumption) | (with_reducible refine Fr.drew ?_) | (with_reducible refine Fr.drewN ?_ _) | (with_reducible refine Fr.alloc ?_ _) | (with_reducible refine Fr.setL ?_ _ _ _ ?_) | (focus (refine Or.inl ?_; simp; done)) | (focus (refine Or.inr ?_; simp; done)) | (focus (refine Or.inr ?_; simp; omega)) | (focus (refine Or.inr ?_; omega)))); done)
            · simp only [nth]
              first | (unfold Is; rfl) | (unfold Any; exact trivial) | exact IsSl.new _ _ _ _ | assumption
          · intro ac wx hf hbs hs hp K hK
            simp only [waits, holdsA, nth, Is, Any, List.filter_cons, List.filter_nil, List.map_cons, List.map_nil, Region.binds, if_true, true_and, and_true, Nat.reduceAdd, List.getElem?_cons_zero, List.getElem?_cons_succ, Option.bind_some, Array.getD_eq_getD_getElem?] at hp
            clear hs
            clear hbs
            obtain ⟨h20, h8⟩ := hp
            have hg8 := (getD_bool _ _).1 h8.1
            have cx := k1 wx hf
            clear hf
            (try simp only [h20, hg8])
            go_simp
            try dsimp only
            refine hK.out _ _ ?_ ?_
            · change Fr [] _ _
              ((repeat (first | (with_reducible exact Fr.refl _ _) | (with_reducible assumption) | (with_reducible refine Fr.drew ?_) | (with_reducible refine Fr.drewN ?_ _) | (with_reducible refine Fr.alloc ?_ _) | (with_reducible refine Fr.setL ?_ _ _ _ ?_) | (focus (refine Or.inl ?_; simp; done)) | (focus (refine Or.inr ?_; simp; done)) | (focus (refine Or.inr ?_; simp; omega)) | (focus (refine Or.inr ?_; omega)))); done)
            · simp only [nth]
              first | (unfold Is; rfl) | (unfold Any; exact trivial) | exact IsSl.new _ _ _ _ | assumption
          · intro ac wx hf hbs hs hp K hK
            simp only [waits, holdsA, nth, Is, Any, List.filter_cons, List.filter_nil, List.map_cons, List.map_nil, Region.binds, if_true, true_and, and_true, Nat.reduceAdd, List.getElem?_cons_zero, List.getElem?_cons_succ, Option.bind_some, Array.getD_eq_getD_getElem?] at hp
            clear hs
            clear hbs
            obtain ⟨h16, h21, h15, h8⟩ := hp
            have hg8 := (getD_bool _ _).1 h8.1
            have hb := h15.2
            (try simp only [h16, h21, hg8])
            go_simp
            go_at_call 20
            have hb' := hb
            rw [HBM.out] at hb'
            obtain ⟨s', R', hB'⟩ := hb'
            refine (r_Class _ q s' R' N hB'.isR (by have := hB'.lenR; omega)).mono ?_
            rintro e w' ⟨rfl, rfl⟩
            refine hK.out _ _ ?_ ?_
            · change Fr [] _ _
              exact Fr.refl _ _
            · simp only [nth]
              exact ⟨by rw [hB'.rel.cls], hb⟩
          · intro ac wx hf hbs hs hp K hK
            simp only [waits, holdsA, nth, Is, Any, List.filter_cons, List.filter_nil, List.map_cons, List.map_nil, Region.binds, if_true, true_and, and_true, Nat.reduceAdd, List.getElem?_cons_zero, List.getElem?_cons_succ, Option.bind_some, Array.getD_eq_getD_getElem?] at hp
            clear hs
            clear hbs
            obtain ⟨h15, h22, h8⟩ := hp
            have hg8 := (getD_bool _ _).1 h8.1
            have e9 := h15.1
            have e8 := h22.1
            clear hf
            (try simp only [hg8, e9, e8])
            go_simp
            try dsimp only
            refine hK.out _ _ ?_ ?_
            · change Fr [] _ _
              ((repeat (first | (with_reducible exact Fr.refl _ _) | (with_reducible assumption) | (with_reducible refine Fr.drew ?_) | (with_reducible refine Fr.drewN ?_ _) | (with_reducible refine Fr.alloc ?_ _) | (with_reducible refine Fr.setL ?_ _ _ _ ?_) | (focus (refine Or.inl ?_; simp; done)) | (focus (refine Or.inr ?_; simp; done)) | (focus (refine Or.inr ?_; simp; omega)) | (focus (refine Or.inr ?_; omega)))); done)
            · simp only [nth]
              first | (unfold Is; rfl) | (unfold Any; exact trivial) | exact IsSl.new _ _ _ _ | assumption
          · intro ac wx hf hbs hs hp K hK
            simp only [waits, holdsA, nth, Is, Any, List.filter_cons, List.filter_nil, List.map_cons, List.map_nil, Region.binds, if_true, true_and, and_true, Nat.reduceAdd, List.getElem?_cons_zero, List.getElem?_cons_succ, Option.bind_some, Array.getD_eq_getD_getElem?] at hp
            clear hs
            clear hbs
            obtain ⟨h8, h23⟩ := hp
            have e8 := h8.1
            have hb := h8.2
            clear hf
            (try simp only [h23, e8])
            go_simp
            refine hK.out _ _ ?_ ?_
            · change Fr [] _ _
              exact Fr.refl _ _
            · simp only [nth]
              exact ⟨rfl, hb⟩
          · intro ac wx hf hbs hs hp K hK
            simp only [waits, holdsA, nth, Is, Any, List.filter_cons, List.filter_nil, List.map_cons, List.map_nil, Region.binds, if_true, true_and, and_true, Nat.reduceAdd, List.getElem?_cons_zero, List.getElem?_cons_succ, Option.bind_some, Array.getD_eq_getD_getElem?] at hp
            clear hs
            clear hbs
            obtain ⟨h24, h22⟩ := hp
            have e24 := h24.1
            have hb := h24.2
            clear hf
            (try simp only [e24])
            go_simp
            refine hK.out _ _ ?_ ?_
            · change Fr [] _ _
              exact Fr.refl _ _
            · simp only [nth]
              exact ⟨rfl, hb⟩
          · intro ac wx hf hbs hs hp K hK
            simp only [waits, holdsA, nth, Is, Any, List.filter_cons, List.filter_nil, List.map_cons, List.map_nil, Region.binds, if_true, true_and, and_true, Nat.reduceAdd, List.getElem?_cons_zero, List.getElem?_cons_succ, Option.bind_some, Array.getD_eq_getD_getElem?] at hp
            have hs5 := hs 5 (by kernel_rfl)
            simp only [Array.getD_eq_getD_getElem?, List.getElem?_toArray, List.getElem?_cons_succ, List.getElem?_cons_zero, Option.getD_some] at hs5
            clear hs
            clear hbs
            have h25 := hp
            clear hp
            have hg25 := (getD_bool _ _).1 h25.1
            clear hf
            (try simp only [hg25])
            go_simp
            try dsimp only
            refine hK.out _ _ ?_ ?_
            · change Fr [] _ _
              ((repeat (first | (with_reducible exact Fr.refl _ _) | (with_reducible assumption) | (with_reducible refine Fr.drew ?_) | (with_reducible refine Fr.drewN ?_ _) | (with_reducible refine Fr.alloc ?_ _) | (with_reducible refine Fr.setL ?_ _ _ _ ?_) | (focus (refine Or.inl ?_; simp; done)) | (focus (refine Or.inr ?_; simp; done)) | (focus (refine Or.inr ?_; simp; omega)) | (focus (refine Or.inr ?_; omega)))); done)
            · simp only [nth]
              first | (unfold Is; rfl) | (unfold Any; exact trivial) | exact IsSl.new _ _ _ _ | assumption
          · intro ac wx hf hbs hs hp K hK
            simp only [waits, holdsA, nth, Is, Any, List.filter_cons, List.filter_nil, List.map_cons, List.map_nil, Region.binds, if_true, true_and, and_true, Nat.reduceAdd, List.getElem?_cons_zero, List.getElem?_cons_succ, Option.bind_some, Array.getD_eq_getD_getElem?] at hp
            have hs1 := hs 1 (by kernel_rfl)
            simp only [Array.getD_eq_getD_getElem?, List.getElem?_toArray, List.getElem?_cons_succ, List.getElem?_cons_zero, Option.getD_some] at hs1
            clear hs
            clear hbs
            have h25 := hp
            clear hp
            have hg25 := (getD_bool _ _).1 h25.1
            clear hf
            (try simp only [hg25])
            go_simp
            try dsimp only
            refine hK.out _ _ ?_ ?_
            · change Fr [] _ _
              ((repeat (first | (with_reducible exact Fr.refl _ _) | (with_reducible assumption) | (with_reducible refine Fr.drew ?_) | (with_reducible refine Fr.drewN ?_ _) | (with_reducible refine Fr.alloc ?_ _) | (with_reducible refine Fr.setL ?_ _ _ _ ?_) | (focus (refine Or.inl ?_; simp; done)) | (focus (refine Or.inr ?_; simp; done)) | (focus (refine Or.inr ?_; simp; omega)) | (focus (refine Or.inr ?_; omega)))); done)
            · simp only [nth]
              first | (unfold Is; rfl) | (unfold Any; exact trivial) | exact IsSl.new _ _ _ _ | assumption
          · intro ac wx hf hbs hs hp K hK
            simp only [waits, holdsA, nth, Is, Any, List.filter_cons, List.filter_nil, List.map_cons, List.map_nil, Region.binds, if_true, true_and, and_true, Nat.reduceAdd, List.getElem?_cons_zero, List.getElem?_cons_succ, Option.bind_some, Array.getD_eq_getD_getElem?] at hp
            clear hs
            clear hbs
            obtain ⟨h26, h27, h25, h25_2⟩ := hp
            have hg25 := (getD_bool _ _).1 h25.1
            have hb := h25.2
            (try simp only [h26, h27, hg25])
            go_simp
            go_at_call 17
            have hb' := hb
            rw [HBM.out] at hb'
            obtain ⟨s', R', hB'⟩ := hb'
            refine (Hears_any w _ p m' to hB'.at_).mono ?_
            rintro e w' ⟨s9, rfl, ho9, hA9, f9⟩
            refine hK.out _ _ ?_ ?_
            · change Fr [] _ _
              exact f9
            · simp only [nth]
              refine ⟨⟨s9, rfl, ?_⟩, hBon _ _ f9 hb⟩
              have hw := hear_wf hB'.ga (to)
              exact Ints.ofOwn ho9 hw
          · intro ac wx hf hbs hs hp K hK
            simp only [waits, holdsA, nth, Is, Any, List.filter_cons, List.filter_nil, List.map_cons, List.map_nil, Region.binds, if_true, true_and, and_true, Nat.reduceAdd, List.getElem?_cons_zero, List.getElem?_cons_succ, Option.bind_some, Array.getD_eq_getD_getElem?] at hp
            have hs6 := hs 6 (by kernel_rfl)
            simp only [Array.getD_eq_getD_getElem?, List.getElem?_toArray, List.getElem?_cons_succ, List.getElem?_cons_zero, Option.getD_some] at hs6
            clear hs
            clear hbs
            have h25 := hp
            clear hp
            have hg25 := (getD_bool _ _).1 h25.1
            clear hf
            (try simp only [hg25])
            go_simp
            try dsimp only
            refine hK.out _ _ ?_ ?_
            · change Fr [] _ _
              ((repeat (first | (with_reducible exact Fr.refl _ _) | (with_reducible assumption) | (with_reducible refine Fr.drew ?_) | (with_reducible refine Fr.drewN ?_ _) | (with_reducible refine Fr.alloc ?_ _) | (with_reducible refine Fr.setL ?_ _ _ _ ?_) | (focus (refine Or.inl ?_; simp; done)) | (focus (refine Or.inr ?_; simp; done)) | (focus (refine Or.inr ?_; simp; omega)) | (focus (refine Or.inr ?_; omega)))); done)
            · simp only [nth]
              first | (unfold Is; rfl) | (unfold Any; exact trivial) | exact IsSl.new _ _ _ _ | assumption
          · intro ac wx hf hbs hs hp K hK
            simp only [waits, holdsA, nth, Is, Any, List.filter_cons, List.filter_nil, List.map_cons, List.map_nil, Region.binds, if_true, true_and, and_true, Nat.reduceAdd, List.getElem?_cons_zero, List.getElem?_cons_succ, Option.bind_some, Array.getD_eq_getD_getElem?] at hp
            have hs1 := hs 1 (by kernel_rfl)
            simp only [Array.getD_eq_getD_getElem?, List.getElem?_toArray, List.getElem?_cons_succ, List.getElem?_cons_zero, Option.getD_some] at hs1
            clear hs
            clear hbs
            have h25 := hp
            clear hp
            have hg25 := (getD_bool _ _).1 h25.1
            clear hf
            (try simp only [hg25])
            go_simp
            try dsimp only
            refine hK.out _ _ ?_ ?_
            · change Fr [] _ _
              ((repeat (first | (with_reducible exact Fr.refl _ _) | (with_reducible assumption) | (with_reducible refine Fr.drew ?_) | (with_reducible refine Fr.drewN ?_ _) | (with_reducible refine Fr.alloc ?_ _) | (with_reducible refine Fr.setL ?_ _ _ _ ?_) | (focus (refine Or.inl ?_; simp; done)) | (focus (refine Or.inr ?_; simp; done)) | (focus (refine Or.inr ?_; simp; omega)) | (focus (refine Or.inr ?_; omega)))); done)
            · simp only [nth]
              first | (unfold Is; rfl) | (unfold Any; exact trivial) | exact IsSl.new _ _ _ _ | assumption
          · intro ac wx hf hbs hs hp K hK
            simp only [waits, holdsA, nth, Is, Any, List.filter_cons, List.filter_nil, List.map_cons, List.map_nil, Region.binds, if_true, true_and, and_true, Nat.reduceAdd, List.getElem?_cons_zero, List.getElem?_cons_succ, Option.bind_some, Array.getD_eq_getD_getElem?] at hp
            clear hs
            clear hbs
            obtain ⟨h29, h30, h28, h25⟩ := hp
            have hg25 := (getD_bool _ _).1 h25.1
            have hb := h28.2
            (try simp only [h29, h30, hg25])
            go_simp
            go_at_call 21
            have hb' := hb
            rw [HBM.out] at hb'
            obtain ⟨s', R', hB'⟩ := hb'
            refine (r_Hears _ q s' R' to hB'.isR (by have := hB'.lenR; omega) (fun x hx => Nat.le_trans (hB'.lenG x hx) (by omega))).mono ?_
            rintro e w' ⟨s9, rfl, ho9, f9⟩
            refine hK.out _ _ ?_ ?_
            · change Fr [] _ _
              exact f9
            · simp only [nth]
              refine ⟨⟨s9, rfl, ?_⟩, hBon _ _ f9 hb⟩
              rw [hB'.rel.hear] at ho9
              have hw := hear_wf hB'.ga (to)
              exact Ints.ofOwn ho9 hw
          · intro ac wx hf hbs hs hp K hK
            simp only [waits, holdsA, nth, Is, Any, List.filter_cons, List.filter_nil, List.map_cons, List.map_nil, Region.binds, if_true, true_and, and_true, Nat.reduceAdd, List.getElem?_cons_zero, List.getElem?_cons_succ, Option.bind_some, Array.getD_eq_getD_getElem?] at hp
            clear hs
            clear hbs
            obtain ⟨h28, h31, h31_2, h25⟩ := hp
            have hg25 := (getD_bool _ _).1 h25.1
            obtain ⟨⟨sa, ea, ia⟩, _⟩ := h28
            obtain ⟨⟨sb, eb, ib⟩, hb⟩ := h31
            (try simp only [ea, eb])
            (try simp only [hg25])
            go_simp
            go_at_call 16
            have hb' := hb
            rw [HBM.out] at hb'
            obtain ⟨s', R', hB'⟩ := hb'
            refine (law_Ints _ sa sb (hearA m' (to)) (hearA m' (to)) ia ib (by have h1 := hear_le (m := m') (to); have h2 := (hB'.at_.inv hB'.ga).small; omega)).mono ?_
            rintro e w' ⟨rfl, f9⟩
            refine hK.out _ _ ?_ ?_
            · change Fr [] _ _
              exact f9
            · simp only [nth]
              exact ⟨by rw [beq_self_eq_true], hBon _ _ f9 hb⟩
          · intro ac wx hf hbs hs hp K hK
            simp only [waits, holdsA, nth, Is, Any, List.filter_cons, List.filter_nil, List.map_cons, List.map_nil, Region.binds, if_true, true_and, and_true, Nat.reduceAdd, List.getElem?_cons_zero, List.getElem?_cons_succ, Option.bind_some, Array.getD_eq_getD_getElem?] at hp
            clear hs
            clear hbs
            obtain ⟨h32, h25⟩ := hp
            have hg25 := (getD_bool _ _).1 h25.1
            have e9 := h32.1
            clear hf
            (try simp only [hg25, e9])
            go_simp
            try dsimp only
            refine hK.out _ _ ?_ ?_
            · change Fr [] _ _
              ((repeat (first | (with_reducible exact Fr.refl _ _) | (with_reducible assumption) | (with_reducible refine Fr.drew ?_) | (with_reducible refine Fr.drewN ?_ _) | (with_reducible refine Fr.alloc ?_ _) | (with_reducible refine Fr.setL ?_ _ _ _ ?_) | (focus (refine Or.inl ?_; simp; done)) | (focus (refine Or.inr ?_; simp; done)) | (focus (refine Or.inr ?_; simp; omega)) | (focus (refine Or.inr ?_; omega)))); done)
            · simp only [nth]
              first | (unfold Is; rfl) | (unfold Any; exact trivial) | exact IsSl.new _ _ _ _ | assumption
          · intro ac wx hf hbs hs hp K hK
            simp only [waits, holdsA, nth, Is, Any, List.filter_cons, List.filter_nil, List.map_cons, List.map_nil, Region.binds, if_true, true_and, and_true, Nat.reduceAdd, List.getElem?_cons_zero, List.getElem?_cons_succ, Option.bind_some, Array.getD_eq_getD_getElem?] at hp
            clear hs
            clear hbs
            obtain ⟨h25, h33⟩ := hp
            have e25 := h25.1
            have hb := h25.2
            clear hf
            (try simp only [h33, e25])
            go_simp
            refine hK.out _ _ ?_ ?_
            · change Fr [] _ _
              exact Fr.refl _ _
            · simp only [nth]
              exact ⟨rfl, hb⟩
          · intro ac wx hf hbs hs hp K hK
            simp only [waits, holdsA, nth, Is, Any, List.filter_cons, List.filter_nil, List.map_cons, List.map_nil, Region.binds, if_true, true_and, and_true, Nat.reduceAdd, List.getElem?_cons_zero, List.getElem?_cons_succ, Option.bind_some, Array.getD_eq_getD_getElem?] at hp
            clear hs
            clear hbs
            obtain ⟨h34, h32⟩ := hp
            have e34 := h34.1
            have hb := h34.2
            clear hf
            (try simp only [e34])
            go_simp
            refine hK.out _ _ ?_ ?_
            · change Fr [] _ _
              exact Fr.refl _ _
            · simp only [nth]
              exact ⟨rfl, hb⟩
          · intro ac wx hf hbs hs hp K hK
            simp only [waits, holdsA, nth, Is, Any, List.filter_cons, List.filter_nil, List.map_cons, List.map_nil, Region.binds, if_true, true_and, and_true, Nat.reduceAdd, List.getElem?_cons_zero, List.getElem?_cons_succ, Option.bind_some, Array.getD_eq_getD_getElem?] at hp
            have hs5 := hs 5 (by kernel_rfl)
            simp only [Array.getD_eq_getD_getElem?, List.getElem?_toArray, List.getElem?_cons_succ, List.getElem?_cons_zero, Option.getD_some] at hs5
            clear hs
            clear hbs
            have h35 := hp
            clear hp
            have hg35 := (getD_bool _ _).1 h35.1
            clear hf
            (try simp only [hg35])
            go_simp
            try dsimp only
            refine hK.out _ _ ?_ ?_
            · change Fr [] _ _
              ((repeat (first | (with_reducible exact Fr.refl _ _) | (with_reducible assumption) | (with_reducible refine Fr.drew ?_) | (with_reducible refine Fr.drewN ?_ _) | (with_reducible refine Fr.alloc ?_ _) | (with_reducible refine Fr.setL ?_ _ _ _ ?_) | (focus (refine Or.inl ?_; simp; done)) | (focus (refine Or.inr ?_; simp; done)) | (focus (refine Or.inr ?_; simp; omega)) | (focus (refine Or.inr ?_; omega)))); done)
            · simp only [nth]
              first | (unfold Is; rfl) | (unfold Any; exact trivial) | exact IsSl.new _ _ _ _ | assumption
          · intro ac wx hf hbs hs hp K hK
            simp only [waits, holdsA, nth, Is, Any, List.filter_cons, List.filter_nil, List.map_cons, List.map_nil, Region.binds, if_true, true_and, and_true, Nat.reduceAdd, List.getElem?_cons_zero, List.getElem?_cons_succ, Option.bind_some, Array.getD_eq_getD_getElem?] at hp
            have hs0 := hs 0 (by kernel_rfl)
            simp only [Array.getD_eq_getD_getElem?, List.getElem?_toArray, List.getElem?_cons_succ, List.getElem?_cons_zero, Option.getD_some] at hs0
            clear hs
            clear hbs
            have h35 := hp
            clear hp
            have hg35 := (getD_bool _ _).1 h35.1
            clear hf
            (try simp only [hg35])
            go_simp
            try dsimp only
            refine hK.out _ _ ?_ ?_
            · change Fr [] _ _
              ((repeat (first | (with_reducible exact Fr.refl _ _) | (with_reducible assumption) | (with_reducible refine Fr.drew ?_) | (with_reducible refine Fr.drewN ?_ _) | (with_reducible refine Fr.alloc ?_ _) | (with_reducible refine Fr.setL ?_ _ _ _ ?_) | (focus (refine Or.inl ?_; simp; done)) | (focus (refine Or.inr ?_; simp; done)) | (focus (refine Or.inr ?_; simp; omega)) | (focus (refine Or.inr ?_; omega)))); done)
            · simp only [nth]
              first | (unfold Is; rfl) | (unfold Any; exact trivial) | exact IsSl.new _ _ _ _ | assumption
          · intro ac wx hf hbs hs hp K hK
            simp only [waits, holdsA, nth, Is, Any, List.filter_cons, List.filter_nil, List.map_cons, List.map_nil, Region.binds, if_true, true_and, and_true, Nat.reduceAdd, List.getElem?_cons_zero, List.getElem?_cons_succ, Option.bind_some, Array.getD_eq_getD_getElem?] at hp
            have hs7 := hs 7 (by kernel_rfl)
            simp only [Array.getD_eq_getD_getElem?, List.getElem?_toArray, List.getElem?_cons_succ, List.getElem?_cons_zero, Option.getD_some] at hs7
            clear hs
            clear hbs
            have h35 := hp
            clear hp
            have hg35 := (getD_bool _ _).1 h35.1
            clear hf
            (try simp only [hg35])
            go_simp
            try dsimp only
            refine hK.out _ _ ?_ ?_
            · change Fr [] _ _
              ((repeat (first | (with_reducible exact Fr.refl _ _) | (with_reducible assumption) | (with_reducible refine Fr.drew ?_) | (with_reducible refine Fr.drewN ?_ _) | (with_reducible refine Fr.alloc ?_ _) | (with_reducible refine Fr.setL ?_ _ _ _ ?_) | (focus (refine Or.inl ?_; simp; done)) | (focus (refine Or.inr ?_; simp; done)) | (focus (refine Or.inr ?_; simp; omega)) | (focus (refine Or.inr ?_; omega)))); done)
            · simp only [nth]
              first | (unfold Is; rfl) | (unfold Any; exact trivial) | exact IsSl.new _ _ _ _ | assumption
          · intro ac wx hf hbs hs hp K hK
            simp only [waits, holdsA, nth, Is, Any, List.filter_cons, List.filter_nil, List.map_cons, List.map_nil, Region.binds, if_true, true_and, and_true, Nat.reduceAdd, List.getElem?_cons_zero, List.getElem?_cons_succ, Option.bind_some, Array.getD_eq_getD_getElem?] at hp
            clear hs
            clear hbs
            obtain ⟨h37, h38, h35⟩ := hp
            have hg35 := (getD_bool _ _).1 h35.1
            clear hf
            (try simp only [h37, h38, hg35])
            go_simp
            try dsimp only
            refine hK.out _ _ ?_ ?_
            · change Fr [] _ _
              ((repeat (first | (with_reducible exact Fr.refl _ _) | (with_reducible assumption) | (with_reducible refine Fr.drew ?_) | (with_reducible refine Fr.drewN ?_ _) | (with_reducible refine Fr.alloc ?_ _) | (with_reducible refine Fr.setL ?_ _ _ _ ?_) | (focus (refine Or.inl ?_; simp; done)) | (focus (refine Or.inr ?_; simp; done)) | (focus (refine Or.inr ?_; simp; omega)) | (focus (refine Or.inr ?_; omega)))); done)
            · simp only [nth]
              first | (unfold Is; rfl) | (unfold Any; exact trivial) | exact IsSl.new _ _ _ _ | assumption
          · intro ac wx hf hbs hs hp K hK
            simp only [waits, holdsA, nth, Is, Any, List.filter_cons, List.filter_nil, List.map_cons, List.map_nil, Region.binds, if_true, true_and, and_true, Nat.reduceAdd, List.getElem?_cons_zero, List.getElem?_cons_succ, Option.bind_some, Array.getD_eq_getD_getElem?] at hp
            clear hs
            clear hbs
            obtain ⟨h39, h35⟩ := hp
            have hg35 := (getD_bool _ _).1 h35.1
            clear hf
            (try simp only [h39, hg35])
            go_simp
            try dsimp only
            refine hK.out _ _ ?_ ?_
            · change Fr [] _ _
              ((repeat (first | (with_reducible exact Fr.refl _ _) | (with_reducible assumption) | (with_reducible refine Fr.drew ?_) | (with_reducible refine Fr.drewN ?_ _) | (with_reducible refine Fr.alloc ?_ _) | (with_reducible refine Fr.setL ?_ _ _ _ ?_) | (focus (refine Or.inl ?_; simp; done)) | (focus (refine Or.inr ?_; simp; done)) | (focus (refine Or.inr ?_; simp; omega)) | (focus (refine Or.inr ?_; omega)))); done)
            · simp only [nth]
              first | (unfold Is; rfl) | (unfold Any; exact trivial) | exact IsSl.new _ _ _ _ | assumption
          · intro ac wx hf hbs hs hp K hK
            simp only [waits, holdsA, nth, Is, Any, List.filter_cons, List.filter_nil, List.map_cons, List.map_nil, Region.binds, if_true, true_and, and_true, Nat.reduceAdd, List.getElem?_cons_zero, List.getElem?_cons_succ, Option.bind_some, Array.getD_eq_getD_getElem?] at hp
            clear hs
            clear hbs
            obtain ⟨h40, h35⟩ := hp
            have hg35 := (getD_bool _ _).1 h35.1
            have cx := k2 wx hf
            clear hf
            (try simp only [h40, hg35])
            go_simp
            try dsimp only
            refine hK.out _ _ ?_ ?_
            · change Fr [] _ _
              ((repeat (first | (with_reducible exact Fr.refl _ _) | (with_reducible assumption) | (with_reducible refine Fr.drew ?_) | (with_reducible refine Fr.drewN ?_ _) | (with_reducible refine Fr.alloc ?_ _) | (with_reducible refine Fr.setL ?_ _ _ _ ?_) | (focus (refine Or.inl ?_; simp; done)) | (focus (refine Or.inr ?_; simp; done)) | (focus (refine Or.inr ?_; simp; omega)) | (focus (refine Or.inr ?_; omega)))); done)
            · simp only [nth]
              first | (unfold Is; rfl) | (unfold Any; exact trivial) | exact IsSl.new _ _ _ _ | assumption
          · intro ac wx hf hbs hs hp K hK
            simp only [waits, holdsA, nth, Is, Any, List.filter_cons, List.filter_nil, List.map_cons, List.map_nil, Region.binds, if_true, true_and, and_true, Nat.reduceAdd, List.getElem?_cons_zero, List.getElem?_cons_succ, Option.bind_some, Array.getD_eq_getD_getElem?] at hp
            clear hs
            clear hbs
            obtain ⟨h36, h41, h35, h35_2⟩ := hp
            have hg35 := (getD_bool _ _).1 h35.1
            have hb := h35.2
            (try simp only [h36, h41, hg35])
            go_simp
            go_at_call 17
            have hb' := hb
            rw [HBM.out] at hb'
            obtain ⟨s', R', hB'⟩ := hb'
            refine (Hears_any w _ p m' C hB'.at_).mono ?_
            rintro e w' ⟨s9, rfl, ho9, hA9, f9⟩
            refine hK.out _ _ ?_ ?_
            · change Fr [] _ _
              exact f9
            · simp only [nth]
              refine ⟨⟨s9, rfl, ?_⟩, hBon _ _ f9 hb⟩
              have hw := hear_wf hB'.ga (C)
              exact Ints.ofOwn ho9 hw
          · intro ac wx hf hbs hs hp K hK
            simp only [waits, holdsA, nth, Is, Any, List.filter_cons, List.filter_nil, List.map_cons, List.map_nil, Region.binds, if_true, true_and, and_true, Nat.reduceAdd, List.getElem?_cons_zero, List.getElem?_cons_succ, Option.bind_some, Array.getD_eq_getD_getElem?] at hp
            have hs6 := hs 6 (by kernel_rfl)
            simp only [Array.getD_eq_getD_getElem?, List.getElem?_toArray, List.getElem?_cons_succ, List.getElem?_cons_zero, Option.getD_some] at hs6
            clear hs
            clear hbs
            have h35 := hp
            clear hp
            have hg35 := (getD_bool _ _).1 h35.1
            clear hf
            (try simp only [hg35])
            go_simp
            try dsimp only
            refine hK.out _ _ ?_ ?_
            · change Fr [] _ _
              ((repeat (first | (with_reducible exact Fr.refl _ _) | (with_reducible assumption) | (with_reducible refine Fr.drew ?_) | (with_reducible refine Fr.drewN ?_ _) | (with_reducible refine Fr.alloc ?_ _) | (with_reducible refine Fr.setL ?_ _ _ _ ?_) | (focus (refine Or.inl ?_; simp; done)) | (focus (refine Or.inr ?_; simp; done)) | (focus (refine Or.inr ?_; simp; omega)) | (focus (refine Or.inr ?_; omega)))); done)
            · simp only [nth]
              first | (unfold Is; rfl) | (unfold Any; exact trivial) | exact IsSl.new _ _ _ _ | assumption
          · intro ac wx hf hbs hs hp K hK
            simp only [waits, holdsA, nth, Is, Any, List.filter_cons, List.filter_nil, List.map_cons, List.map_nil, Region.binds, if_true, true_and, and_true, Nat.reduceAdd, List.getElem?_cons_zero, List.getElem?_cons_succ, Option.bind_some, Array.getD_eq_getD_getElem?] at hp
            have hs0 := hs 0 (by kernel_rfl)
            simp only [Array.getD_eq_getD_getElem?, List.getElem?_toArray, List.getElem?_cons_succ, List.getElem?_cons_zero, Option.getD_some] at hs0
            clear hs
            clear hbs
            have h35 := hp
            clear hp
            have hg35 := (getD_bool _ _).1 h35.1
            clear hf
            (try simp only [hg35])
            go_simp
            try dsimp only
            refine hK.out _ _ ?_ ?_
            · change Fr [] _ _
              ((repeat (first | (with_reducible exact Fr.refl _ _) | (with_reducible assumption) | (with_reducible refine Fr.drew ?_) | (with_reducible refine Fr.drewN ?_ _) | (with_reducible refine Fr.alloc ?_ _) | (with_reducible refine Fr.setL ?_ _ _ _ ?_) | (focus (refine Or.inl ?_; simp; done)) | (focus (refine Or.inr ?_; simp; done)) | (focus (refine Or.inr ?_; simp; omega)) | (focus (refine Or.inr ?_; omega)))); done)
            · simp only [nth]
              first | (unfold Is; rfl) | (unfold Any; exact trivial) | exact IsSl.new _ _ _ _ | assumption
          · intro ac wx hf hbs hs hp K hK
            simp only [waits, holdsA, nth, Is, Any, List.filter_cons, List.filter_nil, List.map_cons, List.map_nil, Region.binds, if_true, true_and, and_true, Nat.reduceAdd, List.getElem?_cons_zero, List.getElem?_cons_succ, Option.bind_some, Array.getD_eq_getD_getElem?] at hp
            have hs7 := hs 7 (by kernel_rfl)
            simp only [Array.getD_eq_getD_getElem?, List.getElem?_toArray, List.getElem?_cons_succ, List.getElem?_cons_zero, Option.getD_some] at hs7
            clear hs
            clear hbs
            have h35 := hp
            clear hp
            have hg35 := (getD_bool _ _).1 h35.1
            clear hf
            (try simp only [hg35])
            go_simp
            try dsimp only
            refine hK.out _ _ ?_ ?_
            · change Fr [] _ _
              ((repeat (first | (with_reducible exact Fr.refl _ _) | (with_reducible assumption) | (with_reducible refine Fr.drew ?_) | (with_reducible refine Fr.drewN ?_ _) | (with_reducible refine Fr.alloc ?_ _) | (with_reducible refine Fr.setL ?_ _ _ _ ?_) | (focus (refine Or.inl ?_; simp; done)) | (focus (refine Or.inr ?_; simp; done)) | (focus (refine Or.inr ?_; simp; omega)) | (focus (refine Or.inr ?_; omega)))); done)
            · simp only [nth]
              first | (unfold Is; rfl) | (unfold Any; exact trivial) | exact IsSl.new _ _ _ _ | assumption
          · intro ac wx hf hbs hs hp K hK
            simp only [waits, holdsA, nth, Is, Any, List.filter_cons, List.filter_nil, List.map_cons, List.map_nil, Region.binds, if_true, true_and, and_true, Nat.reduceAdd, List.getElem?_cons_zero, List.getElem?_cons_succ, Option.bind_some, Array.getD_eq_getD_getElem?] at hp
            clear hs
            clear hbs
            obtain ⟨h44, h45, h35⟩ := hp
            have hg35 := (getD_bool _ _).1 h35.1
            clear hf
            (try simp only [h44, h45, hg35])
            go_simp
            try dsimp only
            refine hK.out _ _ ?_ ?_
            · change Fr [] _ _
              ((repeat (first | (with_reducible exact Fr.refl _ _) | (with_reducible assumption) | (with_reducible refine Fr.drew ?_) | (with_reducible refine Fr.drewN ?_ _) | (with_reducible refine Fr.alloc ?_ _) | (with_reducible refine Fr.setL ?_ _ _ _ ?_) | (focus (refine Or.inl ?_; simp; done)) | (focus (refine Or.inr ?_; simp; done)) | (focus (refine Or.inr ?_; simp; omega)) | (focus (refine Or.inr ?_; omega)))); done)
            · simp only [nth]
              first | (unfold Is; rfl) | (unfold Any; exact trivial) | exact IsSl.new _ _ _ _ | assumption
          · intro ac wx hf hbs hs hp K hK
            simp only [waits, holdsA, nth, Is, Any, List.filter_cons, List.filter_nil, List.map_cons, List.map_nil, Region.binds, if_true, true_and, and_true, Nat.reduceAdd, List.getElem?_cons_zero, List.getElem?_cons_succ, Option.bind_some, Array.getD_eq_getD_getElem?] at hp
            clear hs
            clear hbs
            obtain ⟨h46, h35⟩ := hp
            have hg35 := (getD_bool _ _).1 h35.1
            clear hf
            (try simp only [h46, hg35])
            go_simp
            try dsimp only
            refine hK.out _ _ ?_ ?_
            · change Fr [] _ _
              ((repeat (first | (with_reducible exact Fr.refl _ _) | (with_reducible assumption) | (with_reducible refine Fr.drew ?_) | (with_reducible refine Fr.drewN ?_ _) | (with_reducible refine Fr.alloc ?_ _) | (with_reducible refine Fr.setL ?_ _ _ _ ?_) | (focus (refine Or.inl ?_; simp; done)) | (focus (refine Or.inr ?_; simp; done)) | (focus (refine Or.inr ?_; simp; omega)) | (focus (refine Or.inr ?_; omega)))); done)
            · simp only [nth]
              first | (unfold Is; rfl) | (unfold Any; exact trivial) | exact IsSl.new _ _ _ _ | assumption
          · intro ac wx hf hbs hs hp K hK
            simp only [waits, holdsA, nth, Is, Any, List.filter_cons, List.filter_nil, List.map_cons, List.map_nil, Region.binds, if_true, true_and, and_true, Nat.reduceAdd, List.getElem?_cons_zero, List.getElem?_cons_succ, Option.bind_some, Array.getD_eq_getD_getElem?] at hp
            clear hs
            clear hbs
            obtain ⟨h47, h35⟩ := hp
            have hg35 := (getD_bool _ _).1 h35.1
            have cx := k2 wx hf
            clear hf
            (try simp only [h47, hg35])
            go_simp
            try dsimp only
            refine hK.out _ _ ?_ ?_
            · change Fr [] _ _
              ((repeat (first | (with_reducible exact Fr.refl _ _) | (with_reducible assumption) | (with_reducible refine Fr.drew ?_) | (with_reducible refine Fr.drewN ?_ _) | (with_reducible refine Fr.alloc ?_ _) | (with_reducible refine Fr.setL ?_ _ _ _ ?_) | (focus (refine Or.inl ?_; simp; done)) | (focus (refine Or.inr ?_; simp; done)) | (focus (refine Or.inr ?_; simp; omega)) | (focus (refine Or.inr ?_; omega)))); done)
            · simp only [nth]
              first | (unfold Is; rfl) | (unfold Any; exact trivial) | exact IsSl.new _ _ _ _ | assumption
          · intro ac wx hf hbs hs hp K hK
            simp only [waits, holdsA, nth, Is, Any, List.filter_cons, List.filter_nil, List.map_cons, List.map_nil, Region.binds, if_true, true_and, and_true, Nat.reduceAdd, List.getElem?_cons_zero, List.getElem?_cons_succ, Option.bind_some, Array.getD_eq_getD_getElem?] at hp
            clear hs
            clear hbs
            obtain ⟨h43, h48, h42, h35⟩ := hp
            have hg35 := (getD_bool _ _).1 h35.1
            have hb := h42.2
            (try simp only [h43, h48, hg35])
            go_simp
            go_at_call 21
            have hb' := hb
            rw [HBM.out] at hb'
            obtain ⟨s', R', hB'⟩ := hb'
            refine (r_Hears _ q s' R' C hB'.isR (by have := hB'.lenR; omega) (fun x hx => Nat.le_trans (hB'.lenG x hx) (by omega))).mono ?_
            rintro e w' ⟨s9, rfl, ho9, f9⟩
            refine hK.out _ _ ?_ ?_
            · change Fr [] _ _
              exact f9
            · simp only [nth]
              refine ⟨⟨s9, rfl, ?_⟩, hBon _ _ f9 hb⟩
              rw [hB'.rel.hear] at ho9
              have hw := hear_wf hB'.ga (C)
              exact Ints.ofOwn ho9 hw
          · intro ac wx hf hbs hs hp K hK
            simp only [waits, holdsA, nth, Is, Any, List.filter_cons, List.filter_nil, List.map_cons, List.map_nil, Region.binds, if_true, true_and, and_true, Nat.reduceAdd, List.getElem?_cons_zero, List.getElem?_cons_succ, Option.bind_some, Array.getD_eq_getD_getElem?] at hp
            clear hs
            clear hbs
            obtain ⟨h42, h49, h49_2, h35⟩ := hp
            have hg35 := (getD_bool _ _).1 h35.1
            obtain ⟨⟨sa, ea, ia⟩, _⟩ := h42
            obtain ⟨⟨sb, eb, ib⟩, hb⟩ := h49
            (try simp only [ea, eb])
            (try simp only [hg35])
            go_simp
            go_at_call 16
            have hb' := hb
            rw [HBM.out] at hb'
            obtain ⟨s', R', hB'⟩ := hb'
            refine (law_Ints _ sa sb (hearA m' (C)) (hearA m' (C)) ia ib (by have h1 := hear_le (m := m') (C); have h2 := (hB'.at_.inv hB'.ga).small; omega)).mono ?_
            rintro e w' ⟨rfl, f9⟩
            refine hK.out _ _ ?_ ?_
            · change Fr [] _ _
              exact f9
            · simp only [nth]
              exact ⟨by rw [beq_self_eq_true], hBon _ _ f9 hb⟩
          · intro ac wx hf hbs hs hp K hK
            simp only [waits, holdsA, nth, Is, Any, List.filter_cons, List.filter_nil, List.map_cons, List.map_nil, Region.binds, if_true, true_and, and_true, Nat.reduceAdd, List.getElem?_cons_zero, List.getElem?_cons_succ, Option.bind_some, Array.getD_eq_getD_getElem?] at hp
            clear hs
            clear hbs
            obtain ⟨h50, h35⟩ := hp
            have hg35 := (getD_bool _ _).1 h35.1
            have e9 := h50.1
            clear hf
            (try simp only [hg35, e9])
            go_simp
            try dsimp only
            refine hK.out _ _ ?_ ?_
            · change Fr [] _ _
              ((repeat (first | (with_reducible exact Fr.refl _ _) | (with_reducible assumption) | (with_reducible refine Fr.drew ?_) | (with_reducible refine Fr.drewN ?_ _) | (with_reducible refine Fr.alloc ?_ _) | (with_reducible refine Fr.setL ?_ _ _ _ ?_) | (focus (refine Or.inl ?_; simp; done)) | (focus (refine Or.inr ?_; simp; done)) | (focus (refine Or.inr ?_; simp; omega)) | (focus (refine Or.inr ?_; omega)))); done)
            · simp only [nth]
              first | (unfold Is; rfl) | (unfold Any; exact trivial) | exact IsSl.new _ _ _ _ | assumption
          · intro ac wx hf hbs hs hp K hK
            simp only [waits, holdsA, nth, Is, Any, List.filter_cons, List.filter_nil, List.map_cons, List.map_nil, Region.binds, if_true, true_and, and_true, Nat.reduceAdd, List.getElem?_cons_zero, List.getElem?_cons_succ, Option.bind_some, Array.getD_eq_getD_getElem?] at hp
            clear hs
            clear hbs
            obtain ⟨h35, h51⟩ := hp
            have e35 := h35.1
            have hb := h35.2
            clear hf
            (try simp only [h51, e35])
            go_simp
            refine hK.out _ _ ?_ ?_
            · change Fr [] _ _
              exact Fr.refl _ _
            · simp only [nth]
              exact ⟨rfl, hb⟩
          · intro ac wx hf hbs hs hp K hK
            simp only [waits, holdsA, nth, Is, Any, List.filter_cons, List.filter_nil, List.map_cons, List.map_nil, Region.binds, if_true, true_and, and_true, Nat.reduceAdd, List.getElem?_cons_zero, List.getElem?_cons_succ, Option.bind_some, Array.getD_eq_getD_getElem?] at hp
            clear hs
            clear hbs
            obtain ⟨h52, h50⟩ := hp
            have e52 := h52.1
            have hb := h52.2
            clear hf
            (try simp only [e52])
            go_simp
            refine hK.out _ _ ?_ ?_
            · change Fr [] _ _
              exact Fr.refl _ _
            · simp only [nth]
              exact ⟨rfl, hb⟩
          · intro ac wx hf hbs hs hp K hK
            simp only [waits, holdsA, nth, Is, Any, List.filter_cons, List.filter_nil, List.map_cons, List.map_nil, Region.binds, if_true, true_and, and_true, Nat.reduceAdd, List.getElem?_cons_zero, List.getElem?_cons_succ, Option.bind_some, Array.getD_eq_getD_getElem?] at hp
            have hs5 := hs 5 (by kernel_rfl)
            simp only [Array.getD_eq_getD_getElem?, List.getElem?_toArray, List.getElem?_cons_succ, List.getElem?_cons_zero, Option.getD_some] at hs5
            clear hs
            clear hbs
            have h53 := hp
            clear hp
            have hg53 := (getD_bool _ _).1 h53.1
            clear hf
            (try simp only [hg53])
            go_simp
            try dsimp only
            refine hK.out _ _ ?_ ?_
            · change Fr [] _ _
              ((repeat (first | (with_reducible exact Fr.refl _ _) | (with_reducible assumption) | (with_reducible refine Fr.drew ?_) | (with_reducible refine Fr.drewN ?_ _) | (with_reducible refine Fr.alloc ?_ _) | (with_reducible refine Fr.setL ?_ _ _ _ ?_) | (focus (refine Or.inl ?_; simp; done)) | (focus (refine Or.inr ?_; simp; done)) | (focus (refine Or.inr ?_; simp; omega)) | (focus (refine Or.inr ?_; omega)))); done)
            · simp only [nth]
              first | (unfold Is; rfl) | (unfold Any; exact trivial) | exact IsSl.new _ _ _ _ | assumption
          · intro ac wx hf hbs hs hp K hK
            simp only [waits, holdsA, nth, Is, Any, List.filter_cons, List.filter_nil, List.map_cons, List.map_nil, Region.binds, if_true, true_and, and_true, Nat.reduceAdd, List.getElem?_cons_zero, List.getElem?_cons_succ, Option.bind_some, Array.getD_eq_getD_getElem?] at hp
            clear hs
            clear hbs
            obtain ⟨h54, h53, h53_2⟩ := hp
            have hg53 := (getD_bool _ _).1 h53.1
            have hb := h53.2
            (try simp only [h54, hg53])
            go_simp
            go_at_call 14
            have hb' := hb
            rw [HBM.out] at hb'
            obtain ⟨s', R', hB'⟩ := hb'
            refine (List_any w _ p m' hB'.at_).mono ?_
            rintro e w' ⟨s9, rfl, ho9, hA9, f9⟩
            refine hK.out _ _ ?_ ?_
            · change Fr [] _ _
              exact f9
            · simp only [nth]
              refine ⟨⟨s9, rfl, ?_⟩, hBon _ _ f9 hb⟩
              have hw := hear_wf hB'.ga (255)
              exact Ints.ofOwn ho9 hw
          · intro ac wx hf hbs hs hp K hK
            simp only [waits, holdsA, nth, Is, Any, List.filter_cons, List.filter_nil, List.map_cons, List.map_nil, Region.binds, if_true, true_and, and_true, Nat.reduceAdd, List.getElem?_cons_zero, List.getElem?_cons_succ, Option.bind_some, Array.getD_eq_getD_getElem?] at hp
            have hs6 := hs 6 (by kernel_rfl)
            simp only [Array.getD_eq_getD_getElem?, List.getElem?_toArray, List.getElem?_cons_succ, List.getElem?_cons_zero, Option.getD_some] at hs6
            clear hs
            clear hbs
            have h53 := hp
            clear hp
            have hg53 := (getD_bool _ _).1 h53.1
            clear hf
            (try simp only [hg53])
            go_simp
            try dsimp only
            refine hK.out _ _ ?_ ?_
            · change Fr [] _ _
              ((repeat (first | (with_reducible exact Fr.refl _ _) | (with_reducible assumption) | (with_reducible refine Fr.drew ?_) | (with_reducible refine Fr.drewN ?_ _) | (with_reducible refine Fr.alloc ?_ _) | (with_reducible refine Fr.setL ?_ _ _ _ ?_) | (focus (refine Or.inl ?_; simp; done)) | (focus (refine Or.inr ?_; simp; done)) | (focus (refine Or.inr ?_; simp; omega)) | (focus (refine Or.inr ?_; omega)))); done)
            · simp only [nth]
              first | (unfold Is; rfl) | (unfold Any; exact trivial) | exact IsSl.new _ _ _ _ | assumption
          · intro ac wx hf hbs hs hp K hK
            simp only [waits, holdsA, nth, Is, Any, List.filter_cons, List.filter_nil, List.map_cons, List.map_nil, Region.binds, if_true, true_and, and_true, Nat.reduceAdd, List.getElem?_cons_zero, List.getElem?_cons_succ, Option.bind_some, Array.getD_eq_getD_getElem?] at hp
            clear hs
            clear hbs
            obtain ⟨h56, h55, h53⟩ := hp
            have hg53 := (getD_bool _ _).1 h53.1
            have hb := h55.2
            (try simp only [h56, hg53])
            go_simp
            go_at_call 22
            have hb' := hb
            rw [HBM.out] at hb'
            obtain ⟨s', R', hB'⟩ := hb'
            refine (law_list _ q s' R' hB'.isR (by have := hB'.lenR; omega)).mono ?_
            rintro e w' ⟨s9, rfl, ho9, f9⟩
            refine hK.out _ _ ?_ ?_
            · change Fr [] _ _
              exact f9
            · simp only [nth]
              refine ⟨⟨s9, rfl, ?_⟩, hBon _ _ f9 hb⟩
              rw [keys_hear hB'.rel] at ho9
              have hw := hear_wf hB'.ga (255)
              exact Ints.ofOwn ho9 hw
          · intro ac wx hf hbs hs hp K hK
            simp only [waits, holdsA, nth, Is, Any, List.filter_cons, List.filter_nil, List.map_cons, List.map_nil, Region.binds, if_true, true_and, and_true, Nat.reduceAdd, List.getElem?_cons_zero, List.getElem?_cons_succ, Option.bind_some, Array.getD_eq_getD_getElem?] at hp
            clear hs
            clear hbs
            obtain ⟨h55, h57, h57_2, h53⟩ := hp
            have hg53 := (getD_bool _ _).1 h53.1
            obtain ⟨⟨sa, ea, ia⟩, _⟩ := h55
            obtain ⟨⟨sb, eb, ib⟩, hb⟩ := h57
            (try simp only [ea, eb])
            (try simp only [hg53])
            go_simp
            go_at_call 16
            have hb' := hb
            rw [HBM.out] at hb'
            obtain ⟨s', R', hB'⟩ := hb'
            refine (law_Ints _ sa sb (hearA m' (255)) (hearA m' (255)) ia ib (by have h1 := hear_le (m := m') (255); have h2 := (hB'.at_.inv hB'.ga).small; omega)).mono ?_
            rintro e w' ⟨rfl, f9⟩
            refine hK.out _ _ ?_ ?_
            · change Fr [] _ _
              exact f9
            · simp only [nth]
              exact ⟨by rw [beq_self_eq_true], hBon _ _ f9 hb⟩
          · intro ac wx hf hbs hs hp K hK
            simp only [waits, holdsA, nth, Is, Any, List.filter_cons, List.filter_nil, List.map_cons, List.map_nil, Region.binds, if_true, true_and, and_true, Nat.reduceAdd, List.getElem?_cons_zero, List.getElem?_cons_succ, Option.bind_some, Array.getD_eq_getD_getElem?] at hp
            clear hs
            clear hbs
            obtain ⟨h58, h53⟩ := hp
            have hg53 := (getD_bool _ _).1 h53.1
            have e9 := h58.1
            clear hf
            (try simp only [hg53, e9])
            go_simp
            try dsimp only
            refine hK.out _ _ ?_ ?_
            · change Fr [] _ _
              ((repeat (first | (with_reducible exact Fr.refl _ _) | (with_reducible assumption) | (with_reducible refine Fr.drew ?_) | (with_reducible refine Fr.drewN ?_ _) | (with_reducible refine Fr.alloc ?_ _) | (with_reducible refine Fr.setL ?_ _ _ _ ?_) | (focus (refine Or.inl ?_; simp; done)) | (focus (refine Or.inr ?_; simp; done)) | (focus (refine Or.inr ?_; simp; omega)) | (focus (refine Or.inr ?_; omega)))); done)
            · simp only [nth]
              first | (unfold Is; rfl) | (unfold Any; exact trivial) | exact IsSl.new _ _ _ _ | assumption
          · intro ac wx hf hbs hs hp K hK
            simp only [waits, holdsA, nth, Is, Any, List.filter_cons, List.filter_nil, List.map_cons, List.map_nil, Region.binds, if_true, true_and, and_true, Nat.reduceAdd, List.getElem?_cons_zero, List.getElem?_cons_succ, Option.bind_some, Array.getD_eq_getD_getElem?] at hp
            clear hs
            clear hbs
            obtain ⟨h53, h59⟩ := hp
            have e9 := h53.1
            clear hf
            (try simp only [h59, e9])
            go_simp
            try dsimp only
            refine hK.out _ _ ?_ ?_
            · change Fr [] _ _
              ((repeat (first | (with_reducible exact Fr.refl _ _) | (with_reducible assumption) | (with_reducible refine Fr.drew ?_) | (with_reducible refine Fr.drewN ?_ _) | (with_reducible refine Fr.alloc ?_ _) | (with_reducible refine Fr.setL ?_ _ _ _ ?_) | (focus (refine Or.inl ?_; simp; done)) | (focus (refine Or.inr ?_; simp; done)) | (focus (refine Or.inr ?_; simp; omega)) | (focus (refine Or.inr ?_; omega)))); done)
            · simp only [nth]
              first | (unfold Is; rfl) | (unfold Any; exact trivial) | exact IsSl.new _ _ _ _ | assumption
        case hD =>
          intro xv wx hf hp
          simp only [List.take_succ_cons, List.take_zero, List.drop_succ_cons, List.drop_zero, fill, List.setIfInBounds_toArray, List.set_cons_zero, List.set_cons_succ, Nat.reduceAdd, Act.put]
          rw [show live 61 (deadC [none, none, none, none, none, none, some 61, some 61, some 61, none, none, none, none, none, none, some 61, none, none, none, none, none, none, some 61, none, some 61, some 61, none, none, some 61, none, none, some 61, some 61, none, some 61, some 61, none, none, none, none, none, none, some 61, none, none, none, none, none, none, some 61, some 61, none, some 61, some 61, none, some 61, none, some 61, some 61, none, none]) = [0, 1, 2, 3, 4, 5, 6, 7, 8, 9, 10, 11, 12, 13, 14, 15, 16, 17, 18, 19, 20, 21, 22, 23, 24, 25, 26, 27, 28, 29, 30, 31, 32, 33, 34, 35, 36, 37, 38, 39, 40, 41, 42, 43, 44, 45, 46, 47, 48, 49, 50, 51, 52, 53, 54, 55, 56, 57, 58, 59, 60] from by decide] at hp
          simp only [holds, nth, Is, Any, true_and, and_true] at hp
          obtain ⟨p0, p1, p2, p3, p4, p5, p6, p7, p8, p9, p10, p11, p12, p13, p14, p15, p16, p17, p18, p19, p20, p21, p22, p23, p24, p25, p26, p27, p28, p29, p30, p31, p32, p33, p34, p35, p36, p37, p38, p39, p40, p41, p42, p43, p44, p45, p46, p47, p48, p49, p50, p51, p52, p53, p54, p55, p56, p57, p58, p59, p60⟩ := hp
          have hfin := p58.2
          rw [HBM.out] at hfin
          have HFIN := Lib.hid hfin
          simp only [p60]
          clear p0 p1 p2 p3 p4 p5 p6 p7 p8 p9 p10 p11 p12 p13 p14 p15 p16 p17 p18 p19 p20 p21 p22 p23 p24 p25 p26 p27 p28 p29 p30 p31 p32 p33 p34 p35 p36 p37 p38 p39 p40 p41 p42 p43 p44 p45 p46 p47 p48 p49 p50 p51 p52 p53 p54 p55 p56 p57 p58 p59 p60 hfin hf k0 k1 k2
          go_wp2
          go_roundw
          case rel => exact ⟨k + 1, m', by go_num, by omega, HFIN.out⟩
          case measure => simp [intOf]; omega
      · have d2 : decide ((k : Int) < (n : Int)) = false := by simp; omega
        go_wp2
        go_ret
        exact ⟨rfl, hB.at_.fr⟩

end Go.Proofs.Ytdmgpbochddahaa
