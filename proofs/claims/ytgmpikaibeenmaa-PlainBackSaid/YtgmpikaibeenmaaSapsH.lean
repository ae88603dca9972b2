
/- Package saps: who hears. -/
import Derived.Test.YtgmpikaibeenmaaSapsO
namespace Go.Proofs.Ytgmpikaibeenmaa
open Go.RowKit Go.Shelf Go.ChangeMaps
set_option linter.unusedVariables false
set_option linter.unusedSimpArgs false
set_option maxRecDepth 100000

def hearsB (to n : Int) (gs : List Int) : Bool := to == 255 || to == n || gs.contains to

theorem get_grp {l : List IE} {gs : List Int} (h : l.map (·.k) = gs) (n : Int) : (get l n).isSome = gs.contains n := by
  subst h
  unfold get
  rw [Option.isSome_map, Bool.eq_iff_iff, List.find?_isSome, List.contains_iff_mem, List.mem_map]
  constructor
  · rintro ⟨x, hx, he⟩; exact ⟨x, hx, by simpa using he⟩
  · rintro ⟨x, hx, rfl⟩; exact ⟨x, hx, by simp⟩

theorem unit_get {l : List IE} (h : ∀ x ∈ l, x.v = .agg #[]) (n : Int) : (get l n).getD (.agg #[]) = .agg #[] := by
  unfold get
  cases hf : l.find? (·.k == n) with
  | none => rfl
  | some x => exact h x (List.mem_of_find?_eq_some hf)

theorem Hears1 (w : World) (t2 g : Nat) (to n c : Int) (gs : List Int) (h : IsG w g gs) (hb : w.cell? ⟨t2, 0, none⟩ = some (.int .i64 to)) :
    Calls Try.prog 57 #[.int .i64 n, plV c g, .pointer (some ⟨t2, 0, none⟩)] w fun e w' => e = .returned (.bool (hearsB to n gs)) ∧ Fr [] w w' := by
  have f0 : Fr [] w (w.alloc (.cells #[.int .i64 c, .map (some g)] 66)) := (Fr.refl _ _).alloc _
  obtain ⟨l, k, h1, h2, h3, h4⟩ := h.fr f0 (by simp)
  have hb1 := f0.cell hb (by simp)
  have hl := im_lookup (P := Try.prog) h1 Try.underlying64 Try.underlying3 (zero_unit _) to true
  rw [unit_get h4, get_grp h2] at hl
  simp only [if_true] at hl
  unfold hearsB
  have hb2 : ∀ wx, Fr [] w wx → wx.cell? ⟨t2, 0, none⟩ = some (.int .i64 to) := fun wx hf => hf.cell hb (by simp)
  have e1 : (to == 255) = true ∨ (to == 255) = false := by cases (to == 255) <;> simp
  have e2 : (to == n) = true ∨ (to == n) = false := by cases (to == n) <;> simp
  have hm := hb2 _ (f0.alloc (.cells #[] 96))
  clear h1 h2 h3 h4 hb2
  cases hc : gs.contains to <;> rw [hc] at hl <;> clear hc
  all_goals
    rcases e1 with e1 | e1
    · rw [e1]
      go_enter Try.func57, Try.ntmps57
      go_wp2
      go_ret
      exact ⟨rfl, by ((repeat (first | (with_reducible exact Fr.refl _ _) | (with_reducible assumption) | (with_reducible refine Fr.drew ?_) | (with_reducible refine Fr.drewN ?_ _) | (with_reducible refine Fr.alloc ?_ _) | (with_reducible refine Fr.setL ?_ _ _ _ ?_) | (focus (refine Or.inl ?_; simp; done)) | (focus (refine Or.inr ?_; simp; done)) | (focus (refine Or.inr ?_; simp; omega)) | (focus (refine Or.inr ?_; omega)))); done)⟩
    · rcases e2 with e2 | e2
      · rw [e1, e2]
        go_enter Try.func57, Try.ntmps57
        go_wp2
        go_ret
        exact ⟨rfl, by ((repeat (first | (with_reducible exact Fr.refl _ _) | (with_reducible assumption) | (with_reducible refine Fr.drew ?_) | (with_reducible refine Fr.drewN ?_ _) | (with_reducible refine Fr.alloc ?_ _) | (with_reducible refine Fr.setL ?_ _ _ _ ?_) | (focus (refine Or.inl ?_; simp; done)) | (focus (refine Or.inr ?_; simp; done)) | (focus (refine Or.inr ?_; simp; omega)) | (focus (refine Or.inr ?_; omega)))); done)⟩
      · rw [e1, e2]
        go_enter Try.func57, Try.ntmps57
        go_wp2
        go_ret
        exact ⟨rfl, by ((repeat (first | (with_reducible exact Fr.refl _ _) | (with_reducible assumption) | (with_reducible refine Fr.drew ?_) | (with_reducible refine Fr.drewN ?_ _) | (with_reducible refine Fr.alloc ?_ _) | (with_reducible refine Fr.setL ?_ _ _ _ ?_) | (focus (refine Or.inl ?_; simp; done)) | (focus (refine Or.inr ?_; simp; done)) | (focus (refine Or.inr ?_; simp; omega)) | (focus (refine Or.inr ?_; omega)))); done)⟩

theorem sorted_perm_eq : ∀ {l m : List Int}, l.Pairwise (· ≤ ·) → m.Pairwise (· ≤ ·) → l.Perm m → l = m
  | [], m, _, _, h => (List.nil_perm.1 h).symm ▸ rfl
  | a :: l, [], _, _, h => by have := h.length_eq; simp at this
  | a :: l, b :: m, h1, h2, h => by
    have ha := List.pairwise_cons.1 h1
    have hb := List.pairwise_cons.1 h2
    have e : a = b := by
      have m1 : a ∈ b :: m := h.subset (by simp)
      have m2 : b ∈ a :: l := h.symm.subset (by simp)
      rcases List.mem_cons.1 m1 with e | m1
      · exact e
      · rcases List.mem_cons.1 m2 with e | m2
        · exact e.symm
        · have x1 := hb.1 a m1
          have x2 := ha.1 b m2
          omega
    subst e
    rw [sorted_perm_eq ha.2 hb.2 h.cons_inv]
theorem srt_pw (l : List Int) : (srt l).Pairwise (· ≤ ·) := by
  have := List.pairwise_mergeSort (le := fun x y : Int => decide (x ≤ y)) (fun a b c h1 h2 => by simp at *; omega) (fun a b => by simp; omega) l
  exact this.imp (fun h => by simpa using h)
theorem srt_perm {l m : List Int} (h : l.Perm m) : srt l = srt m := sorted_perm_eq (srt_pw _) (srt_pw _) (((List.mergeSort_perm _ _).trans h).trans (List.mergeSort_perm _ _).symm)

/-- The SAPs that hear, rising. -/
def hearsM (l : List SE) (to : Int) : List Int := srt ((l.filter fun x => hearsB to x.k x.gs).map (·.k))

theorem perm_step {l : List SE} (hn : (l.map (·.born)).Nodup) {seen : Array Nat} {x : SE} (hx : x ∈ l) (hs : seen.contains x.born = false) :
    (l.filter fun y => !seen.contains y.born).Perm (x :: l.filter fun y => !(seen.push x.born).contains y.born) := by
  induction l with
  | nil => cases hx
  | cons a l ih =>
    rw [List.map_cons, List.nodup_cons] at hn
    by_cases e : a = x
    · subst e
      have hr : (l.filter fun y => !(seen.push a.born).contains y.born) = l.filter fun y => !seen.contains y.born := by
        apply List.filter_congr
        intro y hy
        have : y.born ≠ a.born := fun e => hn.1 (e ▸ List.mem_map_of_mem hy)
        rw [Array.contains_push]
        simp [this]
      rw [List.filter_cons, if_pos (show (!seen.contains a.born) = true by rw [hs]; rfl), List.filter_cons, if_neg (show ¬ (!(seen.push a.born).contains a.born) = true by simp), hr]
    · have hxl : x ∈ l := by
        rcases List.mem_cons.1 hx with h | h
        · exact absurd h.symm e
        · exact h
      have hb : a.born ≠ x.born := fun h => hn.1 (h ▸ List.mem_map_of_mem hxl)
      have i := ih hn.2 hxl
      by_cases ha : seen.contains a.born = true
      · rw [List.filter_cons, if_neg (show ¬ (!seen.contains a.born) = true by rw [ha]; simp), List.filter_cons, if_neg (show ¬ (!(seen.push x.born).contains a.born) = true by rw [Array.contains_push, ha]; simp)]
        exact i
      · have ha' : seen.contains a.born = false := by simpa using ha
        rw [List.filter_cons, if_pos (show (!seen.contains a.born) = true by rw [ha']; rfl), List.filter_cons, if_pos (show (!(seen.push x.born).contains a.born) = true by rw [Array.contains_push, ha']; simp; exact hb)]
        exact (List.Perm.cons a i).trans (List.Perm.swap _ _ _)

/-- How many an iterator has told. -/
def mIter (w : World) (r : Nat) : Nat := match w.heap[r]? with | some (.mapIter _ _ seen _) => seen.size | _ => 0
/-- A range over the SAPs under way. -/
structure It (w0 w : World) (b c r : Nat) (l done : List SE) (v : Value) (q : SE → Bool) : Prop where
  it : ∃ seen c0, w.heap[r]? = some (.mapIter (some b) c seen c0) ∧ c ≤ c0 ∧ seen.size = done.length ∧ (done ++ l.filter fun x => !seen.contains x.born).Perm l
  own : w.ownsRow w0.heap.size 3 1 v ((done.filter q).map (·.k)).length (((done.filter q).map (·.k)).map (Value.int .i64))
  fr : Fr [] w0 w
  new : w0.heap.size ≤ r

theorem ownsFr {w w' : World} {B : Nat} {e : TypeId} {size n : Nat} {v : Value} {xs : List Value} (h : w.ownsRow B e size v n xs) (f : Fr [] w w') : w'.ownsRow B e size v n xs := by
  refine ⟨h.1, h.2.imp id ?_⟩
  rintro ⟨g, cap, cur, e, hg, hb', r⟩
  exact ⟨g, cap, cur, e, hg, f.keeps hb' (by simp), r⟩
theorem run_range_map {P : Program} {w : World} {b : Nat} {es : Array MapEntry} {c : Nat} {t k e : TypeId} (h : w.heap[b]? = some (.map es c)) (ht : P.underlying t = some (.map k e)) :
    (Instr.range t (.map (some b))).run P w = .ok (.pointer (some ⟨w.heap.size, 0, none⟩)) (w.alloc (.mapIter (some b) c #[] c)) := by
  simp [Instr.range, run_underlying ht, MapKept.run_getObj_map h, Result.andThen, newObj, Sem.run]
  try rfl
theorem mapIter_new (w : World) (o : Obj) : (w.alloc o).heap[w.heap.size]? = some o := by
  show (w.heap.push _)[w.heap.size]? = _
  simp

set_option maxHeartbeats 1000000 in
set_option maxRecDepth 100000 in
theorem sorted_any (w : World) (p b c t2 : Nat) (l : List SE) (to : Int) (h : IsS w p b l c) (hb : w.cell? ⟨t2, 0, none⟩ = some (.int .i64 to)) :
    Calls Try.prog 56 #[.map (some b), .func (.func 57) #[] #[.pointer (some ⟨t2, 0, none⟩)]] w fun e w' =>
      ∃ s : Sl, e = .returned (.slice s.A s.n s.c) ∧ w'.ownsRow w.heap.size 3 1 s.v (hearsM l to).length ((hearsM l to).map (Value.int .i64)) ∧ Fr [] w w' := by
  have hrg := run_range_map (P := Try.prog) h.map Try.underlying60
  obtain ⟨i0, hi, hz0, hz1, hz2⟩ := info_parts (show (Try.prog.info? 3).map (fun i => (i.zero, i.size, i.bytes)) = some (some (.int .i64 0), 1, 8) by kernel_rfl)
  have hun : Try.prog.underlying 53 = some (.slice 3) := Try.underlying53
  have HR := Lib.hid hrg
  go_enter Try.func56, Try.ntmps56
  go_wp2
  clear hrg
  go_loopw [5] (fun v wr => ∃ done, It w wr b c w.heap.size l done v (fun x => hearsB to x.k x.gs)) (fun _ wr => l.length + 1 - mIter wr w.heap.size)
  case atStart => exact ⟨[], ⟨⟨#[], c, mapIter_new _ _, Nat.le_refl _, rfl, by rw [List.nil_append, List.filter_eq_self.2 (fun x _ => by simp)]⟩, World.ownsRow_nil _ _ _ _, (Fr.refl _ _).alloc _, Nat.le_refl _⟩⟩
  case round =>
    obtain ⟨done, hI⟩ := hrel
    obtain ⟨⟨seen, c0, hit, hc0, hsz, hperm⟩, hown, hfr, hnew⟩ := hI
    have hS := h.fr0 hfr
    have hold : ∀ x ∈ (ents (l.map SE.ie)).toList, x.born < c := fun x hx => by
      simp only [ents, List.map_map, List.mem_map, Function.comp_apply] at hx
      obtain ⟨y, hy, rfl⟩ := hx
      exact h.old y hy
    have hle : done.length + (l.filter fun x => !seen.contains x.born).length = l.length := by have := hperm.length_eq; simpa using this
    have hmi : mIter wr w.heap.size = done.length := by unfold mIter; rw [hit]; exact hsz
    rcases run_next_at (P := Try.prog) wr 0 w.heap.size b c c0 seen (ents (l.map SE.ie)) c hit hS.map hold hc0 with ⟨hl0, hrun⟩ | ⟨e, he, w1, hw1, hrun⟩
    · have hnil : (l.filter fun x => !seen.contains x.born) = [] := by
        have h1 : (leftOf (ents (l.map SE.ie)) seen).toList = [] := by rw [← List.length_eq_zero_iff]; simpa using hl0
        simp only [leftOf, ents, Array.toList_filter, List.map_map, List.filter_map, List.map_eq_nil_iff] at h1
        exact h1
      rw [hnil, List.append_nil] at hperm
      have hsr : srt ((done.filter fun x => hearsB to x.k x.gs).map (·.k)) = hearsM l to := srt_perm ((hperm.filter _).map _)
      have HS := Lib.hid hsr
      have hl17 : ((done.filter fun x => hearsB to x.k x.gs).map (·.k)).length ≤ 100000 := by
        have h1 := List.length_filter_le (fun x : SE => hearsB to x.k x.gs) done
        have h2 := h.small
        have h3 := hperm.length_eq
        simp only [List.length_map]; omega
      clear hsr hle hmi hsz hit hc0 hl0 hnil hold
      go_wp2_with fail
      refine (sort_own _ _ _ _ hown hl17).mono ?_
      rintro e w2 ⟨rfl, hown2, hgr⟩
      have f2 : Fr [] w w2 := hfr.grown hgr (fun k hk => .inr (hown.lt k hk).1)
      rw [HS.out] at hown2
      have hlen : ((done.filter fun x => hearsB to x.k x.gs).map (·.k)).length = (hearsM l to).length := by rw [← HS.out]; simp [srt]
      rw [hlen] at hown2
      clear hlen
      have hsl : ∃ s : Sl, u5 = .slice s.A s.n s.c := by
        rcases hown2.2 with ⟨e, _⟩ | ⟨g, cap, cur, e, _⟩
        · exact ⟨Sl.nil, e⟩
        · exact ⟨⟨_, _, _⟩, e⟩
      obtain ⟨s, rfl⟩ := hsl
      go_wp2
      go_ret
      exact ⟨s, rfl, hown2, f2⟩
    · have hxe : ∃ x ∈ l, e = x.ie.e ∧ seen.contains x.born = false := by
        simp only [leftOf, ents, Array.toList_filter, List.map_map, List.mem_filter, List.mem_map, Function.comp_apply] at he
        obtain ⟨⟨y, hy, rfl⟩, hs⟩ := he
        exact ⟨y, hy, rfl, by simpa [SE.ie, IE.e] using hs⟩
      obtain ⟨x, hx, rfl, hxs⟩ := hxe
      have hh1 : w1.heap = wr.heap := by rcases hw1 with rfl | rfl <;> rfl
      have hf1 : Fr [] wr w1 := by rcases hw1 with rfl | rfl; exact Fr.refl _ _; exact (Fr.refl _ _).drew
      have hit1 : w1.heap[w.heap.size]? = some (.mapIter (some b) c seen c0) := by rw [hh1]; exact hit
      have hbl : b < w.heap.size := h.lt b (by simp [foot])
      have hit2 := setBlock_same (o := .mapIter (some b) c (seen.push x.ie.e.born) c) hit1
      have hF2 : Fr [] w (setBlock w1 w.heap.size (.mapIter (some b) c (seen.push x.ie.e.born) c)) := (hfr.tr hf1).setBlock _ (.inr hnew)
      have hS2 := h.fr0 hF2
      have hmem : x.ie.e ∈ (ents (l.map SE.ie)).toList := by simp only [ents, List.map_map, List.mem_map, Function.comp_apply]; exact ⟨x, hx, rfl⟩
      have hnd : ((ents (l.map SE.ie)).toList.map (·.born)).Nodup := by simpa [ents, List.map_map, Function.comp_def, SE.ie, IE.e] using h.born
      have hen := run_entry_at (P := Try.prog) _ w.heap.size b c seen (ents (l.map SE.ie)) c x.ie.e hit2 hS2.map hmem hnd
      have hown1 : (setBlock w1 w.heap.size (.mapIter (some b) c (seen.push x.ie.e.born) c)).ownsRow w.heap.size 3 1 u5 ((done.filter fun x => hearsB to x.k x.gs).map (·.k)).length (((done.filter fun x => hearsB to x.k x.gs).map (·.k)).map (Value.int .i64)) := by
        refine ⟨hown.1, hown.2.imp id ?_⟩
        rintro ⟨g, cap, cur, e, hg, hb', r⟩
        refine ⟨g, cap, cur, e, hg, ?_, r⟩
        have hne : g ≠ w.heap.size := fun e => by rw [e, hit] at hb'; cases hb'
        rw [setBlock_far hne, hh1]; exact hb'
      have hIt : ∀ w' v q, w'.heap[w.heap.size]? = some (.mapIter (some b) c (seen.push x.ie.e.born) c) → Fr [] w w' → w'.ownsRow w.heap.size 3 1 v (((done ++ [x]).filter q).map (·.k)).length ((((done ++ [x]).filter q).map (·.k)).map (Value.int .i64)) → It w w' b c w.heap.size l (done ++ [x]) v q := fun w' v q hk f ho => by
        refine ⟨⟨_, c, hk, Nat.le_refl _, by simp [hsz], ?_⟩, ho, f, hnew⟩
        refine List.Perm.trans ?_ hperm
        rw [List.append_assoc]
        exact (List.Perm.refl done).append (perm_step h.born hx hxs).symm
      have hlt : done.length < l.length := by
        have : x ∈ l.filter fun x => !seen.contains x.born := List.mem_filter.2 ⟨hx, by rw [hxs]; rfl⟩
        have := List.length_pos_of_mem this
        omega
      have hmi2 : ∀ w' v q, It w w' b c w.heap.size l (done ++ [x]) v q → mIter w' w.heap.size = done.length + 1 := fun w' v q hI => by
        obtain ⟨seen', c', h1, _, h3, _⟩ := hI.it
        unfold mIter; rw [h1]; simpa using h3
      have hG := hS2.grp x hx
      have hbx : ∀ wx, Fr [] w wx → wx.cell? ⟨t2, 0, none⟩ = some (.int .i64 to) := fun wx f => f.cell hb (by simp)
      generalize setBlock w1 w.heap.size (.mapIter (some b) c (seen.push x.ie.e.born) c) = w2 at *
      clear hmem hnd hS2 hit1 hh1 hf1 hw1 hS hold hle hsz hperm hown hfr hit hc0 he
      have hke : x.ie.e.key = .int .i64 x.k := rfl
      have hve : x.ie.e.val = plV x.cls x.gb := rfl
      rw [hke, hve] at hrun hen
      clear hke hve
      have HIt := Lib.hid hIt
      have HM := Lib.hid hmi2
      have fal : Fr [] w2 (w2.alloc (.cells #[.int .i64 x.cls, .map (some x.gb)] 66)) := (Fr.refl _ _).alloc _
      have hb2 : (w2.alloc (.cells #[.int .i64 x.cls, .map (some x.gb)] 66)).cell? ⟨t2, 0, none⟩ = some (.int .i64 to) := hbx _ (hF2.tr fal)
      have hG2 := hG.fr fal (by simp)
      have hs2 := hF2.size
      clear hIt hmi2 hbx
      go_wp2_with fail
      refine (Hears1 _ t2 x.gb to x.k x.cls x.gs hG2 hb2).mono ?_
      rintro e w3 ⟨rfl, f3⟩
      have f23 := fal.tr f3
      have hown3 := (ownsFr hown1 f23)
      have hs3 := f23.size
      have hk3 := f23.keeps hit2 (by simp)
      clear hit2
      clear hb2 hG2 hG hen hrun hown1
      cases hq : hearsB to x.k x.gs with
      | false =>
        have hfd : (done ++ [x]).filter (fun x => hearsB to x.k x.gs) = done.filter (fun x => hearsB to x.k x.gs) := by rw [List.filter_append, List.filter_cons, if_neg (by rw [hq]; simp)]; simp
        have hIt3 := HIt.out w3 u5 (fun x => hearsB to x.k x.gs) hk3 (hF2.tr f23) (by rw [hfd]; exact hown3)
        have hm3 := HM.out _ _ _ hIt3
        clear hfd hq
        go_wp2
        go_roundw
        case rel => exact ⟨_, hIt3⟩
        case measure => rw [hm3, hmi]; omega
      | true =>
        have hfd : (done ++ [x]).filter (fun x => hearsB to x.k x.gs) = done.filter (fun x => hearsB to x.k x.gs) ++ [x] := by rw [List.filter_append, List.filter_cons, if_pos (by rw [hq])]; simp
        have hld : ((done.filter fun x => hearsB to x.k x.gs).map (·.k)).length ≤ 16 := by
          have h1 := List.length_filter_le (fun x : SE => hearsB to x.k x.gs) done
          have h2 := h.small
          simp only [List.length_map]; omega
        have HFD := Lib.hid hfd
        clear hfd hq
        go_wp2_with (at_builtin; refine wpList_append_own _ rfl _ _ 53 rfl w.heap.size 3 i0 (.int .i64 0) 1 8 hun hi hz0 hz1 hz2 rfl (by decide) _ _ _ rfl (hown3.alloc _) ⟨w3.heap.size, 0, none⟩ 1 1 [.int .i64 x.k] rfl rfl ?c1 ?c2 ?c4 ?c5 ?c6 ?_)
        case c1 => intro i u hu; match i, hu with
          | 0, hu => simp at hu; subst hu; rw [Go.WideShapes.add_plain]; exact (Blk.new w3 #[.int .i64 x.k] 3).cell 0 rfl
          | i + 1, hu => simp at hu
        case c2 => intro u hu; simp at hu; subst hu; rfl
        case c4 => unfold maxLen; omega
        case c5 => omega
        case c6 => simp; omega
        intro v' w4 hown4 hgrow _
        have f34 : Fr [] w w4 := ((hF2.tr f23).alloc _).grown hgrow (fun k hk => .inr (hown3.lt k hk).1)
        have hk4 : w4.heap[w.heap.size]? = some (.mapIter (some b) c (seen.push x.ie.e.born) c) := by
          have hne : some w.heap.size ≠ u5.ownBlock := fun e => by
            rcases hown3.2 with ⟨e', _⟩ | ⟨g, cap, cur, e', hg, hb', _⟩
            · rw [e'] at e; cases e
            · rw [e'] at e
              simp only [Value.ownBlock, Option.some.injEq] at e
              rw [← e, hk3] at hb'
              cases hb'
          rw [hgrow.block _ (by simp; omega) hne]
          exact (Fr.refl [] w3).alloc _ |>.keeps hk3 (by simp)
        have hIt4 := HIt.out w4 v' (fun x => hearsB to x.k x.gs) hk4 f34 (by rw [HFD.out]; simpa using hown4)
        have hm4 := HM.out _ _ _ hIt4
        go_wp2
        go_roundw
        case rel => exact ⟨_, hIt4⟩
        case measure => rw [hm4, hmi]; omega

theorem saps_Hears (w : World) (p b c : Nat) (l : List SE) (to : Int) (h : IsS w p b l c) :
    Calls Try.prog 47 #[.pointer (some ⟨p, 0, none⟩), .int .i64 to] w fun e w' =>
      ∃ s : Sl, e = .returned (.slice s.A s.n s.c) ∧ w'.ownsRow w.heap.size 3 1 s.v (hearsM l to).length ((hearsM l to).map (Value.int .i64)) ∧ Fr [] w w' := by
  have f0 : Fr [] w (w.alloc (.cells #[.int .i64 to] 3)) := (Fr.refl _ _).alloc _
  have hS := h.fr0 f0
  have hb := (Blk.new w #[.int .i64 to] 3).cell 0 (v := .int .i64 to) rfl
  go_enter Try.func47, Try.ntmps47
  go_wp2_with fail
  refine (saps_places _ p b c l hS).mono ?_
  rintro e w' ⟨rfl, rfl⟩
  go_wp2_with fail
  refine (sorted_any _ p b c w.heap.size l to hS hb).mono ?_
  rintro e w' ⟨s, rfl, hown, f1⟩
  go_wp2
  go_ret
  refine ⟨s, rfl, ⟨hown.1, hown.2.imp id ?_⟩, f0.tr f1⟩
  rintro ⟨g, cap, cur, e, hg, r⟩
  exact ⟨g, cap, cur, e, by simp at hg; omega, r⟩

end Go.Proofs.Ytgmpikaibeenmaa
