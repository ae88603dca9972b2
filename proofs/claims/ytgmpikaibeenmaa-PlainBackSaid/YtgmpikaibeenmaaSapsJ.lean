
/- Package saps: joining and leaving a group. -/
import Derived.Test.YtgmpikaibeenmaaSapsH
namespace Go.Proofs.Ytgmpikaibeenmaa
open Go.RowKit Go.Shelf Go.ChangeMaps
set_option linter.unusedVariables false
set_option linter.unusedSimpArgs false
set_option maxRecDepth 100000
attribute [local go_sem] fld0 fld1

def groupB (n : Int) : Bool := decide (1 ≤ n) && decide (n ≤ 253) && decide (n % 2 = 1)
theorem saps_group (n : Int) (w : World) :
    Calls Try.prog 58 #[.int .i64 n] w fun e w' => e = .returned (.bool (groupB n)) ∧ w = w' := by
  unfold groupB
  by_cases h1 : 1 ≤ n
  · have d1 : decide (1 ≤ n) = true := by simpa using h1
    by_cases h2 : n ≤ 253
    · have d2 : decide (n ≤ 253) = true := by simpa using h2
      by_cases h3 : n % 2 = 1
      · have d3 : decide (n % 2 = 1) = true := by simpa using h3
        have e3 : (n % 2 == 1) = true := by simpa using h3
        rw [d1, d2, d3]
        clear h3
        go_enter Try.func58, Try.ntmps58
        go_wp2
        go_ret
        exact ⟨rfl, rfl⟩
      · have d3 : decide (n % 2 = 1) = false := by simpa using h3
        have e3 : (n % 2 == 1) = false := by simpa using h3
        rw [d1, d2, d3]
        clear h3
        go_enter Try.func58, Try.ntmps58
        go_wp2
        go_ret
        exact ⟨rfl, rfl⟩
    · have d2 : decide (n ≤ 253) = false := by simpa using h2
      rw [d1, d2]
      go_enter Try.func58, Try.ntmps58
      go_wp2
      go_ret
      exact ⟨rfl, rfl⟩
  · have d1 : decide (1 ≤ n) = false := by simpa using h1
    rw [d1]
    go_enter Try.func58, Try.ntmps58
    go_wp2
    go_ret
    exact ⟨rfl, rfl⟩

/-- The groups of one SAP are otherwise. -/
def regr (l : List SE) (n : Int) (f : List Int → List Int) : List SE := l.map fun x => if x.k = n then { x with gs := f x.gs } else x
theorem regr_map {β : Type} (l : List SE) (n : Int) (f : List Int → List Int) (g : SE → β) (hg : ∀ x gs, g { x with gs := gs } = g x) : (regr l n f).map g = l.map g := by
  unfold regr
  rw [List.map_map]
  apply List.map_congr_left
  intro x _
  simp only [Function.comp_apply]
  split
  · exact hg x _
  · rfl
theorem IsS.regroup {w w' : World} {p b k : Nat} {l : List SE} (hS : IsS w p b l k) {x : SE} (hx : x ∈ l) (f : List Int → List Int) (hf : Fr [x.gb] w w') (hG : IsG w' x.gb (f x.gs)) : IsS w' p b (regr l x.k f) k := by
  have hp : p ≠ x.gb := fun e => by
    obtain ⟨l', c', h1, _⟩ := hS.grp x hx
    have h2 := hS.blk
    rw [Blk, e, h1] at h2; cases h2
  have hb : b ≠ x.gb := fun e => hS.off (e ▸ List.mem_map_of_mem hx)
  have inj : ∀ y ∈ l, y.k = x.k → y = x := fun y hy e => by
    have key : ∀ l : List SE, (l.map (·.k)).Nodup → x ∈ l → y ∈ l → y = x := by
      intro l
      induction l with
      | nil => intro _ h; cases h
      | cons a l ih =>
        intro hn h1 h2
        rw [List.map_cons, List.nodup_cons] at hn
        rcases List.mem_cons.1 h1 with e1 | m1 <;> rcases List.mem_cons.1 h2 with e2 | m2
        · rw [e1, e2]
        · subst e1; exact absurd (e ▸ List.mem_map_of_mem m2) hn.1
        · subst e2; exact absurd (e ▸ List.mem_map_of_mem m1) hn.1
        · exact ih hn.2 m1 m2
    exact key l hS.nod hx hy
  have gne : ∀ y ∈ l, y.k ≠ x.k → y.gb ≠ x.gb := fun y hy hne e => by
    have key : ∀ l : List SE, (l.map (·.gb)).Nodup → x ∈ l → y ∈ l → y = x := by
      intro l
      induction l with
      | nil => intro _ h; cases h
      | cons a l ih =>
        intro hn h1 h2
        rw [List.map_cons, List.nodup_cons] at hn
        rcases List.mem_cons.1 h1 with e1 | m1 <;> rcases List.mem_cons.1 h2 with e2 | m2
        · rw [e1, e2]
        · subst e1; exact absurd (e ▸ List.mem_map_of_mem m2) hn.1
        · subst e2; exact absurd (e ▸ List.mem_map_of_mem m1) hn.1
        · exact ih hn.2 m1 m2
    exact hne (by rw [key l hS.gbs hx hy])
  have mem : ∀ {q : SE → Prop}, (∀ y ∈ l, ∀ gs, q y → q { y with gs := gs }) → (∀ y ∈ l, q y) → ∀ y ∈ regr l x.k f, q y := fun hq hl y hy => by
    simp only [regr, List.mem_map] at hy
    obtain ⟨z, hz, rfl⟩ := hy
    split
    · exact hq z hz _ (hl z hz)
    · exact hl z hz
  refine ⟨hS.blk.fr hf (by simp [hp]), ?_, ?_, ?_, mem (fun _ _ _ h => h) hS.old, ?_, ?_, ?_, mem (fun _ _ _ h => h) hS.pos, by simpa [regr] using hS.small⟩
  · rw [regr_map l x.k f SE.ie (fun _ _ => rfl)]; exact hf.keeps hS.map (by simp [hb])
  · rw [regr_map l x.k f (·.k) (fun _ _ => rfl)]; exact hS.nod
  · rw [regr_map l x.k f (·.born) (fun _ _ => rfl)]; exact hS.born
  · intro y hy
    simp only [regr, List.mem_map] at hy
    obtain ⟨z, hz, rfl⟩ := hy
    by_cases hzk : z.k = x.k
    · rw [if_pos hzk]
      have := inj z hz hzk
      subst this
      exact hG
    · rw [if_neg hzk]
      exact (hS.grp z hz).fr hf (by simp [gne z hz hzk])
  · rw [regr_map l x.k f (·.gb) (fun _ _ => rfl)]; exact hS.gbs
  · rw [regr_map l x.k f (·.gb) (fun _ _ => rfl)]; exact hS.off

theorem Join_arg (w : World) (p : Nat) (n g : Int) (h : groupB g = false) :
    Calls Try.prog 52 #[.pointer (some ⟨p, 0, none⟩), .int .i64 n, .int .i64 g] w fun e w' => e = .returned (.int .i64 1) ∧ w = w' := by
  have HG := Lib.hid h
  clear h
  go_enter Try.func52, Try.ntmps52
  go_wp2_with fail
  refine (saps_group g _).mono ?_
  rintro e w' ⟨rfl, rfl⟩
  rw [HG.out]
  go_wp2
  go_ret
  exact ⟨rfl, rfl⟩

theorem Join_none (w : World) (p b k : Nat) (l : List SE) (n g : Int) (hS : IsS w p b l k) (h : groupB g = true) (hn : look l n = none) :
    Calls Try.prog 52 #[.pointer (some ⟨p, 0, none⟩), .int .i64 n, .int .i64 g] w fun e w' => e = .returned (.int .i64 7) ∧ Fr [] w w' := by
  have HG := Lib.hid h
  have c0 : w.cell? ⟨p, 0, none⟩ = some (.map (some b)) := hS.blk.cell 0 rfl
  have hl := im_lookup (P := Try.prog) hS.map Try.underlying60 Try.underlying3 (zero_place w) n true
  rw [get_ie, hn] at hl
  simp only [Option.map_none, Option.getD_none, Option.isSome_none, if_true] at hl
  clear h hn
  go_enter Try.func52, Try.ntmps52
  go_wp2_with fail
  refine (saps_group g _).mono ?_
  rintro e w' ⟨rfl, rfl⟩
  rw [HG.out]
  go_wp2
  go_ret
  exact ⟨rfl, by ((repeat (first | (with_reducible exact Fr.refl _ _) | (with_reducible assumption) | (with_reducible refine Fr.drew ?_) | (with_reducible refine Fr.drewN ?_ _) | (with_reducible refine Fr.alloc ?_ _) | (with_reducible refine Fr.setL ?_ _ _ _ ?_) | (focus (refine Or.inl ?_; simp; done)) | (focus (refine Or.inr ?_; simp; done)) | (focus (refine Or.inr ?_; simp; omega)) | (focus (refine Or.inr ?_; omega)))); done)⟩

theorem Join_in (w : World) (p b k : Nat) (l : List SE) (g : Int) (x : SE) (hS : IsS w p b l k) (h : groupB g = true) (hx : look l x.k = some x) (hg : x.gs.contains g = true) :
    Calls Try.prog 52 #[.pointer (some ⟨p, 0, none⟩), .int .i64 x.k, .int .i64 g] w fun e w' => e = .returned (.int .i64 8) ∧ Fr [] w w' := by
  have HG := Lib.hid h
  have c0 : w.cell? ⟨p, 0, none⟩ = some (.map (some b)) := hS.blk.cell 0 rfl
  have hl := im_lookup (P := Try.prog) hS.map Try.underlying60 Try.underlying3 (zero_place w) x.k true
  rw [get_ie, hx] at hl
  simp only [Option.map_some, Option.getD_some, Option.isSome_some, if_true] at hl
  obtain ⟨lg, cg, h1, h2, h3, h4⟩ := (hS.grp x (look_mem hx).1).fr ((Fr.refl [] w).alloc (.cells #[.int .i64 x.cls, .map (some x.gb)] 66)) (by simp)
  have hl2 := im_lookup (P := Try.prog) h1 Try.underlying64 Try.underlying3 (zero_unit _) g true
  rw [unit_get h4, get_grp h2, hg] at hl2
  simp only [if_true] at hl2
  clear h hx hg h1 h2 h3 h4
  go_enter Try.func52, Try.ntmps52
  go_wp2_with fail
  refine (saps_group g _).mono ?_
  rintro e w' ⟨rfl, rfl⟩
  rw [HG.out]
  go_wp2
  go_ret
  exact ⟨rfl, by ((repeat (first | (with_reducible exact Fr.refl _ _) | (with_reducible assumption) | (with_reducible refine Fr.drew ?_) | (with_reducible refine Fr.drewN ?_ _) | (with_reducible refine Fr.alloc ?_ _) | (with_reducible refine Fr.setL ?_ _ _ _ ?_) | (focus (refine Or.inl ?_; simp; done)) | (focus (refine Or.inr ?_; simp; done)) | (focus (refine Or.inr ?_; simp; omega)) | (focus (refine Or.inr ?_; omega)))); done)⟩

theorem Join_ok (w : World) (p b k : Nat) (l : List SE) (g : Int) (x : SE) (hS : IsS w p b l k) (h : groupB g = true) (hx : look l x.k = some x) (hg : x.gs.contains g = false) :
    Calls Try.prog 52 #[.pointer (some ⟨p, 0, none⟩), .int .i64 x.k, .int .i64 g] w fun e w' => e = .returned (.int .i64 0) ∧ IsS w' p b (regr l x.k (· ++ [g])) k ∧ Fr [x.gb] w w' := by
  have HG := Lib.hid h
  have hxm := (look_mem hx).1
  have c0 : w.cell? ⟨p, 0, none⟩ = some (.map (some b)) := hS.blk.cell 0 rfl
  have hl := im_lookup (P := Try.prog) hS.map Try.underlying60 Try.underlying3 (zero_place w) x.k true
  rw [get_ie, hx] at hl
  simp only [Option.map_some, Option.getD_some, Option.isSome_some, if_true] at hl
  have f1 : Fr [] w (w.alloc (.cells #[.int .i64 x.cls, .map (some x.gb)] 66)) := (Fr.refl [] w).alloc _
  have f2 : Fr [] w ((w.alloc (.cells #[.int .i64 x.cls, .map (some x.gb)] 66)).alloc (.cells #[] 96)) := f1.alloc _
  obtain ⟨lg, cg, h1, h2, h3, h4⟩ := hS.grp x hxm
  have g1 := f1.keeps h1 (by simp)
  have g2 := f2.keeps h1 (by simp)
  have hl2 := im_lookup (P := Try.prog) g1 Try.underlying64 Try.underlying3 (zero_unit _) g true
  rw [unit_get h4, get_grp h2, hg] at hl2
  simp only [if_true] at hl2
  have hgn : get lg g = none := by
    have := get_grp h2 g
    rw [hg] at this
    simpa using this
  have hup := im_push (P := Try.prog) g2 Try.underlying64 Try.underlying3 g (.agg #[]) hgn
  have fF : Fr [x.gb] w (setBlock ((w.alloc (.cells #[.int .i64 x.cls, .map (some x.gb)] 66)).alloc (.cells #[] 96)) x.gb (.map (ents (lg ++ [⟨g, .agg #[], cg⟩])) (cg + 1))) := (f2.mono (by simp)).setBlock _ (.inl (by simp))
  have hfin := hS.regroup hxm (· ++ [g]) fF ⟨lg ++ [⟨g, .agg #[], cg⟩], cg + 1, setBlock_same g2, by simp [h2], by
      rw [List.nodup_append]
      exact ⟨h3, by simp, fun a ha b' hb' e => by simp at hb'; subst hb'; subst e; rw [← Bool.not_eq_true, List.contains_iff_mem] at hg; exact hg ha⟩, fun y hy => by
      rcases List.mem_append.1 hy with hy | hy
      · exact h4 y hy
      · simp at hy; subst hy; rfl⟩
  have HF := Lib.hid hfin
  clear h hx hg h1 h2 h3 h4 hgn g1 g2 hfin
  go_enter Try.func52, Try.ntmps52
  go_wp2_with fail
  refine (saps_group g _).mono ?_
  rintro e w' ⟨rfl, rfl⟩
  rw [HG.out]
  go_wp2
  go_ret
  exact ⟨rfl, HF.out, fF⟩

theorem Leave_arg (w : World) (p : Nat) (n g : Int) (h : groupB g = false) :
    Calls Try.prog 54 #[.pointer (some ⟨p, 0, none⟩), .int .i64 n, .int .i64 g] w fun e w' => e = .returned (.int .i64 1) ∧ w = w' := by
  have HG := Lib.hid h
  clear h
  go_enter Try.func54, Try.ntmps54
  go_wp2_with fail
  refine (saps_group g _).mono ?_
  rintro e w' ⟨rfl, rfl⟩
  rw [HG.out]
  go_wp2
  go_ret
  exact ⟨rfl, rfl⟩

theorem Leave_none (w : World) (p b k : Nat) (l : List SE) (n g : Int) (hS : IsS w p b l k) (h : groupB g = true) (hn : look l n = none) :
    Calls Try.prog 54 #[.pointer (some ⟨p, 0, none⟩), .int .i64 n, .int .i64 g] w fun e w' => e = .returned (.int .i64 7) ∧ Fr [] w w' := by
  have HG := Lib.hid h
  have c0 : w.cell? ⟨p, 0, none⟩ = some (.map (some b)) := hS.blk.cell 0 rfl
  have hl := im_lookup (P := Try.prog) hS.map Try.underlying60 Try.underlying3 (zero_place w) n false
  have hl2 := im_lookup_nil (P := Try.prog) (w := w) Try.underlying64 Try.underlying3 (zero_unit _) g true
  rw [get_ie, hn] at hl
  simp only [Option.map_none, Option.getD_none, Bool.false_eq_true, if_false] at hl
  simp only [if_true] at hl2
  clear h hn
  go_enter Try.func54, Try.ntmps54
  go_wp2_with fail
  refine (saps_group g _).mono ?_
  rintro e w' ⟨rfl, rfl⟩
  rw [HG.out]
  go_wp2
  go_ret
  exact ⟨rfl, by ((repeat (first | (with_reducible exact Fr.refl _ _) | (with_reducible assumption) | (with_reducible refine Fr.drew ?_) | (with_reducible refine Fr.drewN ?_ _) | (with_reducible refine Fr.alloc ?_ _) | (with_reducible refine Fr.setL ?_ _ _ _ ?_) | (focus (refine Or.inl ?_; simp; done)) | (focus (refine Or.inr ?_; simp; done)) | (focus (refine Or.inr ?_; simp; omega)) | (focus (refine Or.inr ?_; omega)))); done)⟩

theorem Leave_out (w : World) (p b k : Nat) (l : List SE) (g : Int) (x : SE) (hS : IsS w p b l k) (h : groupB g = true) (hx : look l x.k = some x) (hg : x.gs.contains g = false) :
    Calls Try.prog 54 #[.pointer (some ⟨p, 0, none⟩), .int .i64 x.k, .int .i64 g] w fun e w' => e = .returned (.int .i64 7) ∧ Fr [] w w' := by
  have HG := Lib.hid h
  have c0 : w.cell? ⟨p, 0, none⟩ = some (.map (some b)) := hS.blk.cell 0 rfl
  have hl := im_lookup (P := Try.prog) hS.map Try.underlying60 Try.underlying3 (zero_place w) x.k false
  rw [get_ie, hx] at hl
  simp only [Option.map_some, Option.getD_some, Bool.false_eq_true, if_false] at hl
  obtain ⟨lg, cg, h1, h2, h3, h4⟩ := hS.grp x (look_mem hx).1
  have hl2 := im_lookup (P := Try.prog) h1 Try.underlying64 Try.underlying3 (zero_unit _) g true
  rw [unit_get h4, get_grp h2, hg] at hl2
  simp only [if_true] at hl2
  clear h hx hg h1 h2 h3 h4
  go_enter Try.func54, Try.ntmps54
  go_wp2_with fail
  refine (saps_group g _).mono ?_
  rintro e w' ⟨rfl, rfl⟩
  rw [HG.out]
  go_wp2
  go_ret
  exact ⟨rfl, by ((repeat (first | (with_reducible exact Fr.refl _ _) | (with_reducible assumption) | (with_reducible refine Fr.drew ?_) | (with_reducible refine Fr.drewN ?_ _) | (with_reducible refine Fr.alloc ?_ _) | (with_reducible refine Fr.setL ?_ _ _ _ ?_) | (focus (refine Or.inl ?_; simp; done)) | (focus (refine Or.inr ?_; simp; done)) | (focus (refine Or.inr ?_; simp; omega)) | (focus (refine Or.inr ?_; omega)))); done)⟩

theorem Leave_ok (w : World) (p b k : Nat) (l : List SE) (g : Int) (x : SE) (hS : IsS w p b l k) (h : groupB g = true) (hx : look l x.k = some x) (hg : x.gs.contains g = true) :
    Calls Try.prog 54 #[.pointer (some ⟨p, 0, none⟩), .int .i64 x.k, .int .i64 g] w fun e w' => e = .returned (.int .i64 0) ∧ IsS w' p b (regr l x.k (·.filter (· != g))) k ∧ Fr [x.gb] w w' := by
  have HG := Lib.hid h
  have hxm := (look_mem hx).1
  have c0 : w.cell? ⟨p, 0, none⟩ = some (.map (some b)) := hS.blk.cell 0 rfl
  have hl := im_lookup (P := Try.prog) hS.map Try.underlying60 Try.underlying3 (zero_place w) x.k false
  rw [get_ie, hx] at hl
  simp only [Option.map_some, Option.getD_some, Bool.false_eq_true, if_false] at hl
  have f1 : Fr [] w (w.alloc (.cells #[] 96)) := (Fr.refl [] w).alloc _
  have c1 := f1.cell c0 (by simp)
  have hl1 := im_lookup (P := Try.prog) (f1.keeps hS.map (by simp)) Try.underlying60 Try.underlying3 (zero_place _) x.k false
  rw [get_ie, hx] at hl1
  simp only [Option.map_some, Option.getD_some, Bool.false_eq_true, if_false] at hl1
  obtain ⟨lg, cg, h1, h2, h3, h4⟩ := hS.grp x hxm
  have g1 := f1.keeps h1 (by simp)
  have hl2 := im_lookup (P := Try.prog) h1 Try.underlying64 Try.underlying3 (zero_unit _) g true
  rw [unit_get h4, get_grp h2, hg] at hl2
  simp only [if_true] at hl2
  have hde := fun ty => im_delete (P := Try.prog) g1 Try.underlying64 Try.underlying3 (by rw [h2]; exact h3) g ty
  have fF : Fr [x.gb] w (setBlock (w.alloc (.cells #[] 96)) x.gb (.map (ents (lg.filter (·.k != g))) cg)) := (f1.mono (by simp)).setBlock _ (.inl (by simp))
  have hfin := hS.regroup hxm (·.filter (· != g)) fF ⟨lg.filter (·.k != g), cg, setBlock_same g1, by rw [← h2, List.filter_map]; rfl, h3.sublist List.filter_sublist, fun y hy => h4 y (List.mem_filter.1 hy).1⟩
  have HF := Lib.hid hfin
  clear h hx hg h1 h2 h3 h4 g1 hfin
  go_enter Try.func54, Try.ntmps54
  go_wp2_with fail
  refine (saps_group g _).mono ?_
  rintro e w' ⟨rfl, rfl⟩
  rw [HG.out]
  go_wp2
  go_ret
  exact ⟨rfl, HF.out, fF⟩
end Go.Proofs.Ytgmpikaibeenmaa
