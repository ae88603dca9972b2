
/- The functions of package saps: what each call comes to, at SAPs in memory. -/
import Derived.Test.YtgmpikaibeenmaaMapI
import Derived.Test.YtgmpikaibeenmaaShelf
import Derived.WalkLawsBesides
import Derived.WalkSpells
import Derived.Outline
import Derived.Lib.Hide
import Derived.Lib.OwnBridge
import Derived.Lib.AppendIntMem
import Derived.Lib.SlKeysI
namespace Go.Proofs.Ytgmpikaibeenmaa
open Go.RowKit Go.Shelf Go.ChangeMaps
set_option linter.unusedVariables false
set_option linter.unusedSimpArgs false
set_option maxRecDepth 100000

theorem Fr.setBlock {L : List Nat} {a w : World} (h : Fr L a w) {b : Nat} (o : Obj) (hb : b ∈ L ∨ a.heap.size ≤ b) : Fr L a (setBlock w b o) :=
  h.trans (M := [b]) ⟨rfl, rfl, rfl, by simp [ChangeMaps.setBlock], fun k _ hn => by simp [ChangeMaps.setBlock, Array.getElem?_setIfInBounds]; intro e; subst e; simp at hn⟩ (fun x hx => by simp at hx; subst hx; exact hb)
theorem setBlock_same {w : World} {b : Nat} {o p : Obj} (h : w.heap[b]? = some p) : (setBlock w b o).heap[b]? = some o := by
  have := (Array.getElem?_eq_some_iff.1 h).1
  simp [ChangeMaps.setBlock, this]
theorem setBlock_far {w : World} {b c : Nat} {o : Obj} (h : c ≠ b) : (setBlock w b o).heap[c]? = w.heap[c]? := by
  simp [ChangeMaps.setBlock, Array.getElem?_setIfInBounds, Ne.symm h]

def sapB (n : Int) : Bool := decide (2 ≤ n) && decide (n ≤ 254) && decide (n % 2 = 0)

/-! sorting -/
abbrev srt (l : List Int) : List Int := l.mergeSort fun x y => decide (x ≤ y)
theorem sort_own (w : World) (B : Nat) (v : Value) (l : List Int) (h : w.ownsRow B 3 1 v l.length (l.map (Value.int .i64))) (hl : l.length ≤ 100000) :
    Calls Try.prog 60 #[v] w fun e w' => e = .returned (.tuple #[]) ∧ w'.ownsRow B 3 1 v l.length ((srt l).map (Value.int .i64)) ∧ w.grownBy w' v.ownBlock := by
  by_cases hv : v = .slice none 0 0
  · subst hv
    have hl0 : l = [] := by
      rcases h.2 with ⟨_, h0⟩ | ⟨g, cap, cur, e, _⟩
      · exact List.length_eq_zero_iff.1 h0
      · cases e
    subst hl0
    refine (Try.slices_Sort_int_none none 0 w).mono ?_
    rintro e w' ⟨rfl, rfl⟩
    exact ⟨rfl, by simpa [srt] using h, ⟨rfl, rfl, rfl, Nat.le_refl _, fun _ _ _ => rfl⟩⟩
  · obtain ⟨g, cap, rfl, hb, hg, hn, hm, hlen, hH⟩ := Go.Lib.holds_of_ownsRow h hv
    refine (Try.slices_Sort_int g 0 cap l w hH hg (by omega)).mono ?_
    rintro e w' ⟨rfl, n, os, rfl⟩
    have h1 := Go.Lib.ownsRow_putRow (q := n) (k := l.length) (ys := srt l) h (by simp [srt]) (Nat.le_refl _)
    have h2 := Go.Lib.ownsRow_grow h1 0 os
    rw [show (srt l).take l.length = srt l from List.take_of_length_le (by simp [srt])] at h2
    exact ⟨rfl, h2, grownBy_sorted_i _⟩

/-! the model -/
/-- An active SAP: its number, its class, where its groups lie, its groups, its stamp. -/
structure SE where
  k : Int
  cls : Int
  gb : Nat
  gs : List Int
  born : Nat
abbrev plV (c : Int) (g : Nat) : Value := .agg #[.int .i64 c, .map (some g)]
def SE.ie (x : SE) : IE := ⟨x.k, plV x.cls x.gb, x.born⟩
/-- A map that is a set of groups. -/
def IsG (w : World) (g : Nat) (gs : List Int) : Prop := ∃ l c, w.heap[g]? = some (.map (ents l) c) ∧ l.map (·.k) = gs ∧ gs.Nodup ∧ ∀ x ∈ l, x.v = .agg #[]
structure IsS (w : World) (p b : Nat) (l : List SE) (c : Nat) : Prop where
  blk : Blk w p #[.map (some b)] 62
  map : w.heap[b]? = some (.map (ents (l.map SE.ie)) c)
  nod : (l.map (·.k)).Nodup
  born : (l.map (·.born)).Nodup
  old : ∀ x ∈ l, x.born < c
  grp : ∀ x ∈ l, IsG w x.gb x.gs
  gbs : (l.map (·.gb)).Nodup
  off : b ∉ l.map (·.gb)
  pos : ∀ x ∈ l, 1 ≤ x.cls ∧ x.cls ≤ 4
  small : l.length ≤ 16
/-- The blocks that it is. -/
def foot (p b : Nat) (l : List SE) : List Nat := p :: b :: l.map (·.gb)

theorem IsG.fr {w w' : World} {L : List Nat} {g : Nat} {gs : List Int} (h : IsG w g gs) (f : Fr L w w') (hg : g ∉ L) : IsG w' g gs := by
  obtain ⟨l, c, h1, h2⟩ := h
  exact ⟨l, c, f.keeps h1 hg, h2⟩
theorem IsG.lt {w : World} {g : Nat} {gs : List Int} (h : IsG w g gs) : g < w.heap.size := by
  obtain ⟨l, c, h1, h2⟩ := h
  exact (Array.getElem?_eq_some_iff.1 h1).1
theorem IsS.fr {w w' : World} {L : List Nat} {p b c : Nat} {l : List SE} (h : IsS w p b l c) (f : Fr L w w') (hL : ∀ x ∈ foot p b l, x ∉ L) : IsS w' p b l c :=
  ⟨h.blk.fr f (hL p (by simp [foot])), f.keeps h.map (hL b (by simp [foot])), h.nod, h.born, h.old, fun x hx => (h.grp x hx).fr f (hL _ (by simp only [foot, List.mem_cons]; exact .inr (.inr (List.mem_map_of_mem hx)))), h.gbs, h.off, h.pos, h.small⟩
theorem IsS.fr0 {w w' : World} {p b c : Nat} {l : List SE} (h : IsS w p b l c) (f : Fr [] w w') : IsS w' p b l c := h.fr f (fun _ _ => by simp)
theorem IsS.lt {w : World} {p b c : Nat} {l : List SE} (h : IsS w p b l c) : ∀ x ∈ foot p b l, x < w.heap.size := by
  intro x hx
  simp only [foot, List.mem_cons, List.mem_map] at hx
  rcases hx with rfl | rfl | ⟨y, hy, rfl⟩
  · exact h.blk.lt
  · exact (Array.getElem?_eq_some_iff.1 h.map).1
  · exact (h.grp y hy).lt

def look (l : List SE) (n : Int) : Option SE := l.find? (·.k == n)
def clsOf (l : List SE) (n : Int) : Int := match look l n with | some x => x.cls | none => 0
theorem get_ie (l : List SE) (n : Int) : get (l.map SE.ie) n = (look l n).map fun x => plV x.cls x.gb := by
  unfold get look
  rw [List.find?_map, Option.map_map]
  rfl
theorem look_mem {l : List SE} {n : Int} {x : SE} (h : look l n = some x) : x ∈ l ∧ x.k = n := ⟨List.mem_of_find?_eq_some h, by simpa using List.find?_some h⟩

theorem zero_place (w : World) : (zeroValue 66).run Try.prog w = .ok (.agg #[.int .i64 0, .map none]) w := by kernel_rfl
theorem zero_unit (w : World) : (zeroValue 96).run Try.prog w = .ok (.agg #[]) w := by kernel_rfl
theorem fld0 (x y : Value) (w : World) : (Instr.field 66 (.agg #[x, y]) 0).run Try.prog w = .ok x w := by kernel_rfl
theorem fld1 (x y : Value) (w : World) : (Instr.field 66 (.agg #[x, y]) 1).run Try.prog w = .ok y w := by kernel_rfl
attribute [local go_sem] fld0 fld1

theorem saps_sap (n : Int) (w : World) :
    Calls Try.prog 26 #[.int .i64 n] w fun e w' => e = .returned (.bool (sapB n)) ∧ w = w' := by
  unfold sapB
  by_cases h1 : 2 ≤ n
  · have d1 : decide (2 ≤ n) = true := by simpa using h1
    by_cases h2 : n ≤ 254
    · have d2 : decide (n ≤ 254) = true := by simpa using h2
      by_cases h3 : n % 2 = 0
      · have d3 : decide (n % 2 = 0) = true := by simpa using h3
        have e3 : (n % 2 == 0) = true := by simpa using h3
        rw [d1, d2, d3]
        clear h3
        go_enter Try.func26, Try.ntmps26
        go_wp2
        go_ret
        exact ⟨rfl, rfl⟩
      · have d3 : decide (n % 2 = 0) = false := by simpa using h3
        have e3 : (n % 2 == 0) = false := by simpa using h3
        rw [d1, d2, d3]
        clear h3
        go_enter Try.func26, Try.ntmps26
        go_wp2
        go_ret
        exact ⟨rfl, rfl⟩
    · have d2 : decide (n ≤ 254) = false := by simpa using h2
      rw [d1, d2]
      go_enter Try.func26, Try.ntmps26
      go_wp2
      go_ret
      exact ⟨rfl, rfl⟩
  · have d1 : decide (2 ≤ n) = false := by simpa using h1
    rw [d1]
    go_enter Try.func26, Try.ntmps26
    go_wp2
    go_ret
    exact ⟨rfl, rfl⟩

theorem saps_New (w : World) : Calls Try.prog 9 #[] w fun e w' => ∃ p b, e = .returned (.pointer (some ⟨p, 0, none⟩)) ∧ IsS w' p b [] 0 ∧ w.heap.size ≤ p ∧ w.heap.size ≤ b ∧ Fr [] w w' := by
  have hmm := @run_makeMap Try.prog
  go_enter Try.func9, Try.ntmps9
  go_wp2
  go_ret
  refine ⟨w.heap.size + 1, w.heap.size, rfl, ⟨Blk.newAt _ _ _ _ (by simp), ?_, by simp, by simp, by simp, by simp, by simp, by simp, by simp, by simp⟩, by omega, Nat.le_refl _, ((Fr.refl _ _).alloc _).alloc _⟩
  exact ((Fr.refl [] _).alloc _).keeps (MapKept.heap_alloc w _).1 (by simp)

theorem saps_places (w : World) (p b c : Nat) (l : List SE) (h : IsS w p b l c) :
    Calls Try.prog 39 #[.pointer (some ⟨p, 0, none⟩)] w fun e w' => e = .returned (.map (some b)) ∧ w = w' := by
  have c0 : w.cell? ⟨p, 0, none⟩ = some (.map (some b)) := h.blk.cell 0 rfl
  go_enter Try.func39, Try.ntmps39
  go_wp2
  go_ret
  exact ⟨rfl, rfl⟩

theorem saps_Class (w : World) (p b c : Nat) (l : List SE) (n : Int) (h : IsS w p b l c) :
    Calls Try.prog 21 #[.pointer (some ⟨p, 0, none⟩), .int .i64 n] w fun e w' => e = .returned (.int .i64 (clsOf l n)) ∧ w = w' := by
  have hl := im_lookup (P := Try.prog) h.map Try.underlying60 Try.underlying3 (zero_place w) n false
  rw [get_ie] at hl
  unfold clsOf
  cases hk : look l n with
  | none =>
    rw [hk] at hl
    simp only [Option.map_none, Option.getD_none, Bool.false_eq_true, if_false] at hl
    clear hk
    go_enter Try.func21, Try.ntmps21
    go_wp2_with fail
    refine (saps_places _ p b c l h).mono ?_
    rintro e w' ⟨rfl, rfl⟩
    go_wp2
    go_ret
    exact ⟨rfl, rfl⟩
  | some x =>
    rw [hk] at hl
    simp only [Option.map_some, Option.getD_some, Bool.false_eq_true, if_false] at hl
    clear hk
    go_enter Try.func21, Try.ntmps21
    go_wp2_with fail
    refine (saps_places _ p b c l h).mono ?_
    rintro e w' ⟨rfl, rfl⟩
    go_wp2
    go_ret
    exact ⟨rfl, rfl⟩

end Go.Proofs.Ytgmpikaibeenmaa
