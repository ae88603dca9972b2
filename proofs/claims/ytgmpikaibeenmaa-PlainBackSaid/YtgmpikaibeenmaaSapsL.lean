
/- The laws of layer 11: awake, equal rows, SapsClasses. -/
import Derived.Test.YtgmpikaibeenmaaSapsJ
import Derived.BigQuiet
import Derived.Laws.BitsLemmas
namespace Go.Proofs.Ytgmpikaibeenmaa
open Go.RowKit Go.Shelf Go.ChangeMaps
set_option linter.unusedVariables false
set_option linter.unusedSimpArgs false
set_option maxRecDepth 100000

theorem Ints.ofOwn {w : World} {B : Nat} {s : Sl} {l : List Int} (h : w.ownsRow B 3 1 s.v l.length (l.map (Value.int .i64))) (hw : ∀ x ∈ l, (Lit.int .i64 x).wf = true) : Ints .i64 w s.v l := Ints.own h hw
theorem Ints.n_ {k : IntKind} {w : World} {s : Sl} {l : List Int} (h : Ints k w s.v l) : s.n = l.length := by
  rcases h with ⟨e, rfl⟩ | ⟨A, cap, e, _⟩
  · cases s; simp [Sl.v] at e; simp [e]
  · cases s; simp [Sl.v] at e; simp [e]
theorem Ints.at_ {k : IntKind} {w : World} {s : Sl} {l : List Int} (h : Ints k w s.v l) (i : Nat) (hi : i < l.length) : ∃ b off, s.A = some ⟨b, off, none⟩ ∧ w.cell? ⟨b, off + i, none⟩ = some (.int k l[i]) := by
  rcases h with ⟨e, rfl⟩ | ⟨A, cap, e, hA⟩
  · simp at hi
  · obtain ⟨b, off, x, eA, hc, -, rfl⟩ := hA.at_ i hi
    cases eA
    cases s
    simp only [Sl.v, Value.slice.injEq] at e
    exact ⟨b, off, e.1, hc⟩

theorem hearsM_one (x : SE) (to : Int) (h : hearsB to x.k x.gs = true) : hearsM [x] to = [x.k] := by
  unfold hearsM; rw [List.filter_cons, if_pos h]; simp [srt]
theorem hearsM_nil (to : Int) : hearsM [] to = [] := by simp [hearsM, srt]

/-- How it stands: at most one SAP, a, of class cl. -/
structure One (w wr : World) (p b c : Nat) (L : List SE) (a cl : Int) : Prop where
  is : IsS wr p b L c
  fr : Fr [] w wr
  new : ∀ y ∈ foot p b L, w.heap.size ≤ y
  st : (L = [] ∧ cl = 0) ∨ ∃ x, L = [x] ∧ x.k = a ∧ x.cls = cl ∧ 1 ≤ cl ∧ cl ≤ 4

def OneAt (w wr : World) (p : Nat) (a cl : Int) : Prop := ∃ b c L, One w wr p b c L a cl

theorem One.cls {w wr : World} {p b c : Nat} {L : List SE} {a cl : Int} (h : One w wr p b c L a cl) : clsOf L a = cl := by
  rcases h.st with ⟨rfl, rfl⟩ | ⟨x, rfl, rfl, rfl, _⟩
  · rfl
  · simp [clsOf, look]
theorem One.hears {w wr : World} {p b c : Nat} {L : List SE} {a cl : Int} (h : One w wr p b c L a cl) : ((hearsM L 255).length : Int) = min cl 1 := by
  rcases h.st with ⟨rfl, rfl⟩ | ⟨x, rfl, rfl, rfl, h1, _⟩
  · rw [hearsM_nil]; rfl
  · rw [hearsM_one _ _ rfl]; simp; omega

theorem lenOwn {w : World} {B : Nat} {e : TypeId} {s : Sl} {l : List Int} (h : w.ownsRow B e 1 s.v l.length (l.map (Value.int .i64))) : (s.n : Int) = (l.length : Int) := by
  rcases h.2 with ⟨e, h0⟩ | ⟨g, cap, cur, e, _⟩
  · cases s; simp [Sl.v] at e; simp [e]; omega
  · cases s; simp [Sl.v] at e; simp [e]
theorem One.on {w wr w' : World} {p b c : Nat} {L : List SE} {a cl : Int} (h : One w wr p b c L a cl) (f : Fr [] wr w') : One w w' p b c L a cl := ⟨h.is.fr0 f, h.fr.tr f, h.new, h.st⟩
end Go.Proofs.Ytgmpikaibeenmaa
