
/- Rows that grow by append: what a frame and a slice's cells are behind it. Plain lemmas over any program. -/
import Derived.Test.YtgmpikaibeenmaaTac
import Derived.Test.YtgmpikaibeenmaaArg
import Derived.OwnWalk
namespace Go.Proofs.Ytgmpikaibeenmaa
open Go.RowKit
set_option linter.unusedVariables false
set_option linter.unusedSimpArgs false
set_option maxRecDepth 100000

theorem Fr.grown {L : List Nat} {a w w' : World} {row : Option Nat} (h : Fr L a w) (g : w.grownBy w' row) (hr : ∀ k, row = some k → k ∈ L ∨ a.heap.size ≤ k) : Fr L a w' :=
  ⟨g.os.trans h.os, g.tape.trans h.tape, g.output.trans h.output, Nat.le_trans h.size g.size, fun k hk hn => by
    rw [g.block k (Nat.lt_of_lt_of_le hk h.size) (fun e => by rcases hr k e.symm with h1 | h1; exact hn h1; omega), h.block k hk hn]⟩

/-- A slice, part by part. -/
structure Sl where
  A : Option Addr
  n : Nat
  c : Nat
abbrev Sl.v (s : Sl) : Value := .slice s.A s.n s.c
def Sl.nil : Sl := ⟨none, 0, 0⟩
/-- A slice whose elements are these whole numbers. -/
def Ints (k : IntKind) (w : World) (v : Value) (l : List Int) : Prop := (v = .slice none 0 0 ∧ l = []) ∨ ∃ A cap, v = .slice (some A) l.length cap ∧ ArgInts k w (some A) l
theorem Ints.fr {k : IntKind} {w w' : World} {v : Value} {l : List Int} (h : Ints k w v l) (f : Fr [] w w') : Ints k w' v l := by
  rcases h with h | ⟨A, cap, e, h⟩
  · exact .inl h
  · exact .inr ⟨A, cap, e, h.fr f⟩
theorem Ints.sl {k : IntKind} {w : World} {v : Value} {l : List Int} (h : Ints k w v l) : ∃ s : Sl, v = .slice s.A s.n s.c := by
  rcases h with ⟨rfl, _⟩ | ⟨A, cap, rfl, _⟩
  · exact ⟨⟨_, _, _⟩, rfl⟩
  · exact ⟨⟨_, _, _⟩, rfl⟩
theorem Ints.nil (k : IntKind) (w : World) : Ints k w (.slice none 0 0) [] := .inl ⟨rfl, rfl⟩
theorem Ints.blk {k : IntKind} {w : World} {b : Nat} {l : List Int} {t : TypeId} (h : Blk w b (l.map (Value.int k)).toArray t) (hw : ∀ x ∈ l, (Lit.int k x).wf = true) : Ints k w (.slice (some ⟨b, 0, none⟩) l.length l.length) l :=
  .inr ⟨_, _, rfl, hw, .inr ⟨b, 0, rfl, fun i hi => h.cell _ (by simp [hi])⟩⟩
theorem Ints.own {k : IntKind} {w : World} {B : Nat} {e : TypeId} {v : Value} {l : List Int} (h : w.ownsRow B e 1 v l.length (l.map (Value.int k))) (hw : ∀ x ∈ l, (Lit.int k x).wf = true) : Ints k w v l := by
  have hc := @World.ownsRow.cells _ _ _ _ _ _ _ h
  rcases h.2 with ⟨rfl, h0⟩ | ⟨g, cap, cur, rfl, _⟩
  · rw [List.length_eq_zero_iff.1 h0]; exact Ints.nil _ _
  · refine .inr ⟨_, _, rfl, hw, .inr ⟨g, 0, rfl, fun i hi => ?_⟩⟩
    have := hc (g := g) rfl i (.int k l[i]) (by simp [hi])
    rwa [Go.WideShapes.add_plain] at this
theorem Ints.frL {k : IntKind} {w w' : World} {v : Value} {l : List Int} {L : List Nat} (h : Ints k w v l) (f : Fr L w w') (hn : ∀ A n c, v = .slice (some A) n c → A.block ∉ L) : Ints k w' v l := by
  rcases h with h | ⟨A, cap, rfl, h1, h2⟩
  · exact .inl h
  · refine .inr ⟨A, cap, rfl, h1, ?_⟩
    rcases h2 with h2 | ⟨b, off, e, hc⟩
    · exact .inl h2
    · cases e
      exact .inr ⟨b, off, rfl, fun i hi => f.cell (hc i hi) (hn ⟨b, off, none⟩ _ _ rfl)⟩
/-- A slice that does not lie below block B. -/
def Young (B : Nat) (v : Value) : Prop := ∀ A n c, v = .slice (some A) n c → B ≤ A.block
theorem Young.nil (B : Nat) : Young B (.slice none 0 0) := fun _ _ _ h => by cases h
theorem Young.mono {B B' : Nat} {v : Value} (h : Young B v) (hb : B' ≤ B) : Young B' v := fun A n c e => Nat.le_trans hb (h A n c e)
theorem Young.own {w : World} {B : Nat} {e : TypeId} {size n : Nat} {v : Value} {xs : List Value} (h : w.ownsRow B e size v n xs) : Young B v := by
  rintro A n' c rfl
  exact (h.lt A.block rfl).1
/-- A slice that does not lie in block b. -/
def Apart (b : Nat) (v : Value) : Prop := ∀ A n c, v = .slice (some A) n c → A.block ≠ b
theorem Young.apart {B b : Nat} {v : Value} (h : Young B v) (hb : b < B) : Apart b v := fun A n c e => by have := h A n c e; omega
theorem Apart.nil (b : Nat) : Apart b (.slice none 0 0) := fun _ _ _ h => by cases h
theorem Apart.not {b : Nat} {v : Value} (h : Apart b v) : ∀ A n c, v = .slice (some A) n c → A.block ∉ [b] := fun A n c e => by simpa using h A n c e
theorem ArgInts.news {k : IntKind} {w : World} {A : Addr} {l : List Int} (h : ArgInts k w (some A) l) : ∀ (j : Nat) u, (l.map (Value.int k))[j]? = some u → w.cell? (A.add j) = some u := by
  intro j u hj
  rcases h.2 with rfl | ⟨b, off, e, hc⟩
  · simp at hj
  · cases e
    have hjl : j < l.length := by
      have := (List.getElem?_eq_some_iff.1 hj).1; simpa using this
    have := hc j hjl
    simp [hjl] at hj
    rw [← hj]
    rwa [Go.WideShapes.add_plain]
theorem ints_one {k : IntKind} {l : List Int} : ∀ u ∈ l.map (Value.int k), u.oneCell' = true := by
  intro u hu; simp at hu; obtain ⟨_, _, rfl⟩ := hu; rfl
end Go.Proofs.Ytgmpikaibeenmaa
