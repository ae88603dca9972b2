
/- A region that draws its order, whose operations read, and whose callees may lay new memory: one walk of the text's order serves every order. Plain lemmas over any program. -/
import Derived.Test.YtgmpikaibeenmaaFr
import Derived.BigQuiet
namespace Go.Proofs.Ytgmpikaibeenmaa
open Go.RowKit
set_option linter.unusedVariables false
set_option linter.unusedSimpArgs false
set_option maxRecDepth 100000

/-- A world in which all that lay in w lies as it lay. -/
structure After (w : World) where
  x : World
  fr : Fr [] w x

instance (w : World) : Nonempty (After w) := ⟨⟨w, Fr.refl _ _⟩⟩

theorem wp_region_after {P : Program} {id : Nat} {Q : Exit → Act → World → Prop} {a : Act} {w : World} {l : List Oper} (hm : P.follows .mixedOrders = true) (hB : Region.lexB .any l.toArray = true)
    (h : wpQuiet P l.toArray (fun w' => ∃ n : After w, w' = n.x) (fun a' => ∀ w', (∃ n : After w, w' = n.x) → Q .normal a' w') l a) : (Code.region id l.toArray true).wp P Q a w :=
  wp_region_quiet (C := fun w' => ∃ n : After w, w' = n.x) hm hB ⟨⟨w.drewN 1, (Fr.refl _ _).drewN 1⟩, rfl⟩ (by simpa using h)

/-- A callee's contract, met in such a world. -/
theorem Calls.after {P : Program} {f : FuncId} {args : Array Value} {w : World} {n : After w} {v : Value}
    (h : Calls P f args n.x fun e w' => e = .returned v ∧ Fr [] n.x w') : Calls P f args n.x fun e w'' => e = .returned v ∧ ∃ m : After w, w'' = m.x :=
  h.mono fun _ w' ⟨he, hf⟩ => ⟨he, ⟨w', n.fr.trans hf (fun _ hx => by cases hx)⟩, rfl⟩

theorem Calls.after_same {P : Program} {f : FuncId} {args : Array Value} {w : World} {n : After w} {v : Value}
    (h : Calls P f args n.x fun e w' => e = .returned v ∧ n.x = w') : Calls P f args n.x fun e w'' => e = .returned v ∧ ∃ m : After w, w'' = m.x :=
  Calls.after (h.mono fun _ w' ⟨he, hf⟩ => ⟨he, hf ▸ Fr.refl _ _⟩)

theorem After.cell {w : World} {a : Addr} {v : Value} (h : w.cell? a = some v) (n : After w) : n.x.cell? a = some v := n.fr.cell h (by simp)
theorem After.frozen {w : World} {a : Addr} {v : Value} (h : w.cell? a = some v) (n : After w) : n.x.frozen? a = w.frozen? a :=
  World.frozen?_of_block (w := w) (n.fr.block a.block (World.block_lt_of_cell? w a h) (by simp))
end Go.Proofs.Ytgmpikaibeenmaa
