
/- Small helpers: a block's facts through what was laid behind it. Plain lemmas over any program. -/
import Derived.Test.YtgmpikaibeenmaaMix
namespace Go.Proofs.Ytgmpikaibeenmaa
open Go.RowKit
set_option linter.unusedVariables false

theorem Fr.set1 {w w' : World} {b : Nat} (h : Fr [b] w w') (i : Nat) (v : Value) : Fr [b] w (w'.setCell ⟨b, i, none⟩ v) := h.setCell _ (.inl (by focus (simp; done)))
theorem Fr.to1 {w w' : World} (b : Nat) (h : Fr [] w w') : Fr [b] w w' := h.mono (by simp)
theorem Fr.tr {L : List Nat} {a b c : World} (h : Fr L a b) (k : Fr L b c) : Fr L a c := h.trans k (fun _ hx => .inl hx)
theorem Fr.tr0 {L : List Nat} {a b c : World} (h : Fr L a b) (k : Fr [] b c) : Fr L a c := h.trans k (fun _ hx => by cases hx)
theorem Fr.setL {L : List Nat} {w w' : World} (h : Fr L w w') (b i : Nat) (v : Value) (hb : b ∈ L ∨ w.heap.size ≤ b) : Fr L w (w'.setCell ⟨b, i, none⟩ v) := h.setCell _ hb
theorem Blk.newAt (w : World) (b : Nat) (cs : Array Value) (t : TypeId) (h : b = w.heap.size) : Blk (w.alloc (.cells cs t)) b cs t := h ▸ Blk.new w cs t

end Go.Proofs.Ytgmpikaibeenmaa
