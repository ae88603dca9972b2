/- An array argument by value, of whole numbers. -/
import Derived.Test.YtgmpikaibeenmaaArg
namespace Go.Proofs.Ytgmpikaibeenmaa
open Go.RowKit
set_option linter.unusedVariables false
theorem okWide_array {P : Program} {w : World} {r : Reach} {base : Nat} {t : TypeId} {v : Value} {n : Nat} {e : TypeId} (ht : P.underlying t = some (.array n e)) (h : Value.okWide P w r base t v) : ∃ cs, v = .agg cs ∧ cs.size = P.cellsOf t := by
  simp only [Value.okWide, ht] at h
  obtain ⟨cs, h1, h2, _⟩ := h
  exact ⟨cs, h1, h2⟩
theorem arr_open {H : Type} {enc : TypeId × Value → H} {P : Program} {w : World} {base : Nat} {spare : Nat → Bool} {held : Bool} {t e : TypeId} {n : Nat} {k : IntKind} {cs : Array Value} {d : DataW H} {p : List MemPlace}
    (he : P.underlying t = some (.array n e)) (hC : P.cellsOf t = n) (hE : P.cellsOf e = 1) (hu : P.underlying e = some (.int k))
    (h : DataW.Trod enc P w base spare held t (.agg cs) d p) :
    cs.size = n ∧ ∃ g : Nat → Int, ∀ j (hj : j < n), cs[j]? = some (.int k (g j)) ∧ (Lit.int k (g j)).wf = true := by
  obtain ⟨fuel, hf⟩ := h
  obtain ⟨xs, n', _, _, hcl, hxl, hfld⟩ := DataW.trod_array he hf
  have hsz : cs.size = n := by rw [hC] at hcl; simpa [Value.cells] using hcl
  refine ⟨hsz, ?_⟩
  have key : ∀ j, ∃ x : Int, ∀ hj : j < n, cs[j]? = some (.int k x) ∧ (Lit.int k x).wf = true := by
    intro j
    by_cases hj : j < n
    · have h1 := hfld j hj
      rw [hE, Nat.mul_one] at h1
      have hjc : j < cs.toList.length := by simp; omega
      have hone : ((Value.agg cs).cells.toList.drop j).take 1 = [cs.toList[j]] := by simp only [Value.cells]; rw [List.drop_eq_getElem_cons hjc]; rfl
      rw [hone] at h1
      have hjx : j < xs.length := by omega
      rw [List.getElem?_eq_getElem hjx] at h1
      obtain ⟨x, hx, _, hw⟩ := DataW.trod_int hu h1
      refine ⟨x, fun _ => ⟨?_, hw⟩⟩
      rw [Array.getElem?_eq_getElem (by omega)]
      simpa using hx
    · exact ⟨0, fun h => absurd h hj⟩
  exact ⟨fun j => Classical.choose (key j), fun j hj => Classical.choose_spec (key j) hj⟩
end Go.Proofs.Ytgmpikaibeenmaa
