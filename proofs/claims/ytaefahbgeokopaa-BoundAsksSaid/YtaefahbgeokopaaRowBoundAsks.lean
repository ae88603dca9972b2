/- BoundAsks: whatever it is given, it answers true, and what it was given reads as before. No condition. -/
import Derived.Test.YtaefahbgeokopaaRows
import Derived.Test.YtaefahbgeokopaaBoundL
import Derived.Test.YtaefahbgeokopaaArg
import Derived.WalkKit
import Derived.ProofKit
import Derived.OpenShut
import Derived.ShutString
import Derived.ChangeOld
import Derived.Below
import Derived.SizedLaws
namespace Go.Proofs.Ytaefahbgeokopaa.boundAsks
open Go.ChangeShapes Go.WideShapes Go.ChangeAt Go.RowKit
open Go.ChangeMaps (open_string shut_string)
set_option linter.unusedVariables false
set_option linter.unusedSimpArgs false
theorem own : ownKnob Try.prog.godebug = none := by kernel_rfl
theorem laidOut : laidOutB Try.prog = true := by kernel_rfl
set_option maxRecDepth 100000 in
theorem lifted (os : Os) (started : os.Started) (H : Type) (enc : TypeId × Value → H) :
    ReturnsInHanded {} Try.checked os 3 .any (Rows.boundAsksSpec.pre6 enc Try.prog Try.f3 Rows.boundAsksRow.domain false) (Rows.boundAsksSpec.post enc Try.prog Try.f3 false true false false) := by
  refine returnsInHanded_of_change_sized (C := Try.checked) own started (by kernel_rfl) Try.func3
    (ChangeSpec.witness6 (enc := enc) (C := Try.checked) false ⟨#[], #[.agg #[.int .i64 0, .int .i64 0, .int .i64 0]], []⟩ 8 (by kernel_rfl) (by kernel_rfl) (by kernel_rfl) (by kernel_rfl)) ?_
  intro W base args ds gs before hval0 hW hcnd hsz0 _
  have hval : ∀ (j : Nat) t v, Try.f3.params[j]? = some t → args[j]? = some v → Value.okWide Try.prog W .any base t v := hval0
  have hW' := hW
  obtain ⟨p, q, hA0, hV, rfl, hfz, hnd⟩ := hW
  have hA : DataW.TrodAll enc Try.prog W 0 (fun _ => true) true Try.f3.params.toList args.toList ds p := hA0
  rw [Try.params3] at hA hval
  obtain ⟨v0, vs0, d0, ds0, p0, q0, hargs, rfl, rfl, h0, r0⟩ := trodAll_cons hA
  obtain ⟨rfl, rfl, rfl⟩ := trodAll_nil r0
  obtain rfl : args = #[v0] := by cases args; simp_all
  obtain ⟨rfl, rfl⟩ := trodVars_none hV
  obtain ⟨c0, rfl, _⟩ := okWide_struct Try.underlying23 (hval 0 23 v0 rfl rfl)
  have k0 := h0
  have lt0 : ∀ x ∈ p0, x.block < W.heap.size := by obtain ⟨m, hm⟩ := k0; exact DataW.trod_lt m _ _ _ hm
  obtain ⟨z0, g0, w0⟩ := agg_open (ks := [.i64, .i64, .i64]) Try.underlying23 (by kernel_rfl) (fun j hj => by
    match j, hj with
    | 0, _ => exact ⟨_, rfl, by kernel_rfl, by kernel_rfl, by kernel_rfl⟩
    | 1, _ => exact ⟨_, rfl, by kernel_rfl, by kernel_rfl, by kernel_rfl⟩
    | 2, _ => exact ⟨_, rfl, by kernel_rfl, by kernel_rfl, by kernel_rfl⟩) h0
  have w0_0 := w0 0 (by decide)
  simp only [List.getElem_cons_zero, List.getElem_cons_succ] at w0_0
  have w0_1 := w0 1 (by decide)
  simp only [List.getElem_cons_zero, List.getElem_cons_succ] at w0_1
  have w0_2 := w0 2 (by decide)
  simp only [List.getElem_cons_zero, List.getElem_cons_succ] at w0_2
  have e0 : c0 = #[.int .i64 (g0 0), .int .i64 (g0 1), .int .i64 (g0 2)] := by
    refine Array.ext_getElem? fun j => ?_
    match j with
    | 0 => exact w0_0.1
    | 1 => exact w0_1.1
    | 2 => exact w0_2.1
    | j + 3 => rw [Array.getElem?_eq_none (by rw [z0]; simp), Array.getElem?_eq_none (by simp)]
  subst e0
  refine (law_BoundAsks W (g0 0) (g0 1) (g0 2) w0_0.2 w0_1.2 w0_2.2).mono fun e W' ⟨he, hfr⟩ => ?_
  subst he
  have bel : Below W.heap.size W W' := hfr.below (Nat.le_refl _) (fun _ hx => by cases hx)
  exact ⟨_, rfl, _, _, _, [], _, [], hW', trodAll_mk1 (shut_bool Try.underlying4 _), (trodAll_cons_mk (Below.trod laidOut (by kernel_rfl) (of_decide_eq_true (by kernel_rfl)) k0 bel lt0) trodAll_mk0), rfl, bel.frame _, fun h => by cases h⟩
theorem over : Rows.boundAsksRow.holds Try.pinned (OpenSpec.ofChange Rows.boundAsksSpec) :=
  OpenClaim.holds_of_wide 3 Try.f3 rfl rfl rfl rfl rfl rfl rfl ⟨rfl, rfl, rfl, rfl, rfl⟩ rfl rfl rfl rfl rfl (by kernel_rfl) Try.func3 (by kernel_rfl)
    (of_decide_eq_true (by kernel_rfl)) (by unfold Func.isWrapper; first | (rw [if_pos (by decide +kernel)]; kernel_rfl) | (rw [if_neg (by decide +kernel)]; exact ⟨rfl, rfl⟩))
    (fun os started H enc _ => lifted os started H enc)
theorem proved : Rows.BoundAsksSaid := over
end Go.Proofs.Ytaefahbgeokopaa.boundAsks
namespace Go.Proofs.Ytaefahbgeokopaa
/-- The statement, under a short name. -/
theorem boundAsks_holds : Rows.BoundAsksSaid := boundAsks.proved
#print axioms boundAsks_holds
end Go.Proofs.Ytaefahbgeokopaa
