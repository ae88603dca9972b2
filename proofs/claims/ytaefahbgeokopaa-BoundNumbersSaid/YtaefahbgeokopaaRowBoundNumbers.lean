/- BoundNumbers: whatever it is given, it answers true, and what it was given reads as before. No condition. -/
import Derived.Test.YtaefahbgeokopaaRows
import Derived.Test.YtaefahbgeokopaaBoundN
import Derived.Test.YtaefahbgeokopaaArg
import Derived.WalkKit
import Derived.ProofKit
import Derived.OpenShut
import Derived.ShutString
import Derived.ChangeOld
import Derived.Below
import Derived.SizedLaws
namespace Go.Proofs.Ytaefahbgeokopaa.boundNumbers
open Go.ChangeShapes Go.WideShapes Go.ChangeAt Go.RowKit
open Go.ChangeMaps (open_string shut_string)
set_option linter.unusedVariables false
set_option linter.unusedSimpArgs false
theorem own : ownKnob Try.prog.godebug = none := by kernel_rfl
theorem laidOut : laidOutB Try.prog = true := by kernel_rfl
set_option maxRecDepth 100000 in
theorem lifted (os : Os) (started : os.Started) (H : Type) (enc : TypeId × Value → H) :
    ReturnsInHanded {} Try.checked os 5 .any (Rows.boundNumbersSpec.pre6 enc Try.prog Try.f5 Rows.boundNumbersRow.domain false) (Rows.boundNumbersSpec.post enc Try.prog Try.f5 false true false false) := by
  refine returnsInHanded_of_change_sized (C := Try.checked) own started (by kernel_rfl) Try.func5
    (ChangeSpec.witness6 (enc := enc) (C := Try.checked) false ⟨#[], #[.agg #[.int .i64 0, .int .i64 0, .int .i64 0, .int .i64 0, .int .i64 0, .int .i64 0], .agg #[.int .i64 0, .int .i64 0, .int .i64 0], .int .i64 0], []⟩ 8 (by kernel_rfl) (by kernel_rfl) (by kernel_rfl) (by kernel_rfl)) ?_
  intro W base args ds gs before hval0 hW hcnd hsz0 _
  have hval : ∀ (j : Nat) t v, Try.f5.params[j]? = some t → args[j]? = some v → Value.okWide Try.prog W .any base t v := hval0
  have hW' := hW
  obtain ⟨p, q, hA0, hV, rfl, hfz, hnd⟩ := hW
  have hA : DataW.TrodAll enc Try.prog W 0 (fun _ => true) true Try.f5.params.toList args.toList ds p := hA0
  rw [Try.params5] at hA hval
  obtain ⟨v0, vs0, d0, ds0, p0, q0, hargs, rfl, rfl, h0, r0⟩ := trodAll_cons hA
  obtain ⟨v1, vs1, d1, ds1, p1, q1, rfl, rfl, rfl, h1, r1⟩ := trodAll_cons r0
  obtain ⟨v2, vs2, d2, ds2, p2, q2, rfl, rfl, rfl, h2, r2⟩ := trodAll_cons r1
  obtain ⟨rfl, rfl, rfl⟩ := trodAll_nil r2
  obtain rfl : args = #[v0, v1, v2] := by cases args; simp_all
  obtain ⟨rfl, rfl⟩ := trodVars_none hV
  obtain ⟨c0, rfl, _⟩ := okWide_struct Try.underlying47 (hval 0 47 v0 rfl rfl)
  have k0 := h0
  have lt0 : ∀ x ∈ p0, x.block < W.heap.size := by obtain ⟨m, hm⟩ := k0; exact DataW.trod_lt m _ _ _ hm
  obtain ⟨z0, g0, w0⟩ := agg_open (ks := [.i64, .i64, .i64, .i64, .i64, .i64]) Try.underlying47 (by kernel_rfl) (fun j hj => by
    match j, hj with
    | 0, _ => exact ⟨_, rfl, by kernel_rfl, by kernel_rfl, by kernel_rfl⟩
    | 1, _ => exact ⟨_, rfl, by kernel_rfl, by kernel_rfl, by kernel_rfl⟩
    | 2, _ => exact ⟨_, rfl, by kernel_rfl, by kernel_rfl, by kernel_rfl⟩
    | 3, _ => exact ⟨_, rfl, by kernel_rfl, by kernel_rfl, by kernel_rfl⟩
    | 4, _ => exact ⟨_, rfl, by kernel_rfl, by kernel_rfl, by kernel_rfl⟩
    | 5, _ => exact ⟨_, rfl, by kernel_rfl, by kernel_rfl, by kernel_rfl⟩) h0
  have w0_0 := w0 0 (by decide)
  simp only [List.getElem_cons_zero, List.getElem_cons_succ] at w0_0
  have w0_1 := w0 1 (by decide)
  simp only [List.getElem_cons_zero, List.getElem_cons_succ] at w0_1
  have w0_2 := w0 2 (by decide)
  simp only [List.getElem_cons_zero, List.getElem_cons_succ] at w0_2
  have w0_3 := w0 3 (by decide)
  simp only [List.getElem_cons_zero, List.getElem_cons_succ] at w0_3
  have w0_4 := w0 4 (by decide)
  simp only [List.getElem_cons_zero, List.getElem_cons_succ] at w0_4
  have w0_5 := w0 5 (by decide)
  simp only [List.getElem_cons_zero, List.getElem_cons_succ] at w0_5
  have e0 : c0 = #[.int .i64 (g0 0), .int .i64 (g0 1), .int .i64 (g0 2), .int .i64 (g0 3), .int .i64 (g0 4), .int .i64 (g0 5)] := by
    refine Array.ext_getElem? fun j => ?_
    match j with
    | 0 => exact w0_0.1
    | 1 => exact w0_1.1
    | 2 => exact w0_2.1
    | 3 => exact w0_3.1
    | 4 => exact w0_4.1
    | 5 => exact w0_5.1
    | j + 6 => rw [Array.getElem?_eq_none (by rw [z0]; simp), Array.getElem?_eq_none (by simp)]
  subst e0
  obtain ⟨c1, rfl, _⟩ := okWide_struct Try.underlying23 (hval 1 23 v1 rfl rfl)
  have k1 := h1
  have lt1 : ∀ x ∈ p1, x.block < W.heap.size := by obtain ⟨m, hm⟩ := k1; exact DataW.trod_lt m _ _ _ hm
  obtain ⟨z1, g1, w1⟩ := agg_open (ks := [.i64, .i64, .i64]) Try.underlying23 (by kernel_rfl) (fun j hj => by
    match j, hj with
    | 0, _ => exact ⟨_, rfl, by kernel_rfl, by kernel_rfl, by kernel_rfl⟩
    | 1, _ => exact ⟨_, rfl, by kernel_rfl, by kernel_rfl, by kernel_rfl⟩
    | 2, _ => exact ⟨_, rfl, by kernel_rfl, by kernel_rfl, by kernel_rfl⟩) h1
  have w1_0 := w1 0 (by decide)
  simp only [List.getElem_cons_zero, List.getElem_cons_succ] at w1_0
  have w1_1 := w1 1 (by decide)
  simp only [List.getElem_cons_zero, List.getElem_cons_succ] at w1_1
  have w1_2 := w1 2 (by decide)
  simp only [List.getElem_cons_zero, List.getElem_cons_succ] at w1_2
  have e1 : c1 = #[.int .i64 (g1 0), .int .i64 (g1 1), .int .i64 (g1 2)] := by
    refine Array.ext_getElem? fun j => ?_
    match j with
    | 0 => exact w1_0.1
    | 1 => exact w1_1.1
    | 2 => exact w1_2.1
    | j + 3 => rw [Array.getElem?_eq_none (by rw [z1]; simp), Array.getElem?_eq_none (by simp)]
  subst e1
  obtain ⟨a2, rfl, rfl, rfl, w2⟩ := open_int Try.underlying3 (hval 2 3 v2 rfl rfl) h2
  refine (walk_BoundNumbers W (g0 0) (g0 1) (g0 2) (g0 3) (g0 4) (g0 5) w0_0.2 w0_1.2 w0_2.2 w0_3.2 w0_4.2 w0_5.2 (g1 0) (g1 1) (g1 2) w1_0.2 w1_1.2 w1_2.2 a2 w2).mono fun e W' ⟨he, hfr⟩ => ?_
  subst he
  have bel : Below W.heap.size W W' := hfr.below (Nat.le_refl _) (fun _ hx => by cases hx)
  exact ⟨_, rfl, _, _, _, [], _, [], hW', trodAll_mk1 (shut_bool Try.underlying4 _), (trodAll_cons_mk (Below.trod laidOut (by kernel_rfl) (of_decide_eq_true (by kernel_rfl)) k0 bel lt0) (trodAll_cons_mk (Below.trod laidOut (by kernel_rfl) (of_decide_eq_true (by kernel_rfl)) k1 bel lt1) (trodAll_cons_mk (shut_int Try.underlying3 w2) trodAll_mk0))), rfl, bel.frame _, fun h => by cases h⟩
theorem over : Rows.boundNumbersRow.holds Try.pinned (OpenSpec.ofChange Rows.boundNumbersSpec) :=
  OpenClaim.holds_of_wide 5 Try.f5 rfl rfl rfl rfl rfl rfl rfl ⟨rfl, rfl, rfl, rfl, rfl⟩ rfl rfl rfl rfl rfl (by kernel_rfl) Try.func5 (by kernel_rfl)
    (of_decide_eq_true (by kernel_rfl)) (by unfold Func.isWrapper; first | (rw [if_pos (by decide +kernel)]; kernel_rfl) | (rw [if_neg (by decide +kernel)]; exact ⟨rfl, rfl⟩))
    (fun os started H enc _ => lifted os started H enc)
theorem proved : Rows.BoundNumbersSaid := over
end Go.Proofs.Ytaefahbgeokopaa.boundNumbers
namespace Go.Proofs.Ytaefahbgeokopaa
/-- The statement, under a short name. -/
theorem boundNumbers_holds : Rows.BoundNumbersSaid := boundNumbers.proved
#print axioms boundNumbers_holds
end Go.Proofs.Ytaefahbgeokopaa
