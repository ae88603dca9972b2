/- PlainUnits: whatever it is given, it answers true, and what it was given reads as before. No condition. -/
import Derived.Test.YtgmpikaibeenmaaRows
import Derived.Test.YtgmpikaibeenmaaPlainU
import Derived.Test.YtgmpikaibeenmaaArg
import Derived.Test.YtgmpikaibeenmaaArr
import Derived.WalkKit
import Derived.ProofKit
import Derived.OpenShut
import Derived.ShutString
import Derived.ChangeOld
import Derived.Below
import Derived.SizedLaws
namespace Go.Proofs.Ytgmpikaibeenmaa.plainUnits
open Go.ChangeShapes Go.WideShapes Go.ChangeAt Go.RowKit
open Go.ChangeMaps (open_string shut_string)
set_option linter.unusedVariables false
set_option linter.unusedSimpArgs false
theorem own : ownKnob Try.prog.godebug = none := by kernel_rfl
theorem laidOut : laidOutB Try.prog = true := by kernel_rfl
set_option maxRecDepth 100000 in
theorem lifted (os : Os) (started : os.Started) (H : Type) (enc : TypeId × Value → H) :
    ReturnsInHanded {} Try.checked os 6 .any (Rows.plainUnitsSpec.pre6 enc Try.prog Try.f6 Rows.plainUnitsRow.domain false) (Rows.plainUnitsSpec.post enc Try.prog Try.f6 false true false false) := by
  refine returnsInHanded_of_change_sized (C := Try.checked) own started (by kernel_rfl) Try.func6
    (ChangeSpec.witness6 (enc := enc) (C := Try.checked) false ⟨#[], #[.slice none 0 0, .agg #[.int .u8 0, .int .u8 0, .slice none 0 0], .agg #[.int .u8 0, .int .u8 0, .int .u8 0, .int .u8 0, .int .u8 0, .int .u8 0]], []⟩ 8 (by kernel_rfl) (by kernel_rfl) (by kernel_rfl) (by kernel_rfl)) ?_
  intro W base args ds gs before hval0 hW hcnd hsz0 _
  have hval : ∀ (j : Nat) t v, Try.f6.params[j]? = some t → args[j]? = some v → Value.okWide Try.prog W .any base t v := hval0
  have hW' := hW
  obtain ⟨p, q, hA0, hV, rfl, hfz, hnd⟩ := hW
  have hA : DataW.TrodAll enc Try.prog W 0 (fun _ => true) true Try.f6.params.toList args.toList ds p := hA0
  rw [Try.params6] at hA hval
  obtain ⟨v0, vs0, d0, ds0, p0, q0, hargs, rfl, rfl, h0, r0⟩ := trodAll_cons hA
  obtain ⟨v1, vs1, d1, ds1, p1, q1, rfl, rfl, rfl, h1, r1⟩ := trodAll_cons r0
  obtain ⟨v2, vs2, d2, ds2, p2, q2, rfl, rfl, rfl, h2, r2⟩ := trodAll_cons r1
  obtain ⟨rfl, rfl, rfl⟩ := trodAll_nil r2
  obtain rfl : args = #[v0, v1, v2] := by cases args; simp_all
  obtain ⟨rfl, rfl⟩ := trodVars_none hV
  obtain ⟨a0, len0, cap0, rfl⟩ := okWide_slice Try.underlying45 (hval 0 45 v0 rfl rfl)
  have k0 := h0
  have lt0 : ∀ x ∈ p0, x.block < W.heap.size := by obtain ⟨m, hm⟩ := k0; exact DataW.trod_lt m _ _ _ hm
  obtain ⟨m0, g0, w0⟩ := ArgRec.open_ (ks := [.i64, .i64, .i64]) Try.underlying45 Try.underlying87 (by kernel_rfl) (by decide) (fun j hj => by
    match j, hj with
    | 0, _ => exact ⟨_, rfl, by kernel_rfl, by kernel_rfl, by kernel_rfl⟩
    | 1, _ => exact ⟨_, rfl, by kernel_rfl, by kernel_rfl, by kernel_rfl⟩
    | 2, _ => exact ⟨_, rfl, by kernel_rfl, by kernel_rfl, by kernel_rfl⟩) h0
  obtain ⟨c1, rfl, _⟩ := okWide_struct Try.underlying47 (hval 1 47 v1 rfl rfl)
  have k1 := h1
  have lt1 : ∀ x ∈ p1, x.block < W.heap.size := by obtain ⟨m, hm⟩ := k1; exact DataW.trod_lt m _ _ _ hm
  obtain ⟨a1, b1, s1, l1, rfl, wa1, wb1, m1, w1⟩ := uus_open Try.underlying47 (by kernel_rfl) ⟨_, rfl, by kernel_rfl, by kernel_rfl, by kernel_rfl⟩ ⟨_, rfl, by kernel_rfl, by kernel_rfl, by kernel_rfl⟩ ⟨_, rfl, by kernel_rfl, by kernel_rfl, by kernel_rfl⟩ Try.underlying5 (by kernel_rfl) h1
  obtain ⟨c2, rfl, _⟩ := okWide_array Try.underlying37 (hval 2 37 v2 rfl rfl)
  have k2 := h2
  have lt2 : ∀ x ∈ p2, x.block < W.heap.size := by obtain ⟨m, hm⟩ := k2; exact DataW.trod_lt m _ _ _ hm
  obtain ⟨z2, g2, w2⟩ := arr_open (n := 6) (k := .u8) Try.underlying37 (by kernel_rfl) (by kernel_rfl) Try.underlying5 h2
  have w2_0 := w2 0 (by decide)
  have w2_1 := w2 1 (by decide)
  have w2_2 := w2 2 (by decide)
  have w2_3 := w2 3 (by decide)
  have w2_4 := w2 4 (by decide)
  have w2_5 := w2 5 (by decide)
  have e2 : c2 = #[.int .u8 (g2 0), .int .u8 (g2 1), .int .u8 (g2 2), .int .u8 (g2 3), .int .u8 (g2 4), .int .u8 (g2 5)] := by
    refine Array.ext_getElem? fun j => ?_
    match j with
    | 0 => exact w2_0.1
    | 1 => exact w2_1.1
    | 2 => exact w2_2.1
    | 3 => exact w2_3.1
    | 4 => exact w2_4.1
    | 5 => exact w2_5.1
    | j + 6 => rw [Array.getElem?_eq_none (by rw [z2]; simp), Array.getElem?_eq_none (by simp)]
  subst e2
  refine (walk_PlainUnits W a0 len0 cap0 g0 m0 w0 a1 b1 s1 l1 wa1 wb1 m1 w1 (g2 0) (g2 1) (g2 2) (g2 3) (g2 4) (g2 5) w2_0.2 w2_1.2 w2_2.2 w2_3.2 w2_4.2 w2_5.2).mono fun e W' ⟨he, hfr⟩ => ?_
  subst he
  have bel : Below W.heap.size W W' := hfr.below (Nat.le_refl _) (fun _ hx => by cases hx)
  exact ⟨_, rfl, _, _, _, [], _, [], hW', trodAll_mk1 (shut_bool Try.underlying4 _), (trodAll_cons_mk (Below.trod laidOut (by kernel_rfl) (of_decide_eq_true (by kernel_rfl)) k0 bel lt0) (trodAll_cons_mk (Below.trod laidOut (by kernel_rfl) (of_decide_eq_true (by kernel_rfl)) k1 bel lt1) (trodAll_cons_mk (Below.trod laidOut (by kernel_rfl) (of_decide_eq_true (by kernel_rfl)) k2 bel lt2) trodAll_mk0))), rfl, bel.frame _, fun h => by cases h⟩
theorem over : Rows.plainUnitsRow.holds Try.pinned (OpenSpec.ofChange Rows.plainUnitsSpec) :=
  OpenClaim.holds_of_wide 6 Try.f6 rfl rfl rfl rfl rfl rfl rfl ⟨rfl, rfl, rfl, rfl, rfl⟩ rfl rfl rfl rfl rfl (by kernel_rfl) Try.func6 (by kernel_rfl)
    (of_decide_eq_true (by kernel_rfl)) (by unfold Func.isWrapper; first | (rw [if_pos (by decide +kernel)]; kernel_rfl) | (rw [if_neg (by decide +kernel)]; exact ⟨rfl, rfl⟩))
    (fun os started H enc _ => lifted os started H enc)
theorem proved : Rows.PlainUnitsSaid := over
end Go.Proofs.Ytgmpikaibeenmaa.plainUnits
namespace Go.Proofs.Ytgmpikaibeenmaa
/-- The statement, under a short name. -/
theorem plainUnits_holds : Rows.PlainUnitsSaid := plainUnits.proved
#print axioms plainUnits_holds
end Go.Proofs.Ytgmpikaibeenmaa
