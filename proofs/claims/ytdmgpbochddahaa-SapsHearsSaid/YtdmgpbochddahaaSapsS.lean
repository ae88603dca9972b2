/- SapsHears, walked. -/
import Derived.Test.YtdmgpbochddahaaSapsQ
import Derived.Test.YtdmgpbochddahaaSapsK
import Derived.BigQuiet
namespace Go.Proofs.Ytdmgpbochddahaa
open Go.RowKit Go.Shelf Go.ChangeMaps
set_option linter.unusedVariables false
set_option linter.unusedSimpArgs false

set_option maxHeartbeats 4000000 in
set_option maxRecDepth 100000 in
theorem walk_SapsHears (w : World) (A : Option Addr) (n cap : Nat) (g : Nat → Nat → Int) (hm : n ≤ 9223372036854775807) (ha : ArgRec [.i64, .i64, .i64] w A n g) (sp : Int) (hsp : (Lit.int .u8 sp).wf = true) (gr : Int) (hgr : (Lit.int .u8 gr).wf = true) :
    Calls Try.prog 8 #[.slice A n cap, .int .u8 sp, .int .u8 gr] w fun e w' => e = .returned (.bool true) ∧ Fr [] w w' := by
  have hsb := wf_u8 hsp
  have hgb := wf_u8 hgr
  clear hsp hgr
  by_cases hl : 200 < n
  · have d1 : decide ((200 : Int) < (n : Int)) = true := by simp; omega
    go_enter Try.func8, Try.ntmps8
    go_wp2_with fail
    refine (saps_awake _).mono ?_
    rintro e w1 ⟨rfl, f1⟩
    go_wp2
    go_ret
    exact ⟨rfl, f1⟩
  · have d1 : decide ((200 : Int) < (n : Int)) = false := by simp; omega
    go_enter Try.func8, Try.ntmps8
    go_wp2_with fail
    refine (saps_awake _).mono ?_
    rintro e w1 ⟨rfl, f1⟩
    go_wp2_with fail
    refine (saps_New _).mono ?_
    rintro e w2 ⟨p, b, rfl, hS, hp, hb, f2⟩
    have h0 : AtM w w2 p [] := AtM.start hS hp hb f1 f2
    clear hS hp hb f2 f1
    go_wp2
    go_loopw [8] (fun i wr => ∃ (k : Nat) (m : List AE), i = .int .i64 k ∧ k ≤ n ∧ AtM w wr p m ∧ GA m) (fun i _ => n - (intOf i).toNat)
    case atStart => exact ⟨0, [], rfl, by omega, h0, fun _ h => by cases h⟩
    case round =>
      obtain ⟨k, m, rfl, hk, hA, hG⟩ := hrel
      clear h0
      by_cases hlt : k < n
      · have d2 : decide ((k : Int) < (n : Int)) = true := by simp; omega
        obtain ⟨b', off, rfl, hc⟩ := ha.at_ k hlt
        have f0 := hA.fr.alloc (.cells #[.slice none 0 0] 43)
        have c0 := f0.cell (hc 0 (by decide)).1 (by simp)
        have c1 := f0.cell (hc 1 (by decide)).1 (by simp)
        have c2 := f0.cell (hc 2 (by decide)).1 (by simp)
        simp only [List.length_cons, List.length_nil, Nat.zero_add, Nat.reduceAdd, Nat.add_zero, List.getElem_cons_zero, List.getElem_cons_succ] at c0 c1 c2
        clear hc
        have hlt2 : p < wr.heap.size := by obtain ⟨b, c, l, h⟩ := hA; exact h.is.blk.lt
        have hAf := hA.on ((Fr.refl [] wr).alloc (.cells #[.slice none 0 0] 43))
        have hs0 := hA.fr.size
        have HG := Lib.hid hG
        clear hG hA f0
        go_wp2_with fail
        refine (Do0 w _ p wr.heap.size m _ _ _ hAf ⟨(Blk.new wr _ _).cell 0 rfl, (Blk.new wr _ _).free 0⟩ ⟨_, _, _, Blk.new wr _ _⟩ (by omega) hs0).mono ?_
        rintro e w4 ⟨⟨r, rfl⟩, hA4⟩
        clear hAf
        go_wp2
        go_roundw
        case rel => exact ⟨k + 1, _, by simp, by omega, hA4, HG.out.step _ _ _⟩
        case measure => simp [intOf]; omega
      · have d2 : decide ((k : Int) < (n : Int)) = false := by simp; omega
        have hsa : sapB (2 + 2 * (sp % 127)) = true := by unfold sapB; simp; omega
        have hga : groupB (1 + 2 * (gr % 127)) = true := by unfold groupB; simp; omega
        go_wp2_with fail
        generalize 2 + 2 * (sp % 127) = a at *
        generalize 1 + 2 * (gr % 127) = g at *
        have hI := hA.inv hG
        have hlt := hear_lt hI g
        have hwf := hear_wf hG g
        have hcl : ∀ x ∈ hearA m g, 1 ≤ clsA m x ∧ clsA m x ≤ 4 := fun x hx => hear_cls hI hx
        refine (Hears_any w _ p m g hA).mono ?_
        rintro e w5 ⟨s, rfl, hown, hA5, f5⟩
        have hH := Ints.ofOwn hown hwf
        have F5 := hA5.fr
        have hle := hear_le (m := m) g
        have hsm := hI.small
        have hLa := hear_all m
        have hW255 := hear_wf hG 255
        have hcc : Inv (closeA m a).2 ∨ True := .inr trivial
        have HINV := Lib.hid hI
        have HG := Lib.hid hG
        have HLT := Lib.hid hlt
        have HCL := Lib.hid hcl
        have HW := Lib.hid hwf
        have HW255 := Lib.hid hW255
        have HLA := Lib.hid hLa
        have HSA := Lib.hid hsa
        have HGA := Lib.hid hga
        have hsn : (s.n : Int) = ((hearA m g).length : Int) := by rw [hH.n_]
        have hsnN := hH.n_
        clear hA hown hI hG hlt hcl hwf hLa hcc hW255 hsa hga hsn
        generalize hearA m g = H at *
        go_wp2
        go_loopw [12] (fun i wr => ∃ k : Nat, i = .int .i64 k ∧ k ≤ H.length ∧ AtM w wr p m ∧ Fr [] w5 wr) (fun i _ => H.length - (intOf i).toNat)
        case atStart => exact ⟨0, rfl, by omega, hA5, Fr.refl _ _⟩
        case round =>
          obtain ⟨k, rfl, hk, hA6, f6⟩ := hrel
          clear hA5
          by_cases hkl : k < H.length
          · have dk : decide ((k : Int) < (H.length : Int)) = true := by simp; omega
            obtain ⟨ba, oa, e1, c1⟩ := (hH.fr f6).at_ k hkl
            obtain ⟨x, hx⟩ : ∃ x, H[k] = x := ⟨_, rfl⟩
            have hcx := HCL.out H[k] (List.getElem_mem hkl)
            rw [hx] at c1 hcx
            have dz : (clsA m x == 0) = false := by simp; omega
            have hsA : s.A = some ⟨ba, oa, none⟩ := e1
            rw [hsA]
            have HX := Lib.hid hx
            clear hx e1
            by_cases hk0 : 0 < k
            · have d0 : decide (0 < (k : Int)) = true := by simp; omega
              obtain ⟨j, rfl⟩ : ∃ j, k = j + 1 := ⟨k - 1, by omega⟩
              obtain ⟨bb, ob, e2, c2⟩ := (hH.fr f6).at_ j (by omega)
              have hab : bb = ba ∧ ob = oa := by rw [hsA] at e2; simpa using e2.symm
              obtain ⟨rfl, rfl⟩ := hab
              have hyx := pair_lt HLT.out hkl
              rw [HX.out] at hyx
              generalize H[j] = y at *
              have dl : decide (x ≤ y) = false := by simp; omega
              have q1 : IntKind.i64.wrap (((j + 1 : Nat) : Int) - 1) = (j : Int) := by rw [IntWalk.i64_in _ (by omega)]; omega
              have q2 : decide ((j : Int) < (H.length : Int)) = true := by simp; omega
              clear e2 hyx hk0
              go_wp2
              go_quiet ((go_at_call 13; exact Calls.quiet_of_same ((Class_any w _ p m x (hA6.on ((Fr.refl _ _).drewN _))).mono fun e w' h => ⟨h.1, h.2.symm⟩)))
              go_wp2
              go_roundw
              case rel => exact ⟨j + 1 + 1, by go_num, by omega, hA6.on ((Fr.refl _ _).drewN _), f6.drewN _⟩
              case measure => simp [intOf]; omega
            · have d0 : decide (0 < (k : Int)) = false := by simp; omega
              have d0n : decide (0 < k) = false := by simp; omega
              clear hk0
              go_wp2
              go_quiet ((go_at_call 13; exact Calls.quiet_of_same ((Class_any w _ p m x (hA6.on ((Fr.refl _ _).drewN _))).mono fun e w' h => ⟨h.1, h.2.symm⟩)))
              go_wp2
              go_roundw
              case rel => exact ⟨k + 1, by go_num, by omega, hA6.on ((Fr.refl _ _).drewN _), f6.drewN _⟩
              case measure => simp [intOf]; omega
          · have dk : decide ((k : Int) < (H.length : Int)) = false := by simp; omega
            have F6 := F5.tr f6
            have dkn : decide (k < H.length) = false := by simp; omega
            clear hH hsnN hle f6 hk hkl
            go_wp2_with fail
            refine (Hears_any w _ p m 255 hA6).mono ?_
            rintro e w7 ⟨s1, rfl, ho1, hA7, f7⟩
            have hI1 := Ints.ofOwn ho1 HW255.out
            clear ho1 hA6
            go_wp2_with fail
            refine (List_any w _ p m hA7).mono ?_
            rintro e w8 ⟨s2, rfl, ho2, hA8, f8⟩
            have hI2 := Ints.ofOwn ho2 HW255.out
            have hI1 := hI1.fr f8
            clear ho2 hA7
            go_wp2_with fail
            refine (law_Ints w8 s1 s2 _ _ hI1 hI2 (by rw [HLA.out]; omega)).mono ?_
            rintro e w9 ⟨rfl, f9⟩
            rw [beq_self_eq_true]
            have hA9 := hA8.on f9
            clear hI1 hI2 hA8
            go_wp2_with fail
            refine (List_any w _ p m hA9).mono ?_
            rintro e w10 ⟨s3, rfl, ho3, hA10, f10⟩
            have hn3 := (Ints.ofOwn ho3 HW255.out).n_
            rw [HLA.out] at hn3
            have d16 : decide (16 < (s3.n : Int)) = false := by simp; omega
            clear ho3 hA9
            go_wp2_with fail
            refine (Close_any w _ p m a hA10).mono ?_
            rintro e w11 ⟨rfl, hA11⟩
            have HG1 := Lib.hid (show GA (closeA m a).2 by have := HG.out.step 3 a 0; simpa [stepA] using this)
            have HL1 := Lib.hid (close_look m a)
            have hc1 := close_cls m a
            generalize (closeA m a).2 = m1 at *
            have hz1 := hear_none HG1.out HSA.out HL1.out
            have HI1 := Lib.hid (hA11.inv HG1.out)
            have HZ := Lib.hid hz1
            have HC := Lib.hid hc1
            clear hz1 hc1 hA10 d16
            go_wp2_with fail
            refine (Class_any w _ p m1 a hA11).mono ?_
            rintro e w12 ⟨rfl, rfl⟩
            rw [HC.out]
            go_wp2_with fail
            refine (Hears_any w _ p m1 a hA11).mono ?_
            rintro e w13 ⟨s4, rfl, ho4, hA13, f13⟩
            rw [HZ.out] at ho4
            have hn4 : s4.n = 0 := (Ints.ofOwn ho4 (by decide)).n_
            obtain ⟨sA4, sn4, sc4⟩ := s4
            subst hn4
            clear ho4 hA11
            have hopen := Open_any w w13 p m1 a 1 hA13
            rw [open_new HSA.out HL1.out] at hopen
            by_cases hfull : 16 ≤ m1.length
            · rw [if_pos hfull] at hopen
              have hm16 : m1.length = 16 := by have := HI1.out.small; omega
              clear hA13 hfull
              go_wp2_with fail
              refine hopen.mono ?_
              rintro e w14 ⟨rfl, hA14⟩
              go_wp2_with fail
              refine (List_any w _ p m1 hA14).mono ?_
              rintro e w15 ⟨s5, rfl, ho5, hA15, f15⟩
              have hn5 := (Ints.ofOwn ho5 (hear_wf HG1.out 255)).n_
              rw [hear_all, hm16] at hn5
              obtain ⟨sA5, sn5, sc5⟩ := s5
              dsimp only at hn5
              subst hn5
              clear ho5 hm16
              go_wp2
              go_ret
              exact ⟨rfl, hA15.fr⟩
            · rw [if_neg hfull] at hopen
              clear hA13 hfull
              go_wp2_with fail
              refine hopen.mono ?_
              rintro e w14 ⟨rfl, hA14⟩
              have hG2 : GA (m1 ++ [⟨a, 1, []⟩]) := by
                intro x hx
                rcases List.mem_append.1 hx with hx | hx
                · exact HG1.out x hx
                · simp at hx; subst hx; exact ⟨HSA.out, by simp⟩
              have HN := Lib.hid (hear_new HG1.out HSA.out HL1.out)
              have HNE := Lib.hid (hear_grp HSA.out HGA.out HL1.out)
              have hW2 := hear_wf hG2 g
              have hle2 := hear_le (m := m1 ++ [⟨a, 1, []⟩]) g
              have hsm2 := (hA14.inv hG2).small
              have hWa : ∀ x ∈ [a], (Lit.int .i64 x).wf = true := by
                have := hear_wf hG2 a
                rwa [HN.out] at this
              have HWA := Lib.hid hWa
              have HW2 := Lib.hid hW2
              clear hG2 hW2 hWa hopen
              generalize m1 ++ [(⟨a, 1, []⟩ : AE)] = m2 at *
              go_wp2_with fail
              refine (Hears_any w _ p m2 g hA14).mono ?_
              rintro e w15 ⟨s5, rfl, ho5, hA15, f15⟩
              have hH5 := Ints.ofOwn ho5 HW2.out
              have hn5 := hH5.n_
              generalize hearA m2 g = H2 at *
              clear ho5 hA14
              go_wp2
              go_loopw [13] (fun i wr => ∃ k : Nat, i = .int .i64 k ∧ k ≤ H2.length ∧ AtM w wr p m2 ∧ Fr [] w15 wr) (fun i _ => H2.length - (intOf i).toNat)
              case atStart => exact ⟨0, rfl, by omega, hA15, Fr.refl _ _⟩
              case round =>
                obtain ⟨k, rfl, hk, hA16, f16⟩ := hrel
                clear hA15
                by_cases hkl : k < H2.length
                · have dk2 : decide ((k : Int) < (H2.length : Int)) = true := by simp; omega
                  obtain ⟨ba, oa, e1, c1⟩ := (hH5.fr f16).at_ k hkl
                  have hne := HNE.out H2[k] (List.getElem_mem hkl)
                  generalize H2[k] = x at *
                  have hsA : s5.A = some ⟨ba, oa, none⟩ := e1
                  have dne : (x == a) = false := by simpa using hne
                  rw [hsA]
                  clear e1 hne
                  go_wp2
                  go_roundw
                  case rel => exact ⟨k + 1, by go_num, by omega, hA16, f16⟩
                  case measure => simp [intOf]; omega
                · have dk2 : decide ((k : Int) < (H2.length : Int)) = false := by simp; omega
                  have dkn : decide (k < H2.length) = false := by simp; omega
                  clear hH5 hn5 hle2 hk hkl
                  go_wp2_with fail
                  refine (Hears_any w _ p m2 a hA16).mono ?_
                  rintro e w17 ⟨s6, rfl, ho6, hA17, f17⟩
                  rw [HN.out] at ho6
                  have hI6 := Ints.ofOwn ho6 HWA.out
                  clear ho6 hA16
                  go_wp2_with fail
                  refine (law_Ints _ s6 ⟨_, 1, 1⟩ [a] [a] (hI6.fr ((Fr.refl _ _).alloc _)) (newInts (l := [a]) HWA.out rfl) (by simp)).mono ?_
                  rintro e w18 ⟨rfl, f18⟩
                  rw [beq_self_eq_true]
                  go_wp2
                  go_ret
                  exact ⟨rfl, (hA17.fr.alloc _).tr f18⟩
end Go.Proofs.Ytdmgpbochddahaa
