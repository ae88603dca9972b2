/- SapsOne, walked. -/
import Derived.Test.YtdmgpbochddahaaSapsE
import Derived.Test.YtdmgpbochddahaaSapsK
namespace Go.Proofs.Ytdmgpbochddahaa
open Go.RowKit Go.Shelf Go.ChangeMaps
set_option linter.unusedVariables false
set_option linter.unusedSimpArgs false

theorem look_cls {w : World} {p b c : Nat} {L : List SE} {n : Int} (hS : IsS w p b L c) : 0 ≤ clsOf L n ∧ clsOf L n ≤ 4 := by
  unfold clsOf
  cases h : look L n with
  | none => simp
  | some x => simp; have := hS.pos x (look_mem h).1; omega
theorem ga_odd {w : World} {p b c : Nat} {L : List SE} {n : Int} (hS : IsS w p b L c) (hg : GA (L.map SE.a)) (h : n % 2 ≠ 0) : clsOf L n = 0 := by
  unfold clsOf
  cases h' : look L n with
  | none => rfl
  | some x =>
    obtain ⟨h1, h2⟩ := look_mem h'
    have := (hg x.a (List.mem_map_of_mem h1)).1
    have hk : x.a.k = n := h2
    rw [hk] at this
    unfold sapB at this
    simp at this
    omega
theorem ga_even {w : World} {p b c : Nat} {L : List SE} {n : Int} (hS : IsS w p b L c) (hg : GA (L.map SE.a)) (h : n % 2 = 0) : hearsM L n = if 0 < clsOf L n then [n] else [] := by
  have key : ∀ x ∈ L, hearsB n x.k x.gs = decide (x.k = n) := by
    intro x hx
    have h1 := (hg x.a (List.mem_map_of_mem hx)).2
    unfold hearsB
    have e1 : (n == 255) = false := by simp; omega
    have e2 : x.gs.contains n = false := by
      rw [← Bool.not_eq_true, List.contains_iff_mem]
      intro hm
      have := h1 n hm
      unfold groupB at this
      simp at this
      omega
    rw [e1, e2, Bool.or_false, Bool.false_or, Bool.eq_iff_iff]
    simp only [beq_iff_eq, decide_eq_true_eq]
    exact eq_comm
  have e : (L.filter fun x => hearsB n x.k x.gs) = L.filter fun x => decide (x.k = n) := List.filter_congr key
  cases h' : look L n with
  | none =>
    have hc : clsOf L n = 0 := by unfold clsOf; rw [h']
    rw [hc, if_neg (by decide)]
    refine hearsM_of (m := []) ?_ (by simp [srt])
    rw [e]
    have : L.filter (fun x => decide (x.k = n)) = [] := by
      rw [List.filter_eq_nil_iff]
      intro x hx hk
      have := look_none_mem h'
      exact this (by have := of_decide_eq_true hk; rw [← this]; exact List.mem_map_of_mem hx)
    rw [this]; rfl
  | some x =>
    obtain ⟨h1, h2⟩ := look_mem h'
    have hc : 0 < clsOf L n := by unfold clsOf; rw [h']; exact (hS.pos x h1).1
    rw [if_pos hc]
    refine hearsM_of (m := [n]) ?_ (by simp [srt])
    rw [e]
    have : ∀ L : List SE, (L.map (·.k)).Nodup → x ∈ L → (L.filter fun x => decide (x.k = n)).map (·.k) = [n] := by
      intro L
      induction L with
      | nil => intro _ h; cases h
      | cons a L ih =>
        intro hn hm
        rw [List.map_cons, List.nodup_cons] at hn
        by_cases ha : a.k = n
        · rw [List.filter_cons_of_pos (by simpa using ha)]
          have : L.filter (fun x => decide (x.k = n)) = [] := by
            rw [List.filter_eq_nil_iff]
            intro y hy hk
            exact hn.1 (by rw [ha, ← of_decide_eq_true hk]; exact List.mem_map_of_mem hy)
          rw [this]; simp [ha]
        · rw [List.filter_cons_of_neg (by simpa using ha)]
          rcases List.mem_cons.1 hm with e | hm
          · subst e; exact absurd h2 ha
          · exact ih hn.2 hm
    exact this L hS.nod h1

theorem tmod2 (n : Int) : n.tmod 2 = 0 ↔ n % 2 = 0 := by
  rw [← Int.dvd_iff_tmod_eq_zero, ← Int.dvd_iff_emod_eq_zero]

set_option maxHeartbeats 4000000 in
set_option maxRecDepth 100000 in
theorem walk_SapsOne (w : World) (A : Option Addr) (n cap : Nat) (g : Nat → Nat → Int) (hm : n ≤ 9223372036854775807) (ha : ArgRec [.i64, .i64, .i64] w A n g) (to : Int) (hto : (Lit.int .i64 to).wf = true) :
    Calls Try.prog 6 #[.slice A n cap, .int .i64 to] w fun e w' => e = .returned (.bool true) ∧ Fr [] w w' := by
  by_cases hl : 150 < n
  · have d1 : decide ((150 : Int) < (n : Int)) = true := by simp; omega
    go_enter Try.func6, Try.ntmps6
    go_wp2_with fail
    refine (saps_awake _).mono ?_
    rintro e w1 ⟨rfl, f1⟩
    go_wp2
    go_ret
    exact ⟨rfl, f1⟩
  · have d1 : decide ((150 : Int) < (n : Int)) = false := by simp; omega
    go_enter Try.func6, Try.ntmps6
    go_wp2_with fail
    refine (saps_awake _).mono ?_
    rintro e w1 ⟨rfl, f1⟩
    go_wp2_with fail
    refine (saps_New _).mono ?_
    rintro e w2 ⟨p, b, rfl, hS, hp, hb, f2⟩
    have h0 : AtM w w2 p [] := AtM.start hS hp hb f1 f2
    clear hS hp hb f2 f1
    go_wp2
    go_loopw [6] (fun i wr => ∃ (k : Nat) (m : List AE), i = .int .i64 k ∧ k ≤ n ∧ AtM w wr p m ∧ GA m) (fun i _ => n - (intOf i).toNat)
    case atStart => exact ⟨0, [], rfl, by omega, h0, fun _ h => by cases h⟩
    case round =>
      obtain ⟨k, m, rfl, hk, hA, hG⟩ := hrel
      clear h0
      by_cases hlt : k < n
      · have d2 : decide ((k : Int) < (n : Int)) = true := by simp; omega
        obtain ⟨b', off, rfl, hc⟩ := ha.at_ k hlt
        have f0 := hA.fr.alloc (.cells #[.slice none 0 0] 43)
        have c0 := f0.cell (hc 0 (by decide)).1 (by simp)
        have c1 := f0.cell (hc 1 (by decide)).1 (by simp)
        have c2 := f0.cell (hc 2 (by decide)).1 (by simp)
        simp only [List.length_cons, List.length_nil, Nat.zero_add, Nat.reduceAdd, Nat.add_zero, List.getElem_cons_zero, List.getElem_cons_succ] at c0 c1 c2
        clear hc
        have hlt2 : p < wr.heap.size := by obtain ⟨b, c, l, h⟩ := hA; exact h.is.blk.lt
        have hAf := hA.on ((Fr.refl [] wr).alloc (.cells #[.slice none 0 0] 43))
        have hs0 := hA.fr.size
        have HG := Lib.hid hG
        clear hG hA f0
        go_wp2_with fail
        refine (Do0 w _ p wr.heap.size m _ _ _ hAf ⟨(Blk.new wr _ _).cell 0 rfl, (Blk.new wr _ _).free 0⟩ ⟨_, _, _, Blk.new wr _ _⟩ (by omega) hs0).mono ?_
        rintro e w4 ⟨⟨r, rfl⟩, hA4⟩
        clear hAf
        go_wp2
        go_roundw
        case rel => exact ⟨k + 1, _, by simp, by omega, hA4, HG.out.step _ _ _⟩
        case measure => simp [intOf]; omega
      · have d2 : decide ((k : Int) < (n : Int)) = false := by simp; omega
        obtain ⟨b, c, L, hT, rfl, hF, hN⟩ := hA
        have hcl := look_cls (n := to) hT
        by_cases he : to % 2 = 0
        · have ht : (to.tmod 2 == 0) = true := by rw [beq_iff_eq, tmod2]; exact he
          have ht2 : (to.tmod 2 != 0) = false := by simp [tmod2, he]
          have hH := ga_even hT hG he
          clear he hG
          by_cases hp : 0 < clsOf L to
          · rw [if_pos hp] at hH
            have HC := Lib.hid hH
            clear hH
            go_wp2_with fail
            refine (saps_Hears _ p b c L to hT).mono ?_
            rintro e w5 ⟨s, rfl, hown, f5⟩
            rw [HC.out] at hown
            have hT5 := hT.fr0 f5
            have hwf : ∀ x ∈ [to], (Lit.int .i64 x).wf = true := by simpa using hto
            have HI := Ints.ofOwn hown hwf
            clear hown
            go_wp2_with fail
            refine (saps_Class _ p b c L to hT5).mono ?_
            rintro e w6 ⟨rfl, rfl⟩
            have dp : decide (0 < clsOf L to) = true := by simpa using hp
            have dq : decide (clsOf L to ≤ 4) = true := by simpa using hcl.2
            go_wp2_with fail
            refine (law_Ints _ s ⟨_, 1, 1⟩ [to] [to] (HI.fr ((Fr.refl _ _).alloc _)) (newInts (l := [to]) hwf rfl) (by simp)).mono ?_
            rintro e w8 ⟨rfl, f8⟩
            have hT8 := hT5.fr0 (((Fr.refl _ _).alloc _).tr f8)
            rw [beq_self_eq_true]
            clear HI hT5
            go_wp2_with fail
            refine (saps_Class _ p b c L to hT8).mono ?_
            rintro e w9 ⟨rfl, rfl⟩
            go_wp2
            go_ret
            exact ⟨rfl, (((hF.tr f5).alloc _).tr f8)⟩
          · rw [if_neg hp] at hH
            have HC := Lib.hid hH
            clear hH
            go_wp2_with fail
            refine (saps_Hears _ p b c L to hT).mono ?_
            rintro e w5 ⟨s, rfl, hown, f5⟩
            rw [HC.out] at hown
            have hT5 := hT.fr0 f5
            have hn3 : s.n = 0 := (Ints.ofOwn hown (by decide)).n_
            obtain ⟨sA, sn, sc⟩ := s
            subst hn3
            clear hown
            go_wp2_with fail
            refine (saps_Class _ p b c L to hT5).mono ?_
            rintro e w6 ⟨rfl, rfl⟩
            have dp : decide (0 < clsOf L to) = false := by simpa using hp
            have dq : decide (clsOf L to ≤ 4) = true := by simpa using hcl.2
            go_wp2_with fail
            refine (saps_Class _ p b c L to hT5).mono ?_
            rintro e w9 ⟨rfl, rfl⟩
            go_wp2
            go_ret
            exact ⟨rfl, hF.tr f5⟩
        · have ht : (to.tmod 2 == 0) = false := by rw [beq_eq_false_iff_ne, ne_eq, tmod2]; exact he
          have ht2 : (to.tmod 2 != 0) = true := by simp [tmod2, he]
          have hH := ga_odd hT hG he
          clear he hG
          go_wp2_with fail
          refine (saps_Hears _ p b c L to hT).mono ?_
          rintro e w5 ⟨s, rfl, hown, f5⟩
          have hT5 := hT.fr0 f5
          clear hown
          go_wp2_with fail
          refine (saps_Class _ p b c L to hT5).mono ?_
          rintro e w6 ⟨rfl, rfl⟩
          rw [hH]
          clear hH
          go_wp2
          go_ret
          exact ⟨rfl, hF.tr f5⟩
end Go.Proofs.Ytdmgpbochddahaa
