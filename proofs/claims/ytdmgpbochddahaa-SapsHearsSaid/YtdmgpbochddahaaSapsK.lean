/- The law SapsKnown, walked. -/
import Derived.Test.YtdmgpbochddahaaSapsL
namespace Go.Proofs.Ytdmgpbochddahaa
open Go.RowKit Go.Shelf Go.ChangeMaps
set_option linter.unusedVariables false
set_option linter.unusedSimpArgs false

theorem hearsM_of {l : List SE} {to : Int} {m : List Int} (h : (l.filter fun x => hearsB to x.k x.gs).map (·.k) = m) (hs : srt m = m) : hearsM l to = m := by unfold hearsM; rw [h, hs]
theorem newInts {w : World} {l : List Int} {t : TypeId} (hw : ∀ x ∈ l, (Lit.int .i64 x).wf = true) {cs : Array Value} (hc : cs = (l.map (Value.int .i64)).toArray) : Ints .i64 (w.alloc (.cells cs t)) (Sl.v ⟨some ⟨w.heap.size, 0, none⟩, l.length, l.length⟩) l := by
  subst hc; exact Ints.blk (Blk.new _ _ _) hw

set_option maxHeartbeats 1000000 in
set_option maxRecDepth 100000 in
theorem walk_SapsKnown (w : World) : Calls Try.prog 4 #[] w fun e w' => e = .returned (.bool true) ∧ Fr [] w w' := by
  go_enter Try.func4, Try.ntmps4
  go_wp2_with fail
  refine (saps_awake _).mono ?_
  rintro e w1 ⟨rfl, f1⟩
  go_wp2_with fail
  refine (saps_New _).mono ?_
  rintro e w2 ⟨p, b, rfl, hS, hp, hb, f2⟩
  go_wp2_with fail
  refine (Open_ok _ p b 0 [] 4 2 hS (by decide) rfl (by decide)).mono ?_
  rintro e w3 ⟨rfl, hS3, f3⟩
  simp only [List.nil_append] at hS3
  go_wp2_with fail
  refine (Open_ok _ p b 1 _ 8 1 hS3 (by decide) rfl (by simp)).mono ?_
  rintro e w4 ⟨rfl, hS4, f4⟩
  simp only [List.cons_append, List.nil_append] at hS4
  have F4 : Fr [] w w4 := ((f1.tr f2).trans f3 (fun x hx => .inr (by have := f1.size; simp [foot] at hx; omega))).trans f4 (fun x hx => .inr (by have := f1.size; have := f2.size; simp [foot] at hx; omega))
  have hs4 := F4.size
  have hs2 := (f1.tr f2).size
  have hs3 := f3.size
  clear hS hS3
  go_wp2_with fail
  refine (Join_ok _ p b 2 _ 5 ⟨8, 1, w3.heap.size, [], 1⟩ hS4 (by decide) rfl rfl).mono ?_
  rintro e w5 ⟨rfl, hS5, f5⟩
  have hr : regr [⟨4, 2, w2.heap.size, [], 0⟩, ⟨8, 1, w3.heap.size, [], 1⟩] 8 (· ++ [5]) = [⟨4, 2, w2.heap.size, [], 0⟩, ⟨8, 1, w3.heap.size, [5], 1⟩] := rfl
  change IsS w5 p b (regr [⟨4, 2, w2.heap.size, [], 0⟩, ⟨8, 1, w3.heap.size, [], 1⟩] 8 (· ++ [5])) 2 at hS5
  rw [hr] at hS5
  have F5 : Fr [] w w5 := F4.trans f5 (fun x hx => .inr (by simp at hx; omega))
  clear hr hS4
  go_wp2_with fail
  refine (Open_there _ p b 2 _ 4 1 hS5 (by decide) (show (0 : Int) < 2 by decide)).mono ?_
  rintro e w6 ⟨rfl, rfl⟩
  go_wp2_with fail
  refine (Open_arg _ p b 2 [] 5 1 (by decide)).mono ?_
  rintro e w6 ⟨rfl, rfl⟩
  go_wp2_with fail
  refine (Join_none _ p b 2 _ 6 5 hS5 (by decide) rfl).mono ?_
  rintro e w6 ⟨rfl, f6⟩
  have hS6 := hS5.fr0 f6
  have m1 : hearsM [⟨4, 2, w2.heap.size, [], 0⟩, ⟨8, 1, w3.heap.size, [5], 1⟩] 5 = [8] := hearsM_of rfl (by simp [srt])
  have m2 : hearsM [⟨4, 2, w2.heap.size, [], 0⟩, ⟨8, 1, w3.heap.size, [5], 1⟩] 255 = [4, 8] := hearsM_of rfl (sorted_perm_eq (srt_pw _) (by decide) (List.mergeSort_perm _ _))
  have m3 : hearsM [⟨4, 2, w2.heap.size, [], 0⟩, ⟨8, 1, w3.heap.size, [5], 1⟩] 6 = [] := hearsM_of rfl (by simp [srt])
  have m4 : hearsM [⟨4, 2, w2.heap.size, [], 0⟩, ⟨8, 1, w3.heap.size, [5], 1⟩] 0 = [] := hearsM_of rfl (by simp [srt])
  clear hS5
  go_wp2_with fail
  refine (saps_Hears _ p b 2 _ 5 hS6).mono ?_
  rintro e w7 ⟨s1, rfl, hown1, f7⟩
  rw [m1] at hown1
  have hI1 := (Ints.ofOwn hown1 (by decide))
  have hS7 := hS6.fr0 f7
  clear hS6 hown1 m1
  go_wp2_with fail
  refine (law_Ints _ s1 ⟨_, 1, 1⟩ [8] [8] (hI1.fr ((Fr.refl _ _).alloc _)) (newInts (l := [8]) (by decide) rfl) (by decide)).mono ?_
  rintro e w8 ⟨rfl, f8⟩
  have hS8 := hS7.fr0 (((Fr.refl _ _).alloc _).tr f8)
  have F8 : Fr [] w w8 := ((((F5.tr f6).tr f7).alloc _).tr f8)
  clear hS7
  go_wp2_with fail
  refine (saps_Hears _ p b 2 _ 255 hS8).mono ?_
  rintro e w9 ⟨s2, rfl, hown2, f9⟩
  rw [m2] at hown2
  have hI2 := (Ints.ofOwn hown2 (by decide))
  have hS9 := hS8.fr0 f9
  clear hS8 hown2 m2
  go_wp2_with fail
  refine (law_Ints _ s2 ⟨_, 2, 2⟩ [4, 8] [4, 8] (hI2.fr ((Fr.refl _ _).alloc _)) (newInts (l := [4, 8]) (by decide) rfl) (by decide)).mono ?_
  rintro e w10 ⟨rfl, f10⟩
  have hS10 := hS9.fr0 (((Fr.refl _ _).alloc _).tr f10)
  have F10 : Fr [] w w10 := (((F8.tr f9).alloc _).tr f10)
  clear hS9
  go_wp2_with fail
  refine (saps_Hears _ p b 2 _ 6 hS10).mono ?_
  rintro e w11 ⟨s3, rfl, hown3, f11⟩
  rw [m3] at hown3
  have hn3 : s3.n = 0 := (Ints.ofOwn hown3 (by decide)).n_
  obtain ⟨sA, sn, sc⟩ := s3
  subst hn3
  have hS11 := hS10.fr0 f11
  clear hown3 hS10 m3
  go_wp2_with fail
  refine (saps_Hears _ p b 2 _ 0 hS11).mono ?_
  rintro e w12 ⟨s4, rfl, hown4, f12⟩
  rw [m4] at hown4
  have hn4 : s4.n = 0 := (Ints.ofOwn hown4 (by decide)).n_
  obtain ⟨sA4, sn4, sc4⟩ := s4
  subst hn4
  clear hown4 hS11 m4
  go_wp2
  go_ret
  exact ⟨rfl, (F10.tr f11).tr f12⟩
end Go.Proofs.Ytdmgpbochddahaa
