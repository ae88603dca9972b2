/- The chapter's example, and what is refused. -/
import Derived.Test.YtgmpikaibeenmaaPlainM
namespace Go.Proofs.Ytgmpikaibeenmaa
open Go.RowKit Go.Shelf Go.ChangeMaps
set_option linter.unusedVariables false
set_option linter.unusedSimpArgs false
set_option maxRecDepth 100000

theorem knows : openA [] 4 1 = (0, [⟨4, 1, []⟩]) ∧ openA [⟨4, 1, []⟩] 8 4 = (0, [⟨4, 1, []⟩, ⟨8, 4, []⟩]) := by decide
theorem knowsAll : hsOf [⟨4, 1, []⟩, ⟨8, 4, []⟩] 255 true = [0, 4, 8] := by
  unfold hsOf hearA
  rw [show ([⟨4, 1, []⟩, ⟨8, 4, []⟩] : List AE).filter (fun x => hearsB 255 x.k x.gs) = [⟨4, 1, []⟩, ⟨8, 4, []⟩] from by decide]
  simp [srt, List.mergeSort]
theorem knows8 : hsOf [⟨4, 1, []⟩, ⟨8, 4, []⟩] 8 true = [8] := by
  unfold hsOf hearA
  rw [show ([⟨4, 1, []⟩, ⟨8, 4, []⟩] : List AE).filter (fun x => hearsB 8 x.k x.gs) = [⟨8, 4, []⟩] from by decide]
  simp [srt]

theorem made_zero (n : Nat) : madeCells (Value.int .u8 0).cells n = ((List.replicate n (0 : Int)).map (Value.int .u8)).toArray := by
  apply Array.ext
  · simp [madeCells]
  · intro i h1 h2
    simp [madeCells, Value.cells, Nat.mod_one]
theorem mkn (n : Nat) (hn : n ≤ 100000) : ∃ (zs : List Int) (cs : Array Value), zs.length = n ∧ (∀ x ∈ zs, (Lit.int .u8 x).wf = true) ∧ cs = (zs.map (Value.int .u8)).toArray ∧
    ∀ w : World, (Instr.makeSlice 27 (Value.int IntKind.i64 (n : Int)) (Value.int IntKind.i64 (n : Int))).run Try.prog w = .ok (.slice (some ⟨w.heap.size, 0, none⟩) n n) (w.alloc (.cells cs 5)) := by
  obtain ⟨ji, j0, j1, j2, j3⟩ := info_parts (show (Try.prog.info? 5).map (fun i => (i.zero, i.size, i.bytes)) = some (some (.int .u8 0), 1, 1) by kernel_rfl)
  have ju : Try.prog.underlying 27 = some (.slice 5) := Try.underlying27
  refine ⟨List.replicate n 0, _, List.length_replicate, fun x hx => by rw [List.eq_of_mem_replicate hx]; decide, rfl, fun w => ?_⟩
  have h := run_makeSlice (P := Try.prog) w 27 5 ji (.int .u8 0) ju j0 j1 .i64 .i64 (n : Int) (n : Int) (by omega) (by omega) (by rw [j2]; omega) (by rw [j3]; omega) (by omega)
  rw [j2, Int.toNat_natCast, Nat.mul_one, made_zero] at h
  exact h

set_option maxHeartbeats 4000000 in
theorem walk_PlainKnown (w : World) : Calls Try.prog 3 #[] w fun e w' => e = .returned (.bool true) ∧ Fr [] w w' := by
  obtain ⟨zs, zc, hzl, hzw, hzc, hmk⟩ := mkn 1025 (by decide)
  simp only [Int.cast_ofNat_Int] at hmk
  have HZ := Lib.hid hzc
  have HL := Lib.hid hzl
  clear hzc hzl
  go_enter Try.func3, Try.ntmps3
  go_wp2_with fail
  refine (plain_awake _).mono ?_
  rintro e w1 ⟨rfl, f1⟩
  go_wp2_with fail
  refine (saps_New _).mono ?_
  rintro e w2 ⟨p, b, rfl, hS, hp, hb, f2⟩
  have h0 : AtM w w2 p [] := AtM.start hS hp hb f1 f2
  clear hS hp hb f2 f1
  go_wp2_with fail
  refine (Open_any w w2 p [] 4 1 h0).mono ?_
  rintro e w3 ⟨rfl, hA3⟩
  rw [knows.1] at hA3 ⊢
  clear h0
  go_wp2_with fail
  refine (Open_any w w3 p _ 8 4 hA3).mono ?_
  rintro e w4 ⟨rfl, hA4⟩
  rw [knows.2] at hA4 ⊢
  clear hA3
  go_wp2_with fail
  have hb3 : Bts 0 (w4.alloc (.cells #[.int .u8 1, .int .u8 2] 5)) ⟨some ⟨w4.heap.size, 0, none⟩, 2, 2⟩ [1, 2] := Bts.new (l := [1, 2]) (Blk.new w4 _ _) (by decide) 0
  refine (plain_AskTest 2 255 ⟨some ⟨w4.heap.size, 0, none⟩, 2, 2⟩ [1, 2] 0 _ hb3 (Nat.zero_le _) (by simp)).mono ?_
  rw [show makeP 2 2 255 0 true [1, 2] = (⟨255, 2, false, 2, 2, 0, 0, true, [1, 2]⟩, 0) from by simp [makeP, sapB]]
  rintro e w5 ⟨sp, rfl, hB, f5⟩
  have hA5 := (hA4.on ((Fr.refl [] w4).alloc (.cells #[.int .u8 1, .int .u8 2] 5))).on f5
  clear hA4 hb3 f5
  have hx := hear_x w (w5.alloc (.cells (PD.arr ⟨255, 2, false, 2, 2, 0, 0, true, [1, 2]⟩ sp) 29)) p [⟨4, 1, []⟩, ⟨8, 4, []⟩] ⟨255, 2, false, 2, 2, 0, 0, true, [1, 2]⟩ sp ⟨2, 0, 0, 0, 0, 0⟩ 0 (hA5.on ((Fr.refl [] w5).alloc _)) (hB.fr ((Fr.refl [] w5).alloc _)) (Nat.zero_le _) (by decide) rfl (.inr rfl) rfl (by decide) (by simp) (by simp)
  rw [knowsAll, show ([0, 4, 8].map fun n => ansP ⟨255, 2, false, 2, 2, 0, 0, true, [1, 2]⟩ n (clsA [⟨4, 1, []⟩, ⟨8, 4, []⟩] n)) = [⟨2, 0, true, 2, 2, 0, 0, true, [1, 2]⟩, ⟨2, 4, true, 2, 2, 0, 0, true, [1, 2]⟩, ⟨2, 8, true, 2, 2, 0, 0, true, [1, 2]⟩] from by decide] at hx
  clear hA5 hB
  go_wp2_with fail
  refine hx.mono ?_
  rintro e w6 ⟨⟨A, n, c⟩, rfl, hR, hA6, f6⟩
  obtain ⟨bb, sd, rfl, hbd, _, c0, _⟩ := PRow.get (k := 0) hR rfl
  obtain ⟨bb', sd', e1, hbd', _, c1, _⟩ := PRow.get (k := 1) hR rfl
  cases e1
  obtain ⟨bb', sd'', e1, hbd'', _, c2, _⟩ := PRow.get (k := 2) hR rfl
  cases e1
  have hn := RowG.n hR
  simp only [List.length_cons, List.length_nil, Nat.zero_add, Nat.reduceAdd] at hn
  subst hn
  simp only [Nat.zero_mul, Nat.zero_add, Nat.one_mul, Nat.reduceMul, Nat.reduceAdd] at c0 c1 c2
  clear hx hR hbd hbd' hbd'' f6
  go_wp2_with fail
  refine (plain_Unit 2 0 Sl.nil [] 0 _ (Bts.nil _ _) (Nat.zero_le _) (by simp)).mono ?_
  rw [show makeP 0 2 0 1 false [] = (PD.none, 1) from by simp [makeP]]
  rintro e w7 ⟨s7, rfl, hB7, f7⟩
  have hA7 := hA6.on f7
  have c0 := f7.cell c0 (by simp)
  have c1 := f7.cell c1 (by simp)
  have c2 := f7.cell c2 (by simp)
  clear hA6 f7 hB7
  go_wp2_with fail
  refine (plain_Unit 3 4 Sl.nil [] 0 _ (Bts.nil _ _) (Nat.zero_le _) (by simp)).mono ?_
  rw [show makeP 0 3 4 1 false [] = (PD.none, 1) from by simp [makeP, sapB]]
  rintro e w8 ⟨s8, rfl, hB8, f8⟩
  have g8 := ((Fr.refl [] w7).alloc (.cells (PD.none.arr s7) 29)).tr f8
  have hA8 := hA7.on g8
  have c0 := g8.cell c0 (by simp)
  have c1 := g8.cell c1 (by simp)
  have c2 := g8.cell c2 (by simp)
  clear hA7 f8 g8 hB8
  go_wp2_with fail
  have hbz : Bts 0 ((w8.alloc (.cells (PD.none.arr s8) 29)).alloc (.cells zc 5)) ⟨some ⟨w8.heap.size + 1, 0, none⟩, zs.length, zs.length⟩ zs := Bts.new (by rw [← HZ.out]; exact Blk.newAt _ _ _ _ (by simp)) hzw 0
  have hcz := plain_Unit 2 4 _ zs 0 _ hbz (Nat.zero_le _) (by rw [HL.out]; decide)
  rw [show makeP 0 2 4 1 false zs = (PD.none, 3) from by unfold makeP; rw [if_neg (by decide), if_pos (by rw [HL.out]; decide)]] at hcz
  rw [HL.out] at hcz
  refine hcz.mono ?_
  rintro e w9 ⟨s9, rfl, hB9, f9⟩
  have g9 := (((Fr.refl [] w8).alloc (.cells (PD.none.arr s8) 29)).alloc (.cells zc 5)).tr f9
  have hA9 := hA8.on g9
  have c0 := g9.cell c0 (by simp)
  have c1 := g9.cell c1 (by simp)
  have c2 := g9.cell c2 (by simp)
  clear hA8 f9 g9 hB9 hbz hcz hmk
  go_wp2_with fail
  refine (plain_AskXid 2 8 5 0 _ (Nat.zero_le _)).mono ?_
  rw [show xidP 2 8 5 = (⟨8, 2, false, 2, 1, 0, 0, true, [129, 7, 10]⟩, 0) from xidP_ok (by decide) (by decide) (by decide) (by decide) (by decide)]
  rintro e w10 ⟨sq, rfl, hB10, f10⟩
  have g10 := ((Fr.refl [] w9).alloc (.cells (PD.none.arr s9) 29)).tr f10
  have hA10 := hA9.on g10
  have c0 := g10.cell c0 (by simp)
  have c1 := g10.cell c1 (by simp)
  have c2 := g10.cell c2 (by simp)
  clear hA9 f10 g10
  have hx := hear_x w (w10.alloc (.cells (PD.arr ⟨8, 2, false, 2, 1, 0, 0, true, [129, 7, 10]⟩ sq) 29)) p [⟨4, 1, []⟩, ⟨8, 4, []⟩] ⟨8, 2, false, 2, 1, 0, 0, true, [129, 7, 10]⟩ sq ⟨2, 0, 0, 0, 0, 0⟩ 0 (hA10.on ((Fr.refl [] w10).alloc _)) (hB10.fr ((Fr.refl [] w10).alloc _)) (Nat.zero_le _) (by decide) rfl (.inl rfl) rfl (by decide) (by simp) (by simp)
  rw [knows8, show ([8].map fun n => ansP ⟨8, 2, false, 2, 1, 0, 0, true, [129, 7, 10]⟩ n (clsA [⟨4, 1, []⟩, ⟨8, 4, []⟩] n)) = [⟨2, 8, true, 2, 1, 0, 0, true, [129, 7, 128]⟩] from by decide] at hx
  go_wp2_with fail
  refine hx.mono ?_
  rintro e w11 ⟨⟨A, n, c'⟩, rfl, hR, hA11, f11⟩
  have g11 := ((Fr.refl [] w10).alloc (.cells (PD.arr ⟨8, 2, false, 2, 1, 0, 0, true, [129, 7, 10]⟩ sq) 29)).tr f11
  have bq := (Blk.new w10 (PD.arr ⟨8, 2, false, 2, 1, 0, 0, true, [129, 7, 10]⟩ sq) 29).fr f11 (by simp)
  have c0 := g11.cell c0 (by simp)
  have c1 := g11.cell c1 (by simp)
  have c2 := g11.cell c2 (by simp)
  have hB11 := hB10.fr g11
  obtain ⟨bk, sk, rfl, hbk, _, _, _, _, _, _, _, _, c8⟩ := PRow.get (k := 0) hR rfl
  have hn := RowG.n hR
  simp only [List.length_cons, List.length_nil, Nat.zero_add, Nat.reduceAdd] at hn
  subst hn
  simp only [Nat.zero_mul, Nat.zero_add] at c8
  have F11 := hA11.fr
  clear hx hR hA10 hB10 f11 g11 hA11
  go_wp2_with fail
  refine (r_Same _ sk ⟨some ⟨w11.heap.size, 0, none⟩, 3, 3⟩ [129, 7, 128] [129, 7, 128] (hbk.fr ((Fr.refl [] w11).alloc _)).1 (Bts.new (l := [129, 7, 128]) (Blk.new _ _ _) (by decide) 0).1 (by simp)).mono ?_
  rintro e w12 ⟨rfl, f12⟩
  have g12 := ((Fr.refl [] w11).alloc (.cells #[.int .u8 129, .int .u8 7, .int .u8 128] 5)).tr f12
  have F12 := F11.tr g12
  have cq := (bq.fr g12 (by simp)).cell 8 rfl
  simp only [List.getElem_toArray, List.getElem_cons_zero, List.getElem_cons_succ] at cq
  have hB12 := hB11.fr g12
  clear c0 c1 c2 c8 bq hbk hB11 F11 g12 f12
  go_wp2_with fail
  refine (r_Same _ sq ⟨some ⟨w12.heap.size, 0, none⟩, 3, 3⟩ [129, 7, 10] [129, 7, 10] (hB12.fr ((Fr.refl [] w12).alloc _)).1 (Bts.new (l := [129, 7, 10]) (Blk.new _ _ _) (by decide) 0).1 (by simp)).mono ?_
  rintro e w13 ⟨rfl, f13⟩
  have F13 := (F12.alloc _).tr f13
  clear cq hB12 f13 F12
  go_wp2
  go_ret
  exact ⟨rfl, F13⟩

end Go.Proofs.Ytgmpikaibeenmaa
