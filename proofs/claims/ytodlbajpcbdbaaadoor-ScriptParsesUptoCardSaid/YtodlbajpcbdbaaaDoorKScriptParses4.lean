/- Lemmas: QrE, QrBs, MixP, QrF, PrG, ScrAr, ScrAs, ScrLa, ScrLc, PrH, QrG, PrE, Head, PrF, PrI, QrH. No condition. -/
import Derived.Test.YtodlbajpcbdbaaaDoorKScriptParses3
import Derived.Lib.AppendStr
import Derived.Lib.SlBytesConst
namespace Go.Proofs.YtodlbajpcbdbaaaDoor
open Go.RowKit Go.Shelf
set_option linter.unusedVariables false
set_option linter.unusedSimpArgs false
set_option maxRecDepth 100000

theorem shape_nums : ∀ d : Fin 25, (findD ((d.val : Int) + 1)).isSome = true := by decide +kernel
theorem shape_rng : (shapesM.all fun s => decide (1 ≤ s.1 ∧ s.1 ≤ 25) && decide ((findD s.1).map (·.2.1) = some s.2.1) && decide ((findD s.1).map (·.2.2) = some s.2.2)) = true := by decide +kernel
theorem shape_at {s : SH} (h : s ∈ shapesM) : 1 ≤ s.1 ∧ s.1 ≤ 25 ∧ (wordS s.1).bytes = s.2.1 ∧ (hasS s.1).bytes = s.2.2 := by
  have := List.all_eq_true.1 shape_rng s h
  simp only [Bool.and_eq_true, decide_eq_true_eq] at this
  obtain ⟨⟨⟨h1, h2⟩, h3⟩, h4⟩ := this
  refine ⟨h1, h2, ?_, ?_⟩
  · cases hf : findD s.1 with
    | none => rw [hf] at h3; cases h3
    | some y => rw [hf] at h3; unfold wordS; rw [hf]; simp only [Option.map_some, Option.some.injEq] at h3; exact h3
  · cases hf : findD s.1 with
    | none => rw [hf] at h4; cases h4
    | some y => rw [hf] at h4; unfold hasS; rw [hf]; simp only [Option.map_some, Option.some.injEq] at h4; exact h4
theorem words_inj : ∀ a b : Fin 25, (shapesM[a.val]'a.isLt).2.1 = (shapesM[b.val]'b.isLt).2.1 → a = b := by decide +kernel
theorem word_inj {s y : SH} (hs : s ∈ shapesM) (hy : y ∈ shapesM) (h : s.2.1 = y.2.1) : s = y := by
  obtain ⟨i, hi, rfl⟩ := List.mem_iff_getElem.1 hs
  obtain ⟨j, hj, rfl⟩ := List.mem_iff_getElem.1 hy
  have := words_inj ⟨i, hi⟩ ⟨j, hj⟩ h
  cases this
  rfl
theorem findW_hit {s : SH} (hs : s ∈ shapesM) (n : Nat) : findW s.2.1 n = if n = 1 + s.2.2.length then some s else none := by
  split
  · rename_i hn
    unfold findW
    cases hf : shapesM.find? (fun y => y.2.1 == s.2.1 && n == 1 + y.2.2.length) with
    | none =>
      rw [List.find?_eq_none] at hf
      exact absurd (by simp [hn]) (hf s hs)
    | some y =>
      have h1 := List.mem_of_find?_eq_some hf
      have h2 := List.find?_some hf
      simp only [Bool.and_eq_true, beq_iff_eq] at h2
      rw [word_inj h1 hs h2.1]
  · rename_i hn
    unfold findW
    rw [List.find?_eq_none]
    intro y hy hc
    simp only [Bool.and_eq_true, beq_iff_eq] at hc
    rw [word_inj hy hs hc.1] at hc
    exact hn hc.2
theorem findW_miss {w : List UInt8} (n : Nat) (h : ∀ k : Nat, 1 ≤ k → k < 26 → (wordS k).bytes ≠ w) : findW w n = none := by
  unfold findW
  rw [List.find?_eq_none]
  intro s hs hc
  simp only [Bool.and_eq_true, beq_iff_eq] at hc
  obtain ⟨h1, h2, h3, _⟩ := shape_at hs
  have := h s.1.toNat (by omega) (by omega)
  rw [show ((s.1.toNat : Nat) : Int) = s.1 by omega, h3] at this
  exact this hc.1
def RevPost (w : World) (l : List UInt8) (e : Ending) (w' : World) : Prop := (match eventM (splitc 32 l) with
  | some x => ∃ sl : Sl, e = .returned (.tuple #[.agg (x.arr sl), .bool true]) ∧ Bts 0 w' sl (bytesI x.b)
  | none => e = .returned (.tuple #[.agg #[.int .i64 0, .int .i64 0, .int .i64 0, .int .i64 0, .int .i64 0, .int .i64 0, .bool false, .slice none 0 0], .bool false])) ∧ Fr [] w w'
theorem RevPost.no {w : World} {l : List UInt8} {w' : World} (h : eventM (splitc 32 l) = none) (f : Fr [] w w') : RevPost w l (.returned (.tuple #[.agg #[.int .i64 0, .int .i64 0, .int .i64 0, .int .i64 0, .int .i64 0, .int .i64 0, .bool false, .slice none 0 0], .bool false])) w' := by unfold RevPost; rw [h]; exact ⟨rfl, f⟩
theorem RevPost.yes {w : World} {l : List UInt8} {w' : World} {x : EV} {sl : Sl} (h : eventM (splitc 32 l) = some x) (hb : Bts 0 w' sl (bytesI x.b)) (f : Fr [] w w') : RevPost w l (.returned (.tuple #[.agg (x.arr sl), .bool true])) w' := by unfold RevPost; rw [h]; exact ⟨⟨sl, rfl, hb⟩, f⟩
set_option maxRecDepth 100000 in
set_option maxHeartbeats 16000000 in
theorem r28_event (w : World) (s : ByteArray) (hs : s.size ≤ 1000000) : Calls Tryd.prog 24 #[.string s] w (RevPost w s.bytes) := by
  obtain ⟨R, hR⟩ : ∃ R, w.heap.size = R := ⟨_, rfl⟩
  have hb0 : Blk (w.alloc (.cells #[.int .i64 0, .int .i64 0, .int .i64 0, .int .i64 0, .int .i64 0, .int .i64 0, .bool false, .slice none 0 0] 55)) R #[.int .i64 0, .int .i64 0, .int .i64 0, .int .i64 0, .int .i64 0, .int .i64 0, .bool false, .slice none 0 0] 55 := by rw [← hR]; exact Blk.new _ _ _
  have HB := Lib.hid (And.intro hb0 hR)
  have hwd := fun w => r28_words w s (by omega)
  obtain ⟨h, t, hht⟩ : ∃ h t, splitc 32 s.bytes = h :: t := by
    cases hh : splitc 32 s.bytes with
    | nil => exact absurd hh (splitc_ne _ _)
    | cons h t => exact ⟨h, t, rfl⟩
  have HH : Hid (eventM (splitc 32 s.bytes) = (match findW h (t.length + 1) with | some s => setAll s.2.2 t (EV.zero s.1) | none => none) ∧ (splitc 32 s.bytes = h :: t) ∧ (∀ x ∈ h :: t, x.length ≤ 1000000)) := Lib.hid ⟨by rw [hht]; rfl, hht, fun x hx => by have := splitc_le 32 s.bytes x (by rw [hht]; exact hx); have h2 : s.bytes.length = s.size := rfl; omega⟩
  have htl : t.length ≤ 1000000 := by
    have h1 := (splitc_len 32 s.bytes).1
    rw [hht] at h1
    have h2 : s.bytes.length = s.size := rfl
    simp only [List.length_cons] at h1
    omega
  rw [hht] at hwd
  clear hb0 hht hR
  go_enter Tryd.func24, Tryd.ntmps24
  go_wp2_with fail
  refine (hwd _).mono ?_
  rintro e w1 ⟨⟨sl, rfl, hown⟩, f1⟩
  rw [HB.out.2]
  obtain ⟨b, hA, hcell⟩ := own_at hown (by simp)
  have hsn := own_n hown
  simp only [List.length_cons] at hsn
  obtain ⟨sA, n, c⟩ := sl
  simp only at hA hsn
  subst hA
  have hn1 : n ≤ t.length + 1 := by omega
  have hn2 : t.length + 1 ≤ n := by omega
  have H1 : Hid (Blk w1 R #[.int .i64 0, .int .i64 0, .int .i64 0, .int .i64 0, .int .i64 0, .int .i64 0, .bool false, .slice none 0 0] 55 ∧ Fr [] w w1 ∧ w1.ownsRow (w.alloc (.cells #[.int .i64 0, .int .i64 0, .int .i64 0, .int .i64 0, .int .i64 0, .int .i64 0, .bool false, .slice none 0 0] 55)).heap.size 9 1 (Sl.v ⟨some ⟨b, 0, none⟩, n, c⟩) (h :: t).length ((h :: t).map sv) ∧ (∀ i v, ((h :: t).map sv)[i]? = some v → w1.cell? ⟨b, i, none⟩ = some v)) := Lib.hid ⟨HB.out.1.fr f1 (by simp), ((Fr.refl [] w).alloc _).tr f1, hown, hcell⟩
  clear f1 hwd hown hcell hsn
  go_wp2
  go_loopw [5] (fun i wr => ∃ k : Nat, i = .int .i64 (k : Int) ∧ 1 ≤ k ∧ k ≤ 26 ∧ (∀ j : Nat, 1 ≤ j → j < k → (wordS j).bytes ≠ h) ∧ Fr [] w1 wr) (fun i _ => 26 - (intOf i).toNat)
  case atStart => exact ⟨1, rfl, by omega, by omega, fun j h1 h2 => by omega, Fr.refl _ _⟩
  case round =>
    obtain ⟨k, rfl, hk1, hk26, hne, hf⟩ := hrel
    have HK := Lib.hid (And.intro hne hf)
    clear hne hf
    by_cases hlt : k ≤ 25
    · have d1 : (k : Int) ≤ 25 := by omega
      have wq : IntKind.i64.wrap ((k : Int) + 1) = (k : Int) + 1 := IntWalk.i64_in _ (by omega)
      have hsh := r28_shape wr k
      go_wp2_with fail
      refine hsh.mono ?_
      rintro e w2 ⟨rfl, f2⟩
      have H2 := Lib.hid (HK.out.2.tr f2)
      obtain ⟨sd, hsd⟩ : ∃ sd, findD (k : Int) = some sd := Option.isSome_iff_exists.1 (by
        have := shape_nums ⟨k - 1, by omega⟩
        rw [show (((⟨k - 1, by omega⟩ : Fin 25).val : Int) + 1) = (k : Int) by show ((k - 1 : Nat) : Int) + 1 = k; omega] at this
        exact this)
      have hsm : sd ∈ shapesM := List.mem_of_find?_eq_some hsd
      have hs1 : sd.1 = (k : Int) := by have := List.find?_some hsd; simpa using this
      obtain ⟨a1, a2, a3, a4⟩ := shape_at hsm
      rw [hs1] at a3 a4
      have hx6 := (shape_sizes (k : Int)).2.1
      have hxl := (shape_sizes (k : Int)).2.2
      generalize wordS (k : Int) = sw at *
      generalize hasS (k : Int) = sx at *
      have HS := Lib.hid (And.intro hsm (And.intro hs1 (And.intro a3 (And.intro a4 hxl))))
      have c0 : w2.cell? ⟨b, 0, none⟩ = some (.string ⟨h.toArray⟩) := H2.out.cell (H1.out.2.2.2 0 (sv h) rfl) (by simp)
      have hn0 : (0 : Int) < (n : Int) := by omega
      have hn00 : 0 < n := by omega
      clear f2 hsh hsd hsm hs1 a1 a2 a3 a4 hxl
      by_cases he : h = sw.bytes
      · have e1 : (h == sw.toList) = true := by rw [ByteArray.toList_eq]; exact beq_iff_eq.2 he
        have e2 : (h != sw.toList) = false := by simp only [bne, e1]; rfl
        have HE := Lib.hid he
        clear he
        by_cases hlen : n = 1 + sx.size
        · have g1 : ((n : Int) == 1 + (sx.size : Int)) = true := by rw [beq_iff_eq]; omega
          have g2 : ((n : Int) != 1 + (sx.size : Int)) = false := by simp only [bne, g1]; rfl
          have HE2 : Hid (eventM (splitc 32 s.bytes) = setAll sx.bytes t (EV.zero k) ∧ t.length = sx.size) := Lib.hid (by
            have h9 : sx.bytes.length = sx.size := rfl
            refine ⟨?_, by omega⟩
            rw [HH.out.1, HE.out, HS.out.2.2.1, findW_hit HS.out.1, if_pos (by rw [← HS.out.2.2.2.1]; omega)]
            dsimp only
            rw [HS.out.2.1, HS.out.2.2.2.1])
          obtain ⟨F, hF⟩ : ∃ F, w2.heap.size = F := ⟨_, rfl⟩
          have hRF : R < F := by rw [← hF]; exact (H1.out.1.fr H2.out (by simp)).lt
          have HF : Hid (Blk (w2.alloc (.cells ((EV.zero k).arr Sl.nil) 55)) F ((EV.zero k).arr Sl.nil) 55 ∧ Fr [] w1 (w2.alloc (.cells ((EV.zero k).arr Sl.nil) 55)) ∧ w2.heap.size = F) := Lib.hid ⟨by rw [← hF]; exact Blk.new _ _ _, H2.out.alloc _, hF⟩
          have hw1F : w1.heap.size ≤ F := by rw [← hF]; exact H2.out.size
          clear hlen hF
          go_wp2
          rw [HF.out.2.2]
          go_loopw [9] (fun i wr => ∃ (q : Nat) (x : EV) (sl' : Sl), i = .int .i64 (q : Int) ∧ q ≤ sx.size ∧ Blk wr F (x.arr sl') 55 ∧ Bts 0 wr sl' (bytesI x.b) ∧ setAll sx.bytes t (EV.zero k) = setAll (sx.bytes.drop q) (t.drop q) x ∧ Fr [] w1 wr) (fun i _ => sx.size - (intOf i).toNat)
          case atStart => exact ⟨0, EV.zero k, Sl.nil, rfl, by omega, HF.out.1, Bts.nil _ _, rfl, HF.out.2.1⟩
          case round =>
            obtain ⟨q, x, sl', rfl, hq, hbF, hbt, hset, hf⟩ := hrel
            have HQ := Lib.hid (And.intro hbF (And.intro hbt (And.intro hset hf)))
            clear hbF hbt hset hf
            by_cases hqlt : q < sx.size
            · have d2 : (q : Int) < (sx.size : Int) := by omega
              have wq2 : IntKind.i64.wrap ((q : Int) + 1) = (q : Int) + 1 := IntWalk.i64_in _ (by omega)
              obtain ⟨q1, hq1⟩ : ∃ q1, q + 1 = q1 := ⟨_, rfl⟩
              have wq1 : IntKind.i64.wrap (1 + (q : Int)) = (q1 : Int) := by rw [IntWalk.i64_in _ (by omega)]; omega
              have hq1n : (q1 : Int) < (n : Int) := by have := HE2.out.2; omega
              have hqt : q < t.length := by have := HE2.out.2; omega
              obtain ⟨wd, hwd⟩ : ∃ wd : ByteArray, ⟨t[q].toArray⟩ = wd := ⟨_, rfl⟩
              have hwz : wd.size ≤ 1000000 := by
                have h1 := HH.out.2.2 t[q] (List.mem_cons_of_mem _ (List.getElem_mem hqt))
                rw [← hwd]
                simpa [ByteArray.size] using h1
              have k0 : ∀ wx, Fr [] wr wx → wx.cell? ⟨b, q1, none⟩ = some (.string wd) := fun wx f => by
                refine f.cell (HQ.out.2.2.2.cell (H1.out.2.2.2 q1 _ ?_) (by simp)) (by simp)
                rw [← hq1, List.map_cons, List.getElem?_cons_succ, List.getElem?_map, List.getElem?_eq_getElem hqt, ← hwd]
                rfl
              have hcl : sx[q] ∈ letters := HS.out.2.2.2.2 _ (List.getElem_mem (l := sx.data.toList) (by exact hqlt))
              have HSX : Hid (setAll (sx.bytes.drop q) (t.drop q) x = (match setF x sx[q] wd.bytes with | some e' => setAll (sx.bytes.drop (q + 1)) (t.drop (q + 1)) e' | none => none)) := Lib.hid (by
                rw [List.drop_eq_getElem_cons (show q < sx.bytes.length from hqlt), List.drop_eq_getElem_cons hqt, ← hwd]
                rfl)
              clear hq1 hwd
              go_upto_region 13 with fail
              refine wp_region_keepsU [] [Is (.string sx), Is (.int .i64 (q : Int)), Is (.int .u8 (sx[q].toNat : Int)), Is (.slice (some ⟨b, 0, none⟩) n c), Is (.int .i64 (q : Int)), Is (.int .i64 (q1 : Int)), Is (.pointer (some ⟨b, q1, none⟩)), Is (.string wd)] 8 (by kernel_rfl) (by kernel_rfl) (by kernel_rfl) (by kernel_rfl) (by kernel_rfl) (by kernel_rfl) ?hV ?hS ?hD
              case hV =>
                repeat (first | exact trivial | exact Is.keeps _ | exact Any.keeps | exact IsSl.keeps _ _ _ | refine And.intro ?_ ?_)
              case hS =>
                (repeat' (first | exact trivial | refine And.intro ?_ ?_))
                all_goals (as_aux_lemma =>
                  intro ac wx hf hs hp K hK
                  simp only [zA, Region.binds, Nat.reduceAdd] at hp
                  have e4 := hs 4 (by kernel_rfl)
                  have e7 := hs 7 (by kernel_rfl)
                  have e9 := hs 9 (by kernel_rfl)
                  simp only [Array.getD_eq_getD_getElem?, List.getElem?_toArray, List.getElem?_cons_succ, List.getElem?_cons_zero, Option.getD_some] at e4 e7 e9
                  clear hs
                  have cx0 := k0 wx hf
                  clear hf k0
                  (try simp only [hp])
                  go_simp
                  try dsimp only
                  first | (refine hK.out _ _ ?_ ?_; (first | exact Fr.refl _ _ | exact (Fr.refl _ _).alloc _); (simp only [nth]; (first | (unfold Is; rfl) | (unfold Any; exact trivial) | exact IsSl.new _ _ _ _))))
              case hD =>
                as_aux_lemma =>
                intro xv wx hf hp
                simp only [List.take_succ_cons, List.take_zero, List.drop_succ_cons, List.drop_zero, fill, List.setIfInBounds_toArray, List.set_cons_zero, List.set_cons_succ, Nat.reduceAdd, Act.put]
                simp only [List.range_eq_range', List.range'_succ, List.range'_zero, Nat.zero_add, Nat.add_zero, Nat.reduceAdd, holds, nth, Is, Any, true_and, and_true] at hp
                obtain ⟨p0, p1, p2, p3, p4, p5, p6, p7⟩ := hp
                simp only [p2, p7]
                have hfd := r28_field wx F x sl' sx[q] wd (HQ.out.1.fr hf (by simp)) (HQ.out.2.1.fr hf) hcl hwz
                have HW := Lib.hid (HQ.out.2.2.2.tr hf)
                clear p0 p1 p2 p3 p4 p5 p6 p7 hf k0
                go_wp2_with fail
                refine hfd.mono ?_
                rintro e w9 ⟨hp9, f9⟩
                have HW9 : Hid (Fr [] w1 w9) := Lib.hid (HW.out.trans f9 (fun y hy => by simp at hy; subst hy; exact .inr hw1F))
                clear hfd f9
                cases hsf : setF x sx[q] wd.bytes with
                | some x' =>
                  rw [hsf] at hp9
                  obtain ⟨rfl, sl2, hb2, ht2⟩ := hp9
                  have HS2 : Hid (setAll sx.bytes t (EV.zero k) = setAll (sx.bytes.drop (q + 1)) (t.drop (q + 1)) x' ∧ Blk w9 F (x'.arr sl2) 55 ∧ Bts 0 w9 sl2 (bytesI x'.b)) := Lib.hid ⟨by rw [HQ.out.2.2.1, HSX.out, hsf], hb2, ht2⟩
                  clear hsf hb2 ht2
                  go_wp2
                  go_roundw
                  case rel => exact ⟨q + 1, x', sl2, by go_num, by omega, HS2.out.2.1, HS2.out.2.2, HS2.out.1, HW9.out⟩
                  case measure => simp [intOf]; omega
                | none =>
                  rw [hsf] at hp9
                  dsimp only at hp9
                  subst hp9
                  have HN : Hid (eventM (splitc 32 s.bytes) = none) := Lib.hid (by rw [HE2.out.1, HQ.out.2.2.1, HSX.out, hsf])
                  have hbR : Blk w9 R #[.int .i64 0, .int .i64 0, .int .i64 0, .int .i64 0, .int .i64 0, .int .i64 0, .bool false, .slice none 0 0] 55 := H1.out.1.fr HW9.out (by simp)
                  clear hsf
                  go_wp2_with (first | (refine wpList_store_row rfl 55 (.tmp 2) (.tmp 51) rfl R #[.int .i64 0, .int .i64 0, .int .i64 0, .int .i64 0, .int .i64 0, .int .i64 0, .bool false, .slice none 0 0] rfl rfl 55 #[.int .i64 0, .int .i64 0, .int .i64 0, .int .i64 0, .int .i64 0, .int .i64 0, .bool false, .slice none 0 0] hbR (by kernel_rfl) rfl (by simp [Value.oneCell']) ?_) | fail)
                  refine bodyPost_ret (v := .tuple #[.agg #[.int .i64 0, .int .i64 0, .int .i64 0, .int .i64 0, .int .i64 0, .int .i64 0, .bool false, .slice none 0 0], .bool false]) (results_cell_tmp Tryd.results24 _ _ R _ _ _ _ _ rfl rfl hbR.setRow Tryd.underlying55 rfl (by kernel_rfl)) rfl ?_
                  exact RevPost.no HN.out ((H1.out.2.1.tr HW9.out).setRow _ (.inr (by have := HB.out.2; omega)))
            · have hqe : q = sx.size := by omega
              have HY : Hid (eventM (splitc 32 s.bytes) = some x) := Lib.hid (by
                rw [HE2.out.1, HQ.out.2.2.1, hqe, List.drop_of_length_le (show sx.bytes.length ≤ sx.size from Nat.le_refl _)]
                rfl)
              have hbR : Blk wr R #[.int .i64 0, .int .i64 0, .int .i64 0, .int .i64 0, .int .i64 0, .int .i64 0, .bool false, .slice none 0 0] 55 := H1.out.1.fr HQ.out.2.2.2 (by simp)
              obtain ⟨XA, hXA⟩ : ∃ XA, x.arr sl' = XA := ⟨_, rfl⟩
              have HA : Hid (XA.size = 8 ∧ XA.all (·.oneCell') = true ∧ Blk wr F XA 55 ∧ XA = x.arr sl') := Lib.hid ⟨by rw [← hXA]; rfl, by rw [← hXA]; exact ev_one _ _, by rw [← hXA]; exact HQ.out.1, hXA.symm⟩
              clear hXA
              go_wp2_with (first | (refine wpList_load_row rfl 55 (.tmp 8) rfl F rfl 55 XA (0, 0) _ HA.out.2.2.1 Tryd.underlying55 rfl (by rw [HA.out.1]; kernel_rfl) ?_) | (refine wpList_store_row rfl 55 (.tmp 2) (.tmp 52) rfl R XA rfl rfl 55 #[.int .i64 0, .int .i64 0, .int .i64 0, .int .i64 0, .int .i64 0, .int .i64 0, .bool false, .slice none 0 0] hbR (by rw [HA.out.1]; kernel_rfl) (by rw [HA.out.1]; rfl) HA.out.2.1 ?_))
              refine bodyPost_ret (v := .tuple #[.agg XA, .bool true]) (results_cell_tmp Tryd.results24 _ _ R _ _ _ _ _ rfl rfl hbR.setRow Tryd.underlying55 rfl (by rw [HA.out.1]; kernel_rfl)) rfl ?_
              rw [HA.out.2.2.2]
              exact RevPost.yes HY.out (HQ.out.2.1.frL ((Fr.refl [R] wr).setRow _ (.inl (by simp))) (fun y hy => by simp at hy; subst hy; exact ⟨Nat.zero_le _, hbR.noB (by decide)⟩)) ((H1.out.2.1.tr HQ.out.2.2.2).setRow _ (.inr (by have := HB.out.2; omega)))
        · have g1 : ((n : Int) == 1 + (sx.size : Int)) = false := by rw [beq_eq_false_iff_ne]; omega
          have g2 : ((n : Int) != 1 + (sx.size : Int)) = true := by simp only [bne, g1]; rfl
          have HN : Hid (eventM (splitc 32 s.bytes) = none) := Lib.hid (by
            have h9 : sx.bytes.length = sx.size := rfl
            rw [HH.out.1, HE.out, HS.out.2.2.1, findW_hit HS.out.1, if_neg (by rw [← HS.out.2.2.2.1]; omega)])
          have hbR : Blk w2 R #[.int .i64 0, .int .i64 0, .int .i64 0, .int .i64 0, .int .i64 0, .int .i64 0, .bool false, .slice none 0 0] 55 := H1.out.1.fr H2.out (by simp)
          clear hlen
          go_wp2_with (first | (refine wpList_store_row rfl 55 (.tmp 2) (.tmp 32) rfl R #[.int .i64 0, .int .i64 0, .int .i64 0, .int .i64 0, .int .i64 0, .int .i64 0, .bool false, .slice none 0 0] rfl rfl 55 #[.int .i64 0, .int .i64 0, .int .i64 0, .int .i64 0, .int .i64 0, .int .i64 0, .bool false, .slice none 0 0] hbR (by kernel_rfl) rfl (by simp [Value.oneCell']) ?_) | fail)
          refine bodyPost_ret (v := .tuple #[.agg #[.int .i64 0, .int .i64 0, .int .i64 0, .int .i64 0, .int .i64 0, .int .i64 0, .bool false, .slice none 0 0], .bool false]) (results_cell_tmp Tryd.results24 _ _ R _ _ _ _ _ rfl rfl hbR.setRow Tryd.underlying55 rfl (by kernel_rfl)) rfl ?_
          exact RevPost.no HN.out ((H1.out.2.1.tr H2.out).setRow _ (.inr (by have := HB.out.2; omega)))
      · have e1 : (h == sw.toList) = false := by rw [ByteArray.toList_eq, beq_eq_false_iff_ne]; exact he
        have e2 : (h != sw.toList) = true := by simp only [bne, e1]; rfl
        have HNE : Hid (∀ j : Nat, 1 ≤ j → j < k + 1 → (wordS j).bytes ≠ h) := Lib.hid (fun j h1 h2 => by
          by_cases hjk : j < k
          · exact HK.out.1 j h1 hjk
          · have : j = k := by omega
            subst this
            obtain ⟨b1, b2, b3, b4⟩ := shape_at HS.out.1
            rw [HS.out.2.1] at b3
            rw [b3, ← HS.out.2.2.1]
            exact fun e => he e.symm)
        clear he
        go_wp2
        go_roundw
        case rel => exact ⟨k + 1, by go_num, by omega, by omega, HNE.out, H2.out⟩
        case measure => simp [intOf]; omega
    · have hke : k = 26 := by omega
      subst hke
      have HN : Hid (eventM (splitc 32 s.bytes) = none) := Lib.hid (by rw [HH.out.1, findW_miss _ HK.out.1])
      have hbR : Blk wr R #[.int .i64 0, .int .i64 0, .int .i64 0, .int .i64 0, .int .i64 0, .int .i64 0, .bool false, .slice none 0 0] 55 := H1.out.1.fr HK.out.2 (by simp)
      go_wp2_with (first | (refine wpList_store_row rfl 55 (.tmp 2) (.tmp 53) rfl R #[.int .i64 0, .int .i64 0, .int .i64 0, .int .i64 0, .int .i64 0, .int .i64 0, .bool false, .slice none 0 0] rfl rfl 55 #[.int .i64 0, .int .i64 0, .int .i64 0, .int .i64 0, .int .i64 0, .int .i64 0, .bool false, .slice none 0 0] hbR (by kernel_rfl) rfl (by simp [Value.oneCell']) ?_) | fail)
      refine bodyPost_ret (v := .tuple #[.agg #[.int .i64 0, .int .i64 0, .int .i64 0, .int .i64 0, .int .i64 0, .int .i64 0, .bool false, .slice none 0 0], .bool false]) (results_cell_tmp Tryd.results24 _ _ R _ _ _ _ _ rfl rfl hbR.setRow Tryd.underlying55 rfl (by kernel_rfl)) rfl ?_
      exact RevPost.no HN.out ((H1.out.2.1.tr HK.out.2).setRow _ (.inr (by have := HB.out.2; omega)))
end Go.Proofs.YtodlbajpcbdbaaaDoor
namespace Go.Proofs.YtodlbajpcbdbaaaDoor
open Go.RowKit Go.Shelf
set_option linter.unusedVariables false
set_option linter.unusedSimpArgs false
set_option maxRecDepth 100000

theorem bs_run (e : EV) (s : Sl) (w : World) : (Instr.buildSlice 41 1 #[(0, .agg (e.arr s))]).run Tryd.prog w = .ok (.slice (some ⟨w.heap.size, 0, none⟩) 1 1) (w.alloc (.cells (e.arr s) 55)) := by
  obtain ⟨d, fr, tu, n, sap, far, po, b⟩ := e
  obtain ⟨A, m, c⟩ := s
  kernel_rfl
theorem wpList_bs1 {P : Program} {ops : Array Oper} {rest : List Oper} {o : Oper} {a : Act} {w w' : World} {Q : Exit → Act → World → Prop} (hgd : o.guard = none) (t : TypeId) (x : Operand) (ho : o.op = .buildSlice t 1 #[(0, x)])
    (XA : Array Value) (hx : a.eval x = .agg XA) (v : Value) (hr : (Instr.buildSlice t 1 #[(0, .agg XA)]).run P w = .ok v w')
    (h : wpList P ops Q rest (a.put o.dst v) w') : wpList P ops Q (o :: rest) a w := by
  refine wpList_plain hgd fun K hK => ?_
  unfold Oper.wp execOp
  simp only [ho, Sem.run_bind, Sem.run_pure, Result.andThen_ok, List.map_toArray, List.map_cons, List.map_nil, hx, hr]
  exact hK _ _ h
end Go.Proofs.YtodlbajpcbdbaaaDoor
namespace Go.Proofs.YtodlbajpcbdbaaaDoor
open Go.RowKit
set_option linter.unusedVariables false
set_option linter.unusedSimpArgs false
set_option maxRecDepth 100000

def pick1 : Option Oper → List Oper → List Oper
  | none, l => l
  | some o, l => o :: l
def pickL (ops : Array Oper) : List Nat → List Oper
  | [] => []
  | k :: ks => pick1 ops[k]? (pickL ops ks)
/-- The walk: reads, or one write. -/
def wpMixP (P : Program) (ops : Array Oper) (S : World → Prop) (Q : Act → World → Prop) : List (List Nat × Option Nat) → Act → World → Prop
  | [], a, w => Q a w
  | (ks, none) :: r, a, w => wpQuiet P ops S (fun a' => wpMixP P ops S Q r a' w) (pickL ops ks) a
  | (ks, some k) :: r, a, w => wpQuiet P ops S (fun a' => wpList P ops (loudPost S fun a' w' => wpMixP P ops S Q r a' w') (pickL ops [k]) a' w) (pickL ops ks) a
def quietP (md : Region.Mode) (ops : Array Oper) : List Nat → Array Bool → Bool
  | [], _ => true
  | k :: ks, listed => (Region.ready md ops listed).contains k && Region.free md ops listed k && ((ops[k]?).map fun o => tells o.op).getD false && quietP md ops ks (listed.setIfInBounds k true)
def markedP : List Nat → Array Bool → Array Bool
  | [], listed => listed
  | k :: ks, listed => markedP ks (listed.setIfInBounds k true)
def mixP (md : Region.Mode) (ops : Array Oper) : List (List Nat × Option Nat) → Array Bool → Bool
  | [], listed => (Region.ready md ops listed).isEmpty
  | (ks, none) :: r, listed => quietP md ops ks listed && mixP md ops r (markedP ks listed)
  | (ks, some k) :: r, listed => quietP md ops ks listed && decide (Region.ready md ops (markedP ks listed) = [k]) && mixP md ops r ((markedP ks listed).setIfInBounds k true)
def countP : List (List Nat × Option Nat) → Nat
  | [] => 0
  | (ks, none) :: r => ks.length + countP r
  | (ks, some _) :: r => ks.length + (countP r + 1)

theorem anyH_quietP {P : Program} {md : Region.Mode} {ops : Array Oper} {Q : Exit → Act → World → Prop} {S : World → Prop} {w : World} (hsel : Region.noSelect ops = true) (hQ : ∀ c a w, ¬ Q (.panic c) a w) (hS : S w)
    {K : Act → Prop} {f : Nat} : ∀ (ks : List Nat) (listed : Array Bool) (a : Act), quietP md ops ks listed = true →
      (∀ a', K a' → wpAnyH P md ops Q S f (markedP ks listed) a' w) → wpQuiet P ops S K (pickL ops ks) a → wpAnyH P md ops Q S (ks.length + f) listed a w
  | [], listed, a, _, hK, h => by rw [List.length_nil, Nat.zero_add]; exact hK a h
  | k :: ks, listed, a, hB, hK, h => by
    simp only [quietP, Bool.and_eq_true] at hB
    obtain ⟨⟨⟨hr, hf⟩, ht⟩, hB'⟩ := hB
    cases h0 : ops[k]? with
    | none => rw [h0] at ht; simp at ht
    | some o =>
      rw [h0] at ht
      simp only [Option.map_some, Option.getD_some] at ht
      have hp : pickL ops (k :: ks) = o :: pickL ops ks := by simp [pickL, pick1, h0]
      rw [hp] at h
      obtain ⟨v, hy, hK'⟩ := yieldsIf_of_quiet (K := wpQuiet P ops S K (pickL ops ks)) ht h
      rw [List.length_cons, show ks.length + 1 + f = (ks.length + f) + 1 by omega]
      refine wpAnyH_take h0 hsel hf hr (fun c a w h => absurd h (hQ _ _ _)) hy hS ?_
      exact anyH_quietP hsel hQ hS ks _ _ hB' (fun a' h' => hK a' h') hK'

theorem anyH_mixP {P : Program} {md : Region.Mode} {ops : Array Oper} {Q : Exit → Act → World → Prop} {S : World → Prop} (hsel : Region.noSelect ops = true) (hQ : ∀ c a w, ¬ Q (.panic c) a w) :
    ∀ (r : List (List Nat × Option Nat)) (listed : Array Bool) (a : Act) (w : World), S w → mixP md ops r listed = true →
      wpMixP P ops S (Q .normal) r a w → wpAnyH P md ops Q S (countP r) listed a w
  | [], listed, a, w, hS, hB, h => by
    simp only [mixP] at hB
    exact wpAnyH_done (by simpa using hB) h _
  | (ks, none) :: r, listed, a, w, hS, hB, h => by
    simp only [mixP, Bool.and_eq_true] at hB
    simp only [wpMixP] at h
    exact anyH_quietP hsel hQ hS ks listed a hB.1 (fun a' h' => anyH_mixP hsel hQ r _ a' w hS hB.2 h') h
  | (ks, some k) :: r, listed, a, w, hS, hB, h => by
    simp only [mixP, Bool.and_eq_true, decide_eq_true_eq] at hB
    simp only [wpMixP] at h
    refine anyH_quietP hsel hQ hS ks listed a hB.1.1 (fun a' h' => ?_) h
    have h2 : k ∈ Region.ready md ops (markedP ks listed) := by rw [hB.1.2]; simp
    obtain ⟨_, o, h0, _⟩ := mem_ready.1 h2
    have hp : pickL ops [k] = [o] := by simp [pickL, pick1, h0]
    rw [hp] at h'
    refine wpAnyH_all hB.1.2 (by simp) fun i hi => ?_
    have hik : i = k := by simpa using hi
    subst hik
    have hw : wpOp P ops (loudPost S fun a' w' => wpMixP P ops S (Q .normal) r a' w') i (fun a' w' => S w' ∧ wpMixP P ops S (Q .normal) r a' w') a' w := by
      unfold wpOp; simp only [h0]; exact h'
    unfold wpOp at hw ⊢
    simp only [h0] at hw ⊢
    by_cases hwn : Region.wanted o (yielded ops a'.tmps) = true
    · simp only [hwn, if_true] at hw ⊢
      rcases hw with h1 | h1
      · exact .inl (wp_shut (fun a' w' h' => ⟨h'.1, anyH_mixP hsel hQ r _ a' w' h'.1 hB.2 h'.2⟩) (fun _ _ _ h => h) (fun ⟨_, _, h⟩ => h) h1)
      · exact absurd h1.2 (fun ⟨_, _, h⟩ => h)
    · simp only [hwn, Bool.false_eq_true, if_false] at hw ⊢
      exact ⟨hw.1, anyH_mixP hsel hQ r _ _ w hw.1 hB.2 hw.2⟩

theorem wpAny_mixP {P : Program} {Q : Exit → Act → World → Prop} {S : World → Prop} {l : List Oper} {a : Act} {w : World} (r : List (List Nat × Option Nat)) (hsel : Region.noSelect l.toArray = true) (hc : countP r = l.toArray.size) (hB : mixP .any l.toArray r (Array.replicate l.toArray.size false) = true) (hS : S w)
    (h : wpMixP P l.toArray S (Q .normal) r a w) : wpAny P .any l.toArray (goesOn Q) l.toArray.size (Array.replicate l.toArray.size false) a w := by
  have := anyH_mixP (P := P) (md := .any) (ops := l.toArray) (Q := goesOn Q) (S := S) hsel (fun _ _ _ h => h) r (Array.replicate l.toArray.size false) a w hS hB h
  rw [hc] at this
  exact wpAny_of_held _ _ _ _ this

/-- **A region that draws its order, in the plain calculus: the order of one's choice.** -/
theorem wp_region_mixP {P : Program} {id : Nat} {Q : Exit → Act → World → Prop} {a : Act} {w : World} {l : List Oper} (S : World → Prop) (r : List (List Nat × Option Nat)) (hm : P.follows .mixedOrders = true) (hsel : Region.noSelect l.toArray = true) (hc : countP r = l.toArray.size)
    (hB : mixP .any l.toArray r (Array.replicate l.toArray.size false) = true) (hS : S w.drew)
    (h : wpMixP P l.toArray S (Q .normal) r a w.drew) : (Code.region id l.toArray true).wp P Q a w :=
  Code.wp_mono goesOn_imp (wp_region_any hm (wpAny_mixP r hsel hc hB hS h))
end Go.Proofs.YtodlbajpcbdbaaaDoor
namespace Go.Proofs.YtodlbajpcbdbaaaDoor
open Go.RowKit Go.Shelf
set_option linter.unusedVariables false
set_option linter.unusedSimpArgs false
set_option maxRecDepth 100000

/-- The row of numbers that were read. -/
def PRow (B : Nat) (xs : List Int) (w : World) : Prop := ∀ i x, xs[i]? = some x → w.cell? ⟨B, i, none⟩ = some (.int .i64 x)
theorem PRow.far {B F : Nat} {xs : List Int} {w : World} (h : PRow B xs w) (ne : B ≠ F) (k : Nat) (v : Value) : PRow B xs (w.setCell ⟨F, k, none⟩ v) := fun i x hi => ((Fr.refl [F] w).setCell (p := ⟨F, k, none⟩) v (.inl (by simp))).cell (h i x hi) (by simpa using ne)
def CfPost (w : World) (l : List UInt8) (e : Ending) (w' : World) : Prop := (match configM (splitc 32 l) with
  | some c => e = .returned (.tuple #[.agg (intsV c), .bool true]) ∧ c.length = 17 ∧ ∀ x ∈ c, In64 x
  | none => e = .returned (.tuple #[.agg (intsV zeros17), .bool false])) ∧ Fr [] w w'
theorem CfPost.no {w : World} {l : List UInt8} {w' : World} (h : configM (splitc 32 l) = none) (f : Fr [] w w') : CfPost w l (.returned (.tuple #[.agg (intsV zeros17), .bool false])) w' := by unfold CfPost; rw [h]; exact ⟨rfl, f⟩
theorem CfPost.yes {w : World} {l : List UInt8} {w' : World} {c : List Int} (h : configM (splitc 32 l) = some c) (hc : c.length = 17) (hi : ∀ x ∈ c, In64 x) (f : Fr [] w w') : CfPost w l (.returned (.tuple #[.agg (intsV c), .bool true])) w' := by unfold CfPost; rw [h]; exact ⟨⟨rfl, hc, hi⟩, f⟩
set_option maxRecDepth 100000 in
set_option maxHeartbeats 16000000 in
theorem r28_config (w : World) (s : ByteArray) (hs : s.size ≤ 1000000) : Calls Tryd.prog 23 #[.string s] w (CfPost w s.bytes) := by
  obtain ⟨i0, hi0, hz0, hz1, hz2⟩ := info_parts (show (Tryd.prog.info? 3).map (fun i => (i.zero, i.size, i.bytes)) = some (some (.int .i64 0), 1, 8) by kernel_rfl)
  have hun : Tryd.prog.underlying 102 = some (.slice 3) := Tryd.underlying102
  obtain ⟨R, hR⟩ : ∃ R, w.heap.size = R := ⟨_, rfl⟩
  have hb0 : Blk (w.alloc (.cells (intsV zeros17) 40)) R (intsV zeros17) 40 := by rw [← hR]; exact Blk.new _ _ _
  have HB := Lib.hid (And.intro hb0 hR)
  have hwd := fun w => r28_words w s (by omega)
  obtain ⟨h, t, hht⟩ : ∃ h t, splitc 32 s.bytes = h :: t := by
    cases hh : splitc 32 s.bytes with
    | nil => exact absurd hh (splitc_ne _ _)
    | cons h t => exact ⟨h, t, rfl⟩
  have HH : Hid (configM (splitc 32 s.bytes) = (if h = [110, 101, 116] ∧ t.length + 1 = 18 then t.mapM numM else none) ∧ (splitc 32 s.bytes = h :: t)) := Lib.hid ⟨by rw [hht]; rfl, hht⟩
  have htl : t.length ≤ 1000000 := by
    have h1 := (splitc_len 32 s.bytes).1
    rw [hht] at h1
    have h2 : s.bytes.length = s.size := rfl
    simp only [List.length_cons] at h1
    omega
  rw [hht] at hwd
  clear hb0 hht hR
  go_enter Tryd.func23, Tryd.ntmps23
  go_wp2_with fail
  refine (hwd _).mono ?_
  rintro e w1 ⟨⟨sl, rfl, hown⟩, f1⟩
  rw [HB.out.2]
  obtain ⟨b, hA, hcell⟩ := own_at hown (by simp)
  have hsn := own_n hown
  simp only [List.length_cons] at hsn
  obtain ⟨sA, n, c⟩ := sl
  simp only at hA hsn
  subst hA
  have hn1 : n ≤ t.length + 1 := by omega
  have hn2 : t.length + 1 ≤ n := by omega
  have H1 : Hid (Blk w1 R (intsV zeros17) 40 ∧ Fr [] w w1 ∧ (∀ i v, ((h :: t).map sv)[i]? = some v → w1.cell? ⟨b, i, none⟩ = some v)) := Lib.hid ⟨HB.out.1.fr f1 (by simp), ((Fr.refl [] w).alloc _).tr f1, hcell⟩
  clear f1 hwd hown hcell hsn
  go_upto_region 3 with fail
  obtain ⟨F, hF⟩ : ∃ F, w1.heap.size = F := ⟨_, rfl⟩
  have hRF : R ≠ F := by have := H1.out.1.lt; omega
  have hwF : w1.heap.size ≤ F := by omega
  obtain ⟨w2, hw2⟩ : ∃ w2, w1.alloc (.cells (intsV zeros17) 40) = w2 := ⟨_, rfl⟩
  have HF : Hid (Blk w2 F (intsV zeros17) 40 ∧ Fr [] w1 w2) := Lib.hid ⟨by rw [← hF, ← hw2]; exact Blk.new _ _ _, by rw [← hw2]; exact (Fr.refl [] w1).alloc _⟩
  rw [hF, show (#[Value.int .i64 0, Value.int .i64 0, Value.int .i64 0, Value.int .i64 0, Value.int .i64 0, Value.int .i64 0, Value.int .i64 0, Value.int .i64 0, Value.int .i64 0, Value.int .i64 0, Value.int .i64 0, Value.int .i64 0, Value.int .i64 0, Value.int .i64 0, Value.int .i64 0, Value.int .i64 0, Value.int .i64 0] : Array Value) = intsV zeros17 from rfl, hw2]
  have c0 : w2.cell? ⟨b, 0, none⟩ = some (.string ⟨h.toArray⟩) := HF.out.2.cell (H1.out.2.2 0 (sv h) rfl) (by simp)
  have hn0 : (0 : Int) < (n : Int) := by omega
  have hn00 : 0 < n := by omega
  clear hF hw2
  by_cases hlen : n = 18
  · have g1 : ((n : Int) == 18) = true := by rw [beq_iff_eq]; omega
    have g2 : ((n : Int) != 18) = false := by simp only [bne, g1]; rfl
    by_cases he : h = [110, 101, 116]
    · have e1 : (h == [110, 101, 116]) = true := beq_iff_eq.2 he
      have e2 : (h != [110, 101, 116]) = false := by simp only [bne, e1]; rfl
      have HC : Hid (configM (splitc 32 s.bytes) = t.mapM numM ∧ t.length = 17) := Lib.hid ⟨by rw [HH.out.1, if_pos ⟨he, by omega⟩], by omega⟩
      clear he hlen
      go_wp2
      clear c0 e1 e2 g1 g2
      go_loopw [6, 7] (fun o i wr => ∃ (q : Nat) (sn : Sl) (xs : List Int), o = .slice sn.A sn.n sn.c ∧ i = .int .i64 ((q + 1 : Nat) : Int) ∧ q ≤ 17 ∧ xs.length = q ∧ wr.ownsRow w1.heap.size 3 1 sn.v q (xs.map (Value.int .i64)) ∧ (t.take q).mapM numM = some xs ∧ (∀ x ∈ xs, In64 x) ∧ Blk wr F (intsV zeros17) 40 ∧ Fr [] w1 wr) (fun _ i _ => 18 - (intOf i).toNat)
      case atStart => exact ⟨0, Sl.nil, [], rfl, rfl, by omega, rfl, World.ownsRow_nil _ _ _ _, rfl, by simp, HF.out.1, HF.out.2⟩
      case round =>
        obtain ⟨q, sn, xs, rfl, rfl, hq, hxl, hown, hmp, hin, hbF, hf⟩ := hrel
        obtain ⟨q1, hq1⟩ : ∃ q1, q + 1 = q1 := ⟨_, rfl⟩
        have HQ := Lib.hid (And.intro hown (And.intro hmp (And.intro hin (And.intro hbF (And.intro hf (And.intro hxl hq1))))))
        rw [hq1]
        clear hown hmp hin hxl
        by_cases hqlt : q < 17
        · have d2 : (q1 : Int) < 18 := by omega
          have wq2 : IntKind.i64.wrap ((q1 : Int) + 1) = (q1 : Int) + 1 := IntWalk.i64_in _ (by omega)
          have hqt : q < t.length := by have := HC.out.2; omega
          have hq1n : (q1 : Int) < (n : Int) := by omega
          have hq1n0 : q1 < n := by omega
          obtain ⟨wd, hwd⟩ : ∃ wd : ByteArray, ⟨t[q].toArray⟩ = wd := ⟨_, rfl⟩
          have cw : wr.cell? ⟨b, q1, none⟩ = some (.string wd) := by
            refine hf.cell (H1.out.2.2 q1 _ ?_) (by simp)
            rw [← hq1, List.map_cons, List.getElem?_cons_succ, List.getElem?_map, List.getElem?_eq_getElem hqt, ← hwd]
            rfl
          have hnm := r28_number wr wd
          have HWD : Hid (wd.bytes = t[q]) := Lib.hid (by rw [← hwd]; rfl)
          clear hwd hf hq1
          go_wp2_with fail
          refine hnm.mono ?_
          rintro e w5 ⟨hp5, f5⟩
          have HF5 := Lib.hid (HQ.out.2.2.2.2.1.tr f5)
          have hbF5 := hbF.fr f5 (by simp)
          unfold NumPost at hp5
          rw [HWD.out] at hp5
          clear cw hnm hbF
          cases hm : numM t[q] with
          | some v =>
            rw [hm] at hp5
            dsimp only at hp5
            subst hp5
            have HV : Hid ((t.take (q + 1)).mapM numM = some (xs ++ [v]) ∧ In64 v) := Lib.hid ⟨by rw [List.take_succ_eq_append_getElem hqt]; exact mapM_snoc HQ.out.2.1 hm, numM_range hm⟩
            have ho := own_fr HQ.out.1 f5
            have hbw : w1.heap.size ≤ w5.heap.size := HF5.out.size
            have HO := Lib.hid (And.intro ho hbF5)
            clear hm f5 hbF5
            go_wp2_with (at_builtin; refine wpList_append_src rfl _ _ 102 rfl (w1.heap.size) 3 i0 (.int .i64 0) 1 8 hun hi0 hz0 hz1 hz2 rfl (by decide) _ _ _ rfl (HO.out.1.alloc _) _ 1 [.int .i64 v] rfl Src.one rfl (by intro u hu; simp at hu; subst hu; rfl) (by unfold maxLen; omega) (by omega) (by first | (simp; done) | (simp; omega)) ?_)
            intro v' w7 hown7 hgrow
            obtain ⟨sm, rfl⟩ := own_sl' hown7
            have H7 : Hid (w7.ownsRow w1.heap.size 3 1 sm.v (q + 1) ((xs ++ [v]).map (Value.int .i64)) ∧ Blk w7 F (intsV zeros17) 40 ∧ Fr [] w1 w7) := Lib.hid (by
              have ho2 := HO.out.1.alloc (.cells #[.int .i64 v] 3)
              refine ⟨by rw [List.map_append]; exact hown7, ((HO.out.2.alloc (.cells #[.int .i64 v] 3)).ofTy (Fr.grownL hgrow) (TyOut.own ho2 (by decide))), (HF5.out.alloc _).grown hgrow (fun k hk => .inr (ho2.lt k hk).1)⟩)
            clear hown7 hgrow ho hbw
            go_wp2
            go_roundw
            case rel => exact ⟨q + 1, sm, xs ++ [v], rfl, by have := HQ.out.2.2.2.2.2.2; congr 1; omega, by omega, by rw [List.length_append, HQ.out.2.2.2.2.2.1]; rfl, H7.out.1, HV.out.1, fun x hx => by
              rcases List.mem_append.1 hx with hx | hx
              · exact HQ.out.2.2.1 x hx
              · simp at hx; subst hx; exact HV.out.2, H7.out.2.1, H7.out.2.2⟩
            case measure => have := HQ.out.2.2.2.2.2.2; simp [intOf]; omega
          | none =>
            rw [hm] at hp5
            dsimp only at hp5
            subst hp5
            have HN : Hid (configM (splitc 32 s.bytes) = none) := Lib.hid (by rw [HC.out.1]; exact mapM_bad (List.getElem_mem hqt) hm)
            have hbF := hbF5
            have hbR : Blk w5 R (intsV zeros17) 40 := H1.out.1.fr HF5.out (by simp)
            clear hm f5 hbF5
            go_wp2_with (first | (refine wpList_load_row rfl 40 (.tmp 5) rfl F rfl 40 (intsV zeros17) (0, 0) _ hbF Tryd.underlying40 rfl (by kernel_rfl) ?_) | (refine wpList_store_row rfl 40 (.tmp 2) (.tmp 39) rfl R (intsV zeros17) rfl rfl 40 (intsV zeros17) hbR (by kernel_rfl) rfl (intsV_one _) ?_))
            refine bodyPost_ret (v := .tuple #[.agg (intsV zeros17), .bool false]) (results_cell_tmp Tryd.results23 _ _ R _ _ _ _ _ rfl rfl hbR.setRow Tryd.underlying40 rfl (by kernel_rfl)) rfl ?_
            exact CfPost.no HN.out ((H1.out.2.1.tr HF5.out).setRow _ (.inr (by have := HB.out.2; omega)))
        · have hqe : q = 17 := by omega
          have d2 : ¬ (q1 : Int) < 18 := by omega
          subst hqe
          have HY : Hid (configM (splitc 32 s.bytes) = some xs) := Lib.hid (by
            rw [HC.out.1, ← HQ.out.2.1, List.take_of_length_le (by have := HC.out.2; omega)])
          obtain ⟨B, hBA, hBc⟩ := own_at HQ.out.1 (by omega)
          have hBF : B ≠ F := fun e => by
            obtain ⟨_, cs, h9⟩ := own_blk HQ.out.1 B (by simp [Sl.blk, hBA])
            rw [e] at h9
            rw [Blk, h9] at hbF
            cases hbF
          have hxl := HQ.out.2.2.2.2.2.1
          have hin := HQ.out.2.2.1
          match xs, hxl with
          | [x0, x1, x2, x3, x4, x5, x6, x7, x8, x9, x10, x11, x12, x13, x14, x15, x16], _ =>
            have HW : Hid (Blk wr F (intsV zeros17) 40 ∧ PRow B [x0, x1, x2, x3, x4, x5, x6, x7, x8, x9, x10, x11, x12, x13, x14, x15, x16] wr ∧ Fr [] w1 wr ∧ Blk wr R (intsV zeros17) 40) := Lib.hid ⟨hbF, fun i x hi => hBc i _ (by rw [List.getElem?_map, hi]; rfl), hf, H1.out.1.fr hf (by simp)⟩
            have hn9 := own_n HQ.out.1
            obtain ⟨nA, nn, nc⟩ := sn
            simp only at hBA hn9
            subst hBA hn9
            have HI := Lib.hid hin
            clear hbF hf hBc hin hq1
            have p0 : ∀ n : Held (PRow B [x0, x1, x2, x3, x4, x5, x6, x7, x8, x9, x10, x11, x12, x13, x14, x15, x16]), n.x.cell? ⟨B, 0, none⟩ = some (.int .i64 x0) := fun n => n.ok 0 _ rfl
            have p1 : ∀ n : Held (PRow B [x0, x1, x2, x3, x4, x5, x6, x7, x8, x9, x10, x11, x12, x13, x14, x15, x16]), n.x.cell? ⟨B, 1, none⟩ = some (.int .i64 x1) := fun n => n.ok 1 _ rfl
            have p2 : ∀ n : Held (PRow B [x0, x1, x2, x3, x4, x5, x6, x7, x8, x9, x10, x11, x12, x13, x14, x15, x16]), n.x.cell? ⟨B, 2, none⟩ = some (.int .i64 x2) := fun n => n.ok 2 _ rfl
            have p3 : ∀ n : Held (PRow B [x0, x1, x2, x3, x4, x5, x6, x7, x8, x9, x10, x11, x12, x13, x14, x15, x16]), n.x.cell? ⟨B, 3, none⟩ = some (.int .i64 x3) := fun n => n.ok 3 _ rfl
            have p4 : ∀ n : Held (PRow B [x0, x1, x2, x3, x4, x5, x6, x7, x8, x9, x10, x11, x12, x13, x14, x15, x16]), n.x.cell? ⟨B, 4, none⟩ = some (.int .i64 x4) := fun n => n.ok 4 _ rfl
            have p5 : ∀ n : Held (PRow B [x0, x1, x2, x3, x4, x5, x6, x7, x8, x9, x10, x11, x12, x13, x14, x15, x16]), n.x.cell? ⟨B, 5, none⟩ = some (.int .i64 x5) := fun n => n.ok 5 _ rfl
            have p6 : ∀ n : Held (PRow B [x0, x1, x2, x3, x4, x5, x6, x7, x8, x9, x10, x11, x12, x13, x14, x15, x16]), n.x.cell? ⟨B, 6, none⟩ = some (.int .i64 x6) := fun n => n.ok 6 _ rfl
            have p7 : ∀ n : Held (PRow B [x0, x1, x2, x3, x4, x5, x6, x7, x8, x9, x10, x11, x12, x13, x14, x15, x16]), n.x.cell? ⟨B, 7, none⟩ = some (.int .i64 x7) := fun n => n.ok 7 _ rfl
            have p8 : ∀ n : Held (PRow B [x0, x1, x2, x3, x4, x5, x6, x7, x8, x9, x10, x11, x12, x13, x14, x15, x16]), n.x.cell? ⟨B, 8, none⟩ = some (.int .i64 x8) := fun n => n.ok 8 _ rfl
            have p9 : ∀ n : Held (PRow B [x0, x1, x2, x3, x4, x5, x6, x7, x8, x9, x10, x11, x12, x13, x14, x15, x16]), n.x.cell? ⟨B, 9, none⟩ = some (.int .i64 x9) := fun n => n.ok 9 _ rfl
            have p10 : ∀ n : Held (PRow B [x0, x1, x2, x3, x4, x5, x6, x7, x8, x9, x10, x11, x12, x13, x14, x15, x16]), n.x.cell? ⟨B, 10, none⟩ = some (.int .i64 x10) := fun n => n.ok 10 _ rfl
            have p11 : ∀ n : Held (PRow B [x0, x1, x2, x3, x4, x5, x6, x7, x8, x9, x10, x11, x12, x13, x14, x15, x16]), n.x.cell? ⟨B, 11, none⟩ = some (.int .i64 x11) := fun n => n.ok 11 _ rfl
            have p12 : ∀ n : Held (PRow B [x0, x1, x2, x3, x4, x5, x6, x7, x8, x9, x10, x11, x12, x13, x14, x15, x16]), n.x.cell? ⟨B, 12, none⟩ = some (.int .i64 x12) := fun n => n.ok 12 _ rfl
            have p13 : ∀ n : Held (PRow B [x0, x1, x2, x3, x4, x5, x6, x7, x8, x9, x10, x11, x12, x13, x14, x15, x16]), n.x.cell? ⟨B, 13, none⟩ = some (.int .i64 x13) := fun n => n.ok 13 _ rfl
            have p14 : ∀ n : Held (PRow B [x0, x1, x2, x3, x4, x5, x6, x7, x8, x9, x10, x11, x12, x13, x14, x15, x16]), n.x.cell? ⟨B, 14, none⟩ = some (.int .i64 x14) := fun n => n.ok 14 _ rfl
            have p15 : ∀ n : Held (PRow B [x0, x1, x2, x3, x4, x5, x6, x7, x8, x9, x10, x11, x12, x13, x14, x15, x16]), n.x.cell? ⟨B, 15, none⟩ = some (.int .i64 x15) := fun n => n.ok 15 _ rfl
            have p16 : ∀ n : Held (PRow B [x0, x1, x2, x3, x4, x5, x6, x7, x8, x9, x10, x11, x12, x13, x14, x15, x16]), n.x.cell? ⟨B, 16, none⟩ = some (.int .i64 x16) := fun n => n.ok 16 _ rfl
            obtain ⟨wc, hwc⟩ : ∃ wc, wr = wc := ⟨_, rfl⟩
            rw [hwc] at HW ⊢
            clear hwc
            go_upto_region 13 with fail
            haveI : Nonempty (Held (PRow B [x0, x1, x2, x3, x4, x5, x6, x7, x8, x9, x10, x11, x12, x13, x14, x15, x16])) := ⟨⟨_, HW.out.2.1⟩⟩
            refine wp_region_mixP (fun x => ∃ n : Held (PRow B [x0, x1, x2, x3, x4, x5, x6, x7, x8, x9, x10, x11, x12, x13, x14, x15, x16]), x = n.x) [([0, 1, 2, 3, 4, 5, 6, 7, 8, 9, 10, 11, 12], some 13), ([14], some 15), ([16], some 17), ([18], some 19)] (by kernel_rfl) (by kernel_rfl) (by kernel_rfl) (by kernel_rfl) ⟨⟨wc.drew, HW.out.2.1⟩, rfl⟩ ?_
            simp only [wpMixP, pickL, pick1, List.getElem?_toArray, List.getElem?_cons_zero, List.getElem?_cons_succ]
            repeat (go_big_quiet_step (fail))
            refine wpQuiet_nil ?_
            have HD : Hid (Blk wc.drew F (intsV [0, 0, 0, 0, 0, 0, 0, 0, 0, 0, 0, 0, 0, 0, 0, 0, 0]) 40 ∧ PRow B [x0, x1, x2, x3, x4, x5, x6, x7, x8, x9, x10, x11, x12, x13, x14, x15, x16] wc.drew ∧ Fr [] w1 wc.drew ∧ Blk wc.drew R (intsV zeros17) 40) := Lib.hid ⟨HW.out.1.fr ((Fr.refl [] wc).drew) (by simp), HW.out.2.1, HW.out.2.2.1.drew, HW.out.2.2.2.fr ((Fr.refl [] wc).drew) (by simp)⟩
            obtain ⟨wd, hwd⟩ : ∃ wd, wc.drew = wd := ⟨_, rfl⟩
            rw [hwd] at HD ⊢
            clear hwd
            have fk := HD.out.1.free 0
            have ck : wd.cell? ⟨F, 0, none⟩ = some (.int .i64 0) := HD.out.1.cell 0 rfl
            have HE : Hid (Blk (wd.setCell ⟨F, 0, none⟩ (.int .i64 x0)) F (intsV [x0, 0, 0, 0, 0, 0, 0, 0, 0, 0, 0, 0, 0, 0, 0, 0, 0]) 40 ∧ PRow B [x0, x1, x2, x3, x4, x5, x6, x7, x8, x9, x10, x11, x12, x13, x14, x15, x16] (wd.setCell ⟨F, 0, none⟩ (.int .i64 x0)) ∧ Fr [] w1 (wd.setCell ⟨F, 0, none⟩ (.int .i64 x0)) ∧ Blk (wd.setCell ⟨F, 0, none⟩ (.int .i64 x0)) R (intsV zeros17) 40) := Lib.hid ⟨HD.out.1.set 0 _ rfl, HD.out.2.1.far hBF _ _, HD.out.2.2.1.setCell _ (.inr hwF), HD.out.2.2.2.far hRF _⟩
            go_wp2_with fail
            refine ⟨⟨⟨_, HE.out.2.1⟩, rfl⟩, ?_⟩
            obtain ⟨we, hwe⟩ : ∃ we, wd.setCell ⟨F, 0, none⟩ (.int .i64 x0) = we := ⟨_, rfl⟩
            rw [hwe] at HE ⊢
            clear hwe fk ck HD
            obtain ⟨wd, hwd⟩ : ∃ wd, we = wd := ⟨_, rfl⟩
            rw [hwd] at HE ⊢
            have HD := HE
            clear hwd HE
            try dsimp only
            repeat (go_big_quiet_step (fail))
            refine wpQuiet_nil ?_
            have fk := HD.out.1.free 1
            have ck : wd.cell? ⟨F, 1, none⟩ = some (.int .i64 0) := HD.out.1.cell 1 rfl
            have HE : Hid (Blk (wd.setCell ⟨F, 1, none⟩ (.int .i64 x1)) F (intsV [x0, x1, 0, 0, 0, 0, 0, 0, 0, 0, 0, 0, 0, 0, 0, 0, 0]) 40 ∧ PRow B [x0, x1, x2, x3, x4, x5, x6, x7, x8, x9, x10, x11, x12, x13, x14, x15, x16] (wd.setCell ⟨F, 1, none⟩ (.int .i64 x1)) ∧ Fr [] w1 (wd.setCell ⟨F, 1, none⟩ (.int .i64 x1)) ∧ Blk (wd.setCell ⟨F, 1, none⟩ (.int .i64 x1)) R (intsV zeros17) 40) := Lib.hid ⟨HD.out.1.set 1 _ rfl, HD.out.2.1.far hBF _ _, HD.out.2.2.1.setCell _ (.inr hwF), HD.out.2.2.2.far hRF _⟩
            go_wp2_with fail
            refine ⟨⟨⟨_, HE.out.2.1⟩, rfl⟩, ?_⟩
            obtain ⟨we, hwe⟩ : ∃ we, wd.setCell ⟨F, 1, none⟩ (.int .i64 x1) = we := ⟨_, rfl⟩
            rw [hwe] at HE ⊢
            clear hwe fk ck HD
            obtain ⟨wd, hwd⟩ : ∃ wd, we = wd := ⟨_, rfl⟩
            rw [hwd] at HE ⊢
            have HD := HE
            clear hwd HE
            try dsimp only
            repeat (go_big_quiet_step (fail))
            refine wpQuiet_nil ?_
            have fk := HD.out.1.free 2
            have ck : wd.cell? ⟨F, 2, none⟩ = some (.int .i64 0) := HD.out.1.cell 2 rfl
            have HE : Hid (Blk (wd.setCell ⟨F, 2, none⟩ (.int .i64 x2)) F (intsV [x0, x1, x2, 0, 0, 0, 0, 0, 0, 0, 0, 0, 0, 0, 0, 0, 0]) 40 ∧ PRow B [x0, x1, x2, x3, x4, x5, x6, x7, x8, x9, x10, x11, x12, x13, x14, x15, x16] (wd.setCell ⟨F, 2, none⟩ (.int .i64 x2)) ∧ Fr [] w1 (wd.setCell ⟨F, 2, none⟩ (.int .i64 x2)) ∧ Blk (wd.setCell ⟨F, 2, none⟩ (.int .i64 x2)) R (intsV zeros17) 40) := Lib.hid ⟨HD.out.1.set 2 _ rfl, HD.out.2.1.far hBF _ _, HD.out.2.2.1.setCell _ (.inr hwF), HD.out.2.2.2.far hRF _⟩
            go_wp2_with fail
            refine ⟨⟨⟨_, HE.out.2.1⟩, rfl⟩, ?_⟩
            obtain ⟨we, hwe⟩ : ∃ we, wd.setCell ⟨F, 2, none⟩ (.int .i64 x2) = we := ⟨_, rfl⟩
            rw [hwe] at HE ⊢
            clear hwe fk ck HD
            obtain ⟨wd, hwd⟩ : ∃ wd, we = wd := ⟨_, rfl⟩
            rw [hwd] at HE ⊢
            have HD := HE
            clear hwd HE
            try dsimp only
            repeat (go_big_quiet_step (fail))
            refine wpQuiet_nil ?_
            have fk := HD.out.1.free 3
            have ck : wd.cell? ⟨F, 3, none⟩ = some (.int .i64 0) := HD.out.1.cell 3 rfl
            have HE : Hid (Blk (wd.setCell ⟨F, 3, none⟩ (.int .i64 x3)) F (intsV [x0, x1, x2, x3, 0, 0, 0, 0, 0, 0, 0, 0, 0, 0, 0, 0, 0]) 40 ∧ PRow B [x0, x1, x2, x3, x4, x5, x6, x7, x8, x9, x10, x11, x12, x13, x14, x15, x16] (wd.setCell ⟨F, 3, none⟩ (.int .i64 x3)) ∧ Fr [] w1 (wd.setCell ⟨F, 3, none⟩ (.int .i64 x3)) ∧ Blk (wd.setCell ⟨F, 3, none⟩ (.int .i64 x3)) R (intsV zeros17) 40) := Lib.hid ⟨HD.out.1.set 3 _ rfl, HD.out.2.1.far hBF _ _, HD.out.2.2.1.setCell _ (.inr hwF), HD.out.2.2.2.far hRF _⟩
            go_wp2_with fail
            refine ⟨⟨⟨_, HE.out.2.1⟩, rfl⟩, ?_⟩
            obtain ⟨we, hwe⟩ : ∃ we, wd.setCell ⟨F, 3, none⟩ (.int .i64 x3) = we := ⟨_, rfl⟩
            rw [hwe] at HE ⊢
            clear hwe fk ck HD
            obtain ⟨wd, hwd⟩ : ∃ wd, we = wd := ⟨_, rfl⟩
            rw [hwd] at HE ⊢
            have HD := HE
            clear hwd HE
            clear HW
            obtain ⟨wc, hwc⟩ : ∃ wc, wd = wc := ⟨_, rfl⟩
            rw [hwc] at HD ⊢
            have HW := HD
            clear hwc HD
            go_upto_region 15 with fail
            haveI : Nonempty (Held (PRow B [x0, x1, x2, x3, x4, x5, x6, x7, x8, x9, x10, x11, x12, x13, x14, x15, x16])) := ⟨⟨_, HW.out.2.1⟩⟩
            refine wp_region_mixP (fun x => ∃ n : Held (PRow B [x0, x1, x2, x3, x4, x5, x6, x7, x8, x9, x10, x11, x12, x13, x14, x15, x16]), x = n.x) [([0, 1, 2, 3, 4, 5, 6, 7, 8, 9, 10, 11, 12, 13, 14, 15, 16, 17, 18, 19, 20, 21, 22, 23, 24, 25], some 26), ([27, 28], some 29), ([30, 31], some 32), ([33, 34], some 35), ([36, 37], some 38), ([39, 40], some 41)] (by kernel_rfl) (by kernel_rfl) (by kernel_rfl) (by kernel_rfl) ⟨⟨wc.drew, HW.out.2.1⟩, rfl⟩ ?_
            simp only [wpMixP, pickL, pick1, List.getElem?_toArray, List.getElem?_cons_zero, List.getElem?_cons_succ]
            repeat (go_big_quiet_step (fail))
            refine wpQuiet_nil ?_
            have HD : Hid (Blk wc.drew F (intsV [x0, x1, x2, x3, 0, 0, 0, 0, 0, 0, 0, 0, 0, 0, 0, 0, 0]) 40 ∧ PRow B [x0, x1, x2, x3, x4, x5, x6, x7, x8, x9, x10, x11, x12, x13, x14, x15, x16] wc.drew ∧ Fr [] w1 wc.drew ∧ Blk wc.drew R (intsV zeros17) 40) := Lib.hid ⟨HW.out.1.fr ((Fr.refl [] wc).drew) (by simp), HW.out.2.1, HW.out.2.2.1.drew, HW.out.2.2.2.fr ((Fr.refl [] wc).drew) (by simp)⟩
            obtain ⟨wd, hwd⟩ : ∃ wd, wc.drew = wd := ⟨_, rfl⟩
            rw [hwd] at HD ⊢
            clear hwd
            have fk := HD.out.1.free 4
            have ck : wd.cell? ⟨F, 4, none⟩ = some (.int .i64 0) := HD.out.1.cell 4 rfl
            have HE : Hid (Blk (wd.setCell ⟨F, 4, none⟩ (.int .i64 x4)) F (intsV [x0, x1, x2, x3, x4, 0, 0, 0, 0, 0, 0, 0, 0, 0, 0, 0, 0]) 40 ∧ PRow B [x0, x1, x2, x3, x4, x5, x6, x7, x8, x9, x10, x11, x12, x13, x14, x15, x16] (wd.setCell ⟨F, 4, none⟩ (.int .i64 x4)) ∧ Fr [] w1 (wd.setCell ⟨F, 4, none⟩ (.int .i64 x4)) ∧ Blk (wd.setCell ⟨F, 4, none⟩ (.int .i64 x4)) R (intsV zeros17) 40) := Lib.hid ⟨HD.out.1.set 4 _ rfl, HD.out.2.1.far hBF _ _, HD.out.2.2.1.setCell _ (.inr hwF), HD.out.2.2.2.far hRF _⟩
            go_wp2_with fail
            refine ⟨⟨⟨_, HE.out.2.1⟩, rfl⟩, ?_⟩
            obtain ⟨we, hwe⟩ : ∃ we, wd.setCell ⟨F, 4, none⟩ (.int .i64 x4) = we := ⟨_, rfl⟩
            rw [hwe] at HE ⊢
            clear hwe fk ck HD
            obtain ⟨wd, hwd⟩ : ∃ wd, we = wd := ⟨_, rfl⟩
            rw [hwd] at HE ⊢
            have HD := HE
            clear hwd HE
            try dsimp only
            repeat (go_big_quiet_step (fail))
            refine wpQuiet_nil ?_
            have fk := HD.out.1.free 5
            have ck : wd.cell? ⟨F, 5, none⟩ = some (.int .i64 0) := HD.out.1.cell 5 rfl
            have HE : Hid (Blk (wd.setCell ⟨F, 5, none⟩ (.int .i64 x5)) F (intsV [x0, x1, x2, x3, x4, x5, 0, 0, 0, 0, 0, 0, 0, 0, 0, 0, 0]) 40 ∧ PRow B [x0, x1, x2, x3, x4, x5, x6, x7, x8, x9, x10, x11, x12, x13, x14, x15, x16] (wd.setCell ⟨F, 5, none⟩ (.int .i64 x5)) ∧ Fr [] w1 (wd.setCell ⟨F, 5, none⟩ (.int .i64 x5)) ∧ Blk (wd.setCell ⟨F, 5, none⟩ (.int .i64 x5)) R (intsV zeros17) 40) := Lib.hid ⟨HD.out.1.set 5 _ rfl, HD.out.2.1.far hBF _ _, HD.out.2.2.1.setCell _ (.inr hwF), HD.out.2.2.2.far hRF _⟩
            go_wp2_with fail
            refine ⟨⟨⟨_, HE.out.2.1⟩, rfl⟩, ?_⟩
            obtain ⟨we, hwe⟩ : ∃ we, wd.setCell ⟨F, 5, none⟩ (.int .i64 x5) = we := ⟨_, rfl⟩
            rw [hwe] at HE ⊢
            clear hwe fk ck HD
            obtain ⟨wd, hwd⟩ : ∃ wd, we = wd := ⟨_, rfl⟩
            rw [hwd] at HE ⊢
            have HD := HE
            clear hwd HE
            try dsimp only
            repeat (go_big_quiet_step (fail))
            refine wpQuiet_nil ?_
            have fk := HD.out.1.free 6
            have ck : wd.cell? ⟨F, 6, none⟩ = some (.int .i64 0) := HD.out.1.cell 6 rfl
            have HE : Hid (Blk (wd.setCell ⟨F, 6, none⟩ (.int .i64 x6)) F (intsV [x0, x1, x2, x3, x4, x5, x6, 0, 0, 0, 0, 0, 0, 0, 0, 0, 0]) 40 ∧ PRow B [x0, x1, x2, x3, x4, x5, x6, x7, x8, x9, x10, x11, x12, x13, x14, x15, x16] (wd.setCell ⟨F, 6, none⟩ (.int .i64 x6)) ∧ Fr [] w1 (wd.setCell ⟨F, 6, none⟩ (.int .i64 x6)) ∧ Blk (wd.setCell ⟨F, 6, none⟩ (.int .i64 x6)) R (intsV zeros17) 40) := Lib.hid ⟨HD.out.1.set 6 _ rfl, HD.out.2.1.far hBF _ _, HD.out.2.2.1.setCell _ (.inr hwF), HD.out.2.2.2.far hRF _⟩
            go_wp2_with fail
            refine ⟨⟨⟨_, HE.out.2.1⟩, rfl⟩, ?_⟩
            obtain ⟨we, hwe⟩ : ∃ we, wd.setCell ⟨F, 6, none⟩ (.int .i64 x6) = we := ⟨_, rfl⟩
            rw [hwe] at HE ⊢
            clear hwe fk ck HD
            obtain ⟨wd, hwd⟩ : ∃ wd, we = wd := ⟨_, rfl⟩
            rw [hwd] at HE ⊢
            have HD := HE
            clear hwd HE
            try dsimp only
            repeat (go_big_quiet_step (fail))
            refine wpQuiet_nil ?_
            have fk := HD.out.1.free 7
            have ck : wd.cell? ⟨F, 7, none⟩ = some (.int .i64 0) := HD.out.1.cell 7 rfl
            have HE : Hid (Blk (wd.setCell ⟨F, 7, none⟩ (.int .i64 x7)) F (intsV [x0, x1, x2, x3, x4, x5, x6, x7, 0, 0, 0, 0, 0, 0, 0, 0, 0]) 40 ∧ PRow B [x0, x1, x2, x3, x4, x5, x6, x7, x8, x9, x10, x11, x12, x13, x14, x15, x16] (wd.setCell ⟨F, 7, none⟩ (.int .i64 x7)) ∧ Fr [] w1 (wd.setCell ⟨F, 7, none⟩ (.int .i64 x7)) ∧ Blk (wd.setCell ⟨F, 7, none⟩ (.int .i64 x7)) R (intsV zeros17) 40) := Lib.hid ⟨HD.out.1.set 7 _ rfl, HD.out.2.1.far hBF _ _, HD.out.2.2.1.setCell _ (.inr hwF), HD.out.2.2.2.far hRF _⟩
            go_wp2_with fail
            refine ⟨⟨⟨_, HE.out.2.1⟩, rfl⟩, ?_⟩
            obtain ⟨we, hwe⟩ : ∃ we, wd.setCell ⟨F, 7, none⟩ (.int .i64 x7) = we := ⟨_, rfl⟩
            rw [hwe] at HE ⊢
            clear hwe fk ck HD
            obtain ⟨wd, hwd⟩ : ∃ wd, we = wd := ⟨_, rfl⟩
            rw [hwd] at HE ⊢
            have HD := HE
            clear hwd HE
            try dsimp only
            repeat (go_big_quiet_step (fail))
            refine wpQuiet_nil ?_
            have fk := HD.out.1.free 8
            have ck : wd.cell? ⟨F, 8, none⟩ = some (.int .i64 0) := HD.out.1.cell 8 rfl
            have HE : Hid (Blk (wd.setCell ⟨F, 8, none⟩ (.int .i64 x8)) F (intsV [x0, x1, x2, x3, x4, x5, x6, x7, x8, 0, 0, 0, 0, 0, 0, 0, 0]) 40 ∧ PRow B [x0, x1, x2, x3, x4, x5, x6, x7, x8, x9, x10, x11, x12, x13, x14, x15, x16] (wd.setCell ⟨F, 8, none⟩ (.int .i64 x8)) ∧ Fr [] w1 (wd.setCell ⟨F, 8, none⟩ (.int .i64 x8)) ∧ Blk (wd.setCell ⟨F, 8, none⟩ (.int .i64 x8)) R (intsV zeros17) 40) := Lib.hid ⟨HD.out.1.set 8 _ rfl, HD.out.2.1.far hBF _ _, HD.out.2.2.1.setCell _ (.inr hwF), HD.out.2.2.2.far hRF _⟩
            go_wp2_with fail
            refine ⟨⟨⟨_, HE.out.2.1⟩, rfl⟩, ?_⟩
            obtain ⟨we, hwe⟩ : ∃ we, wd.setCell ⟨F, 8, none⟩ (.int .i64 x8) = we := ⟨_, rfl⟩
            rw [hwe] at HE ⊢
            clear hwe fk ck HD
            obtain ⟨wd, hwd⟩ : ∃ wd, we = wd := ⟨_, rfl⟩
            rw [hwd] at HE ⊢
            have HD := HE
            clear hwd HE
            try dsimp only
            repeat (go_big_quiet_step (fail))
            refine wpQuiet_nil ?_
            have fk := HD.out.1.free 9
            have ck : wd.cell? ⟨F, 9, none⟩ = some (.int .i64 0) := HD.out.1.cell 9 rfl
            have HE : Hid (Blk (wd.setCell ⟨F, 9, none⟩ (.int .i64 x9)) F (intsV [x0, x1, x2, x3, x4, x5, x6, x7, x8, x9, 0, 0, 0, 0, 0, 0, 0]) 40 ∧ PRow B [x0, x1, x2, x3, x4, x5, x6, x7, x8, x9, x10, x11, x12, x13, x14, x15, x16] (wd.setCell ⟨F, 9, none⟩ (.int .i64 x9)) ∧ Fr [] w1 (wd.setCell ⟨F, 9, none⟩ (.int .i64 x9)) ∧ Blk (wd.setCell ⟨F, 9, none⟩ (.int .i64 x9)) R (intsV zeros17) 40) := Lib.hid ⟨HD.out.1.set 9 _ rfl, HD.out.2.1.far hBF _ _, HD.out.2.2.1.setCell _ (.inr hwF), HD.out.2.2.2.far hRF _⟩
            go_wp2_with fail
            refine ⟨⟨⟨_, HE.out.2.1⟩, rfl⟩, ?_⟩
            obtain ⟨we, hwe⟩ : ∃ we, wd.setCell ⟨F, 9, none⟩ (.int .i64 x9) = we := ⟨_, rfl⟩
            rw [hwe] at HE ⊢
            clear hwe fk ck HD
            obtain ⟨wd, hwd⟩ : ∃ wd, we = wd := ⟨_, rfl⟩
            rw [hwd] at HE ⊢
            have HD := HE
            clear hwd HE
            clear HW
            obtain ⟨wc, hwc⟩ : ∃ wc, wd = wc := ⟨_, rfl⟩
            rw [hwc] at HD ⊢
            have HW := HD
            clear hwc HD
            go_upto_region 17 with fail
            haveI : Nonempty (Held (PRow B [x0, x1, x2, x3, x4, x5, x6, x7, x8, x9, x10, x11, x12, x13, x14, x15, x16])) := ⟨⟨_, HW.out.2.1⟩⟩
            refine wp_region_mixP (fun x => ∃ n : Held (PRow B [x0, x1, x2, x3, x4, x5, x6, x7, x8, x9, x10, x11, x12, x13, x14, x15, x16]), x = n.x) [([0, 1, 2, 3, 4, 5, 6, 7, 8, 9, 10, 11, 12, 13], some 14), ([15, 16], some 17), ([18, 19], some 20)] (by kernel_rfl) (by kernel_rfl) (by kernel_rfl) (by kernel_rfl) ⟨⟨wc.drew, HW.out.2.1⟩, rfl⟩ ?_
            simp only [wpMixP, pickL, pick1, List.getElem?_toArray, List.getElem?_cons_zero, List.getElem?_cons_succ]
            repeat (go_big_quiet_step (fail))
            refine wpQuiet_nil ?_
            have HD : Hid (Blk wc.drew F (intsV [x0, x1, x2, x3, x4, x5, x6, x7, x8, x9, 0, 0, 0, 0, 0, 0, 0]) 40 ∧ PRow B [x0, x1, x2, x3, x4, x5, x6, x7, x8, x9, x10, x11, x12, x13, x14, x15, x16] wc.drew ∧ Fr [] w1 wc.drew ∧ Blk wc.drew R (intsV zeros17) 40) := Lib.hid ⟨HW.out.1.fr ((Fr.refl [] wc).drew) (by simp), HW.out.2.1, HW.out.2.2.1.drew, HW.out.2.2.2.fr ((Fr.refl [] wc).drew) (by simp)⟩
            obtain ⟨wd, hwd⟩ : ∃ wd, wc.drew = wd := ⟨_, rfl⟩
            rw [hwd] at HD ⊢
            clear hwd
            have fk := HD.out.1.free 10
            have ck : wd.cell? ⟨F, 10, none⟩ = some (.int .i64 0) := HD.out.1.cell 10 rfl
            have HE : Hid (Blk (wd.setCell ⟨F, 10, none⟩ (.int .i64 x10)) F (intsV [x0, x1, x2, x3, x4, x5, x6, x7, x8, x9, x10, 0, 0, 0, 0, 0, 0]) 40 ∧ PRow B [x0, x1, x2, x3, x4, x5, x6, x7, x8, x9, x10, x11, x12, x13, x14, x15, x16] (wd.setCell ⟨F, 10, none⟩ (.int .i64 x10)) ∧ Fr [] w1 (wd.setCell ⟨F, 10, none⟩ (.int .i64 x10)) ∧ Blk (wd.setCell ⟨F, 10, none⟩ (.int .i64 x10)) R (intsV zeros17) 40) := Lib.hid ⟨HD.out.1.set 10 _ rfl, HD.out.2.1.far hBF _ _, HD.out.2.2.1.setCell _ (.inr hwF), HD.out.2.2.2.far hRF _⟩
            go_wp2_with fail
            refine ⟨⟨⟨_, HE.out.2.1⟩, rfl⟩, ?_⟩
            obtain ⟨we, hwe⟩ : ∃ we, wd.setCell ⟨F, 10, none⟩ (.int .i64 x10) = we := ⟨_, rfl⟩
            rw [hwe] at HE ⊢
            clear hwe fk ck HD
            obtain ⟨wd, hwd⟩ : ∃ wd, we = wd := ⟨_, rfl⟩
            rw [hwd] at HE ⊢
            have HD := HE
            clear hwd HE
            try dsimp only
            repeat (go_big_quiet_step (fail))
            refine wpQuiet_nil ?_
            have fk := HD.out.1.free 11
            have ck : wd.cell? ⟨F, 11, none⟩ = some (.int .i64 0) := HD.out.1.cell 11 rfl
            have HE : Hid (Blk (wd.setCell ⟨F, 11, none⟩ (.int .i64 x11)) F (intsV [x0, x1, x2, x3, x4, x5, x6, x7, x8, x9, x10, x11, 0, 0, 0, 0, 0]) 40 ∧ PRow B [x0, x1, x2, x3, x4, x5, x6, x7, x8, x9, x10, x11, x12, x13, x14, x15, x16] (wd.setCell ⟨F, 11, none⟩ (.int .i64 x11)) ∧ Fr [] w1 (wd.setCell ⟨F, 11, none⟩ (.int .i64 x11)) ∧ Blk (wd.setCell ⟨F, 11, none⟩ (.int .i64 x11)) R (intsV zeros17) 40) := Lib.hid ⟨HD.out.1.set 11 _ rfl, HD.out.2.1.far hBF _ _, HD.out.2.2.1.setCell _ (.inr hwF), HD.out.2.2.2.far hRF _⟩
            go_wp2_with fail
            refine ⟨⟨⟨_, HE.out.2.1⟩, rfl⟩, ?_⟩
            obtain ⟨we, hwe⟩ : ∃ we, wd.setCell ⟨F, 11, none⟩ (.int .i64 x11) = we := ⟨_, rfl⟩
            rw [hwe] at HE ⊢
            clear hwe fk ck HD
            obtain ⟨wd, hwd⟩ : ∃ wd, we = wd := ⟨_, rfl⟩
            rw [hwd] at HE ⊢
            have HD := HE
            clear hwd HE
            try dsimp only
            repeat (go_big_quiet_step (fail))
            refine wpQuiet_nil ?_
            have fk := HD.out.1.free 12
            have ck : wd.cell? ⟨F, 12, none⟩ = some (.int .i64 0) := HD.out.1.cell 12 rfl
            have HE : Hid (Blk (wd.setCell ⟨F, 12, none⟩ (.int .i64 x12)) F (intsV [x0, x1, x2, x3, x4, x5, x6, x7, x8, x9, x10, x11, x12, 0, 0, 0, 0]) 40 ∧ PRow B [x0, x1, x2, x3, x4, x5, x6, x7, x8, x9, x10, x11, x12, x13, x14, x15, x16] (wd.setCell ⟨F, 12, none⟩ (.int .i64 x12)) ∧ Fr [] w1 (wd.setCell ⟨F, 12, none⟩ (.int .i64 x12)) ∧ Blk (wd.setCell ⟨F, 12, none⟩ (.int .i64 x12)) R (intsV zeros17) 40) := Lib.hid ⟨HD.out.1.set 12 _ rfl, HD.out.2.1.far hBF _ _, HD.out.2.2.1.setCell _ (.inr hwF), HD.out.2.2.2.far hRF _⟩
            go_wp2_with fail
            refine ⟨⟨⟨_, HE.out.2.1⟩, rfl⟩, ?_⟩
            obtain ⟨we, hwe⟩ : ∃ we, wd.setCell ⟨F, 12, none⟩ (.int .i64 x12) = we := ⟨_, rfl⟩
            rw [hwe] at HE ⊢
            clear hwe fk ck HD
            obtain ⟨wd, hwd⟩ : ∃ wd, we = wd := ⟨_, rfl⟩
            rw [hwd] at HE ⊢
            have HD := HE
            clear hwd HE
            clear HW
            obtain ⟨wc, hwc⟩ : ∃ wc, wd = wc := ⟨_, rfl⟩
            rw [hwc] at HD ⊢
            have HW := HD
            clear hwc HD
            go_upto_region 18 with fail
            haveI : Nonempty (Held (PRow B [x0, x1, x2, x3, x4, x5, x6, x7, x8, x9, x10, x11, x12, x13, x14, x15, x16])) := ⟨⟨_, HW.out.2.1⟩⟩
            refine wp_region_mixP (fun x => ∃ n : Held (PRow B [x0, x1, x2, x3, x4, x5, x6, x7, x8, x9, x10, x11, x12, x13, x14, x15, x16]), x = n.x) [([0, 1, 2, 3, 4, 5, 6, 7, 8, 9, 10, 11, 12, 13], some 14), ([15, 16], some 17), ([18, 19], some 20), ([21, 22], some 23)] (by kernel_rfl) (by kernel_rfl) (by kernel_rfl) (by kernel_rfl) ⟨⟨wc.drew, HW.out.2.1⟩, rfl⟩ ?_
            simp only [wpMixP, pickL, pick1, List.getElem?_toArray, List.getElem?_cons_zero, List.getElem?_cons_succ]
            repeat (go_big_quiet_step (fail))
            refine wpQuiet_nil ?_
            have HD : Hid (Blk wc.drew F (intsV [x0, x1, x2, x3, x4, x5, x6, x7, x8, x9, x10, x11, x12, 0, 0, 0, 0]) 40 ∧ PRow B [x0, x1, x2, x3, x4, x5, x6, x7, x8, x9, x10, x11, x12, x13, x14, x15, x16] wc.drew ∧ Fr [] w1 wc.drew ∧ Blk wc.drew R (intsV zeros17) 40) := Lib.hid ⟨HW.out.1.fr ((Fr.refl [] wc).drew) (by simp), HW.out.2.1, HW.out.2.2.1.drew, HW.out.2.2.2.fr ((Fr.refl [] wc).drew) (by simp)⟩
            obtain ⟨wd, hwd⟩ : ∃ wd, wc.drew = wd := ⟨_, rfl⟩
            rw [hwd] at HD ⊢
            clear hwd
            have fk := HD.out.1.free 13
            have ck : wd.cell? ⟨F, 13, none⟩ = some (.int .i64 0) := HD.out.1.cell 13 rfl
            have HE : Hid (Blk (wd.setCell ⟨F, 13, none⟩ (.int .i64 x13)) F (intsV [x0, x1, x2, x3, x4, x5, x6, x7, x8, x9, x10, x11, x12, x13, 0, 0, 0]) 40 ∧ PRow B [x0, x1, x2, x3, x4, x5, x6, x7, x8, x9, x10, x11, x12, x13, x14, x15, x16] (wd.setCell ⟨F, 13, none⟩ (.int .i64 x13)) ∧ Fr [] w1 (wd.setCell ⟨F, 13, none⟩ (.int .i64 x13)) ∧ Blk (wd.setCell ⟨F, 13, none⟩ (.int .i64 x13)) R (intsV zeros17) 40) := Lib.hid ⟨HD.out.1.set 13 _ rfl, HD.out.2.1.far hBF _ _, HD.out.2.2.1.setCell _ (.inr hwF), HD.out.2.2.2.far hRF _⟩
            go_wp2_with fail
            refine ⟨⟨⟨_, HE.out.2.1⟩, rfl⟩, ?_⟩
            obtain ⟨we, hwe⟩ : ∃ we, wd.setCell ⟨F, 13, none⟩ (.int .i64 x13) = we := ⟨_, rfl⟩
            rw [hwe] at HE ⊢
            clear hwe fk ck HD
            obtain ⟨wd, hwd⟩ : ∃ wd, we = wd := ⟨_, rfl⟩
            rw [hwd] at HE ⊢
            have HD := HE
            clear hwd HE
            try dsimp only
            repeat (go_big_quiet_step (fail))
            refine wpQuiet_nil ?_
            have fk := HD.out.1.free 14
            have ck : wd.cell? ⟨F, 14, none⟩ = some (.int .i64 0) := HD.out.1.cell 14 rfl
            have HE : Hid (Blk (wd.setCell ⟨F, 14, none⟩ (.int .i64 x14)) F (intsV [x0, x1, x2, x3, x4, x5, x6, x7, x8, x9, x10, x11, x12, x13, x14, 0, 0]) 40 ∧ PRow B [x0, x1, x2, x3, x4, x5, x6, x7, x8, x9, x10, x11, x12, x13, x14, x15, x16] (wd.setCell ⟨F, 14, none⟩ (.int .i64 x14)) ∧ Fr [] w1 (wd.setCell ⟨F, 14, none⟩ (.int .i64 x14)) ∧ Blk (wd.setCell ⟨F, 14, none⟩ (.int .i64 x14)) R (intsV zeros17) 40) := Lib.hid ⟨HD.out.1.set 14 _ rfl, HD.out.2.1.far hBF _ _, HD.out.2.2.1.setCell _ (.inr hwF), HD.out.2.2.2.far hRF _⟩
            go_wp2_with fail
            refine ⟨⟨⟨_, HE.out.2.1⟩, rfl⟩, ?_⟩
            obtain ⟨we, hwe⟩ : ∃ we, wd.setCell ⟨F, 14, none⟩ (.int .i64 x14) = we := ⟨_, rfl⟩
            rw [hwe] at HE ⊢
            clear hwe fk ck HD
            obtain ⟨wd, hwd⟩ : ∃ wd, we = wd := ⟨_, rfl⟩
            rw [hwd] at HE ⊢
            have HD := HE
            clear hwd HE
            try dsimp only
            repeat (go_big_quiet_step (fail))
            refine wpQuiet_nil ?_
            have fk := HD.out.1.free 15
            have ck : wd.cell? ⟨F, 15, none⟩ = some (.int .i64 0) := HD.out.1.cell 15 rfl
            have HE : Hid (Blk (wd.setCell ⟨F, 15, none⟩ (.int .i64 x15)) F (intsV [x0, x1, x2, x3, x4, x5, x6, x7, x8, x9, x10, x11, x12, x13, x14, x15, 0]) 40 ∧ PRow B [x0, x1, x2, x3, x4, x5, x6, x7, x8, x9, x10, x11, x12, x13, x14, x15, x16] (wd.setCell ⟨F, 15, none⟩ (.int .i64 x15)) ∧ Fr [] w1 (wd.setCell ⟨F, 15, none⟩ (.int .i64 x15)) ∧ Blk (wd.setCell ⟨F, 15, none⟩ (.int .i64 x15)) R (intsV zeros17) 40) := Lib.hid ⟨HD.out.1.set 15 _ rfl, HD.out.2.1.far hBF _ _, HD.out.2.2.1.setCell _ (.inr hwF), HD.out.2.2.2.far hRF _⟩
            go_wp2_with fail
            refine ⟨⟨⟨_, HE.out.2.1⟩, rfl⟩, ?_⟩
            obtain ⟨we, hwe⟩ : ∃ we, wd.setCell ⟨F, 15, none⟩ (.int .i64 x15) = we := ⟨_, rfl⟩
            rw [hwe] at HE ⊢
            clear hwe fk ck HD
            obtain ⟨wd, hwd⟩ : ∃ wd, we = wd := ⟨_, rfl⟩
            rw [hwd] at HE ⊢
            have HD := HE
            clear hwd HE
            try dsimp only
            repeat (go_big_quiet_step (fail))
            refine wpQuiet_nil ?_
            have fk := HD.out.1.free 16
            have ck : wd.cell? ⟨F, 16, none⟩ = some (.int .i64 0) := HD.out.1.cell 16 rfl
            have HE : Hid (Blk (wd.setCell ⟨F, 16, none⟩ (.int .i64 x16)) F (intsV [x0, x1, x2, x3, x4, x5, x6, x7, x8, x9, x10, x11, x12, x13, x14, x15, x16]) 40 ∧ PRow B [x0, x1, x2, x3, x4, x5, x6, x7, x8, x9, x10, x11, x12, x13, x14, x15, x16] (wd.setCell ⟨F, 16, none⟩ (.int .i64 x16)) ∧ Fr [] w1 (wd.setCell ⟨F, 16, none⟩ (.int .i64 x16)) ∧ Blk (wd.setCell ⟨F, 16, none⟩ (.int .i64 x16)) R (intsV zeros17) 40) := Lib.hid ⟨HD.out.1.set 16 _ rfl, HD.out.2.1.far hBF _ _, HD.out.2.2.1.setCell _ (.inr hwF), HD.out.2.2.2.far hRF _⟩
            go_wp2_with fail
            refine ⟨⟨⟨_, HE.out.2.1⟩, rfl⟩, ?_⟩
            obtain ⟨we, hwe⟩ : ∃ we, wd.setCell ⟨F, 16, none⟩ (.int .i64 x16) = we := ⟨_, rfl⟩
            rw [hwe] at HE ⊢
            clear hwe fk ck HD
            obtain ⟨wd, hwd⟩ : ∃ wd, we = wd := ⟨_, rfl⟩
            rw [hwd] at HE ⊢
            have HD := HE
            clear hwd HE
            clear HW
            obtain ⟨wc, hwc⟩ : ∃ wc, wd = wc := ⟨_, rfl⟩
            rw [hwc] at HD ⊢
            have HW := HD
            clear hwc HD
            have hbF := HW.out.1
            have hbR := HW.out.2.2.2
            go_wp2_with (first | (refine wpList_load_row rfl 40 (.tmp 5) rfl F rfl 40 (intsV [x0, x1, x2, x3, x4, x5, x6, x7, x8, x9, x10, x11, x12, x13, x14, x15, x16]) (0, 0) _ hbF Tryd.underlying40 rfl (by kernel_rfl) ?_) | (refine wpList_store_row rfl 40 (.tmp 2) (.tmp 138) rfl R (intsV [x0, x1, x2, x3, x4, x5, x6, x7, x8, x9, x10, x11, x12, x13, x14, x15, x16]) rfl rfl 40 (intsV zeros17) hbR (by kernel_rfl) rfl (intsV_one _) ?_))
            refine bodyPost_ret (v := .tuple #[.agg (intsV [x0, x1, x2, x3, x4, x5, x6, x7, x8, x9, x10, x11, x12, x13, x14, x15, x16]), .bool true]) (results_cell_tmp Tryd.results23 _ _ R _ _ _ _ _ rfl rfl hbR.setRow Tryd.underlying40 rfl (by kernel_rfl)) rfl ?_
            exact CfPost.yes HY.out rfl HI.out ((H1.out.2.1.tr HW.out.2.2.1).setRow _ (.inr (by have := HB.out.2; omega)))
    · have e1 : (h == [110, 101, 116]) = false := by rw [beq_eq_false_iff_ne]; exact he
      have e2 : (h != [110, 101, 116]) = true := by simp only [bne, e1]; rfl
      have HN : Hid (configM (splitc 32 s.bytes) = none) := Lib.hid (by rw [HH.out.1, if_neg (fun hc => he hc.1)])
      have hbF := HF.out.1
      have hbR : Blk w2 R (intsV zeros17) 40 := H1.out.1.fr HF.out.2 (by simp)
      clear he hlen
      go_wp2_with (first | (refine wpList_load_row rfl 40 (.tmp 5) rfl F rfl 40 (intsV zeros17) (0, 0) _ hbF Tryd.underlying40 rfl (by kernel_rfl) ?_) | (refine wpList_store_row rfl 40 (.tmp 2) (.tmp 24) rfl R (intsV zeros17) rfl rfl 40 (intsV zeros17) hbR (by kernel_rfl) rfl (intsV_one _) ?_))
      refine bodyPost_ret (v := .tuple #[.agg (intsV zeros17), .bool false]) (results_cell_tmp Tryd.results23 _ _ R _ _ _ _ _ rfl rfl hbR.setRow Tryd.underlying40 rfl (by kernel_rfl)) rfl ?_
      exact CfPost.no HN.out ((H1.out.2.1.tr HF.out.2).setRow _ (.inr (by have := HB.out.2; omega)))
  · have g1 : ((n : Int) == 18) = false := by rw [beq_eq_false_iff_ne]; omega
    have g2 : ((n : Int) != 18) = true := by simp only [bne, g1]; rfl
    have HN : Hid (configM (splitc 32 s.bytes) = none) := Lib.hid (by rw [HH.out.1, if_neg (fun hc => by omega)])
    have hbF := HF.out.1
    have hbR : Blk w2 R (intsV zeros17) 40 := H1.out.1.fr HF.out.2 (by simp)
    clear hlen
    go_wp2_with (first | (refine wpList_load_row rfl 40 (.tmp 5) rfl F rfl 40 (intsV zeros17) (0, 0) _ hbF Tryd.underlying40 rfl (by kernel_rfl) ?_) | (refine wpList_store_row rfl 40 (.tmp 2) (.tmp 24) rfl R (intsV zeros17) rfl rfl 40 (intsV zeros17) hbR (by kernel_rfl) rfl (intsV_one _) ?_))
    refine bodyPost_ret (v := .tuple #[.agg (intsV zeros17), .bool false]) (results_cell_tmp Tryd.results23 _ _ R _ _ _ _ _ rfl rfl hbR.setRow Tryd.underlying40 rfl (by kernel_rfl)) rfl ?_
    exact CfPost.no HN.out ((H1.out.2.1.tr HF.out.2).setRow _ (.inr (by have := HB.out.2; omega)))
end Go.Proofs.YtodlbajpcbdbaaaDoor
namespace Go.Proofs.YtodlbajpcbdbaaaDoor
open Go.RowKit Go.Shelf
set_option linter.unusedVariables false
set_option linter.unusedSimpArgs false
set_option maxRecDepth 100000

theorem spareOn_snoc (c : UInt8) (e : EV) : ∀ (cs : List UInt8) (e0 : EV), spareOn (cs ++ [c]) e e0 = copyF c e (spareOn cs e e0)
  | [], e0 => rfl
  | d :: cs, e0 => by
    show spareOn (cs ++ [c]) e (copyF d e e0) = _
    rw [spareOn_snoc c e cs]
    rfl
theorem has_some {d : Int} {s : SH} (h : findD d = some s) : (hasS d).bytes = s.2.2 := by unfold hasS; rw [h]; rfl
set_option maxRecDepth 100000 in
set_option maxHeartbeats 8000000 in
theorem r28_Spare (w : World) (e : EV) (sl : Sl) (hd : (findD e.d).isSome = true) :
    Calls Tryd.prog 16 #[.agg (e.arr sl)] w fun r w' => (∃ s', r = .returned (.agg ((spareE e).arr s')) ∧ ((s' = sl ∧ (spareE e).b = e.b) ∨ (s' = Sl.nil ∧ (spareE e).b = []))) ∧ Fr [] w w' := by
  obtain ⟨sh, hsh⟩ := Option.isSome_iff_exists.1 hd
  have HSP : Hid (spareE e = spareOn (hasS e.d).bytes e (EV.zero e.d)) := Lib.hid (by
    unfold spareE
    have h1 : sh.1 = e.d := by have := List.find?_some hsh; simpa using this
    rw [hsh, has_some hsh]
    simp only [h1])
  obtain ⟨-, hx6, hxl⟩ := shape_sizes e.d
  obtain ⟨E, hE⟩ : ∃ E, w.heap.size = E := ⟨_, rfl⟩
  have hb1 : Blk ((w.alloc (.cells (e.arr sl) 55)).alloc (.cells #[.int .i64 0, .int .i64 0, .int .i64 0, .int .i64 0, .int .i64 0, .int .i64 0, .bool false, .slice none 0 0] 55)) E (e.arr sl) 55 := by rw [← hE]; exact (Blk.new _ _ _).alloc _
  have hb2 : Blk ((w.alloc (.cells (e.arr sl) 55)).alloc (.cells #[.int .i64 0, .int .i64 0, .int .i64 0, .int .i64 0, .int .i64 0, .int .i64 0, .bool false, .slice none 0 0] 55)) (E + 1) #[.int .i64 0, .int .i64 0, .int .i64 0, .int .i64 0, .int .i64 0, .int .i64 0, .bool false, .slice none 0 0] 55 := by
    have := Blk.new (w.alloc (.cells (e.arr sl) 55)) #[.int .i64 0, .int .i64 0, .int .i64 0, .int .i64 0, .int .i64 0, .int .i64 0, .bool false, .slice none 0 0] 55
    rw [← hE]; simpa using this
  have HB := Lib.hid (And.intro hb1 (And.intro hb2 hE))
  have hsc := fun w => r28_shape w e.d
  generalize wordS e.d = sw at *
  generalize hasS e.d = sx at *
  have HX := Lib.hid hxl
  have c0 : ((w.alloc (.cells (e.arr sl) 55)).alloc (.cells #[.int .i64 0, .int .i64 0, .int .i64 0, .int .i64 0, .int .i64 0, .int .i64 0, .bool false, .slice none 0 0] 55)).cell? ⟨w.heap.size, 0, none⟩ = some (.int .i64 e.d) := by rw [hE]; exact hb1.cell 0 rfl
  clear hsh hd hb1 hb2 hxl
  go_enter Tryd.func16, Tryd.ntmps16
  clear hE
  go_wp2_with fail
  refine (hsc _).mono ?_
  rintro e9 w1 ⟨rfl, f1⟩
  rw [HB.out.2.2]
  have c0' : w1.cell? ⟨E, 0, none⟩ = some (.int .i64 e.d) := (HB.out.1.fr f1 (by simp)).cell 0 rfl
  obtain ⟨F, hF⟩ : ∃ F, w1.heap.size = F := ⟨_, rfl⟩
  have hEF : E + 1 < F := by rw [← hF]; exact (HB.out.2.1.fr f1 (by simp)).lt
  have HF : Hid (Blk (w1.alloc (.cells ((EV.zero e.d).arr Sl.nil) 55)) F ((EV.zero e.d).arr Sl.nil) 55 ∧ Fr [] w (w1.alloc (.cells ((EV.zero e.d).arr Sl.nil) 55)) ∧ Blk (w1.alloc (.cells ((EV.zero e.d).arr Sl.nil) 55)) E (e.arr sl) 55 ∧ Blk (w1.alloc (.cells ((EV.zero e.d).arr Sl.nil) 55)) (E + 1) #[.int .i64 0, .int .i64 0, .int .i64 0, .int .i64 0, .int .i64 0, .int .i64 0, .bool false, .slice none 0 0] 55 ∧ w1.heap.size = F) := Lib.hid ⟨by rw [← hF]; exact Blk.new _ _ _, (((((Fr.refl [] w).alloc _).alloc _).tr f1).alloc _), (HB.out.1.fr f1 (by simp)).alloc _, (HB.out.2.1.fr f1 (by simp)).alloc _, hF⟩
  have hwE : w.heap.size ≤ E := by have := HB.out.2.2; omega
  clear f1 c0 hsc hF
  go_wp2
  rw [HF.out.2.2.2.2]
  clear c0'
  go_loopw [6] (fun i wr => ∃ (q : Nat) (x : EV) (s' : Sl), i = .int .i64 (q : Int) ∧ q ≤ sx.size ∧ x = spareOn (sx.bytes.take q) e (EV.zero e.d) ∧ ((s' = sl ∧ x.b = e.b) ∨ (s' = Sl.nil ∧ x.b = [])) ∧ Blk wr F (x.arr s') 55 ∧ Fr [] w wr ∧ Blk wr E (e.arr sl) 55 ∧ Blk wr (E + 1) #[.int .i64 0, .int .i64 0, .int .i64 0, .int .i64 0, .int .i64 0, .int .i64 0, .bool false, .slice none 0 0] 55) (fun i _ => sx.size - (intOf i).toNat)
  case atStart => exact ⟨0, EV.zero e.d, Sl.nil, rfl, by omega, rfl, .inr ⟨rfl, rfl⟩, HF.out.1, HF.out.2.1, HF.out.2.2.1, HF.out.2.2.2.1⟩
  case round =>
    obtain ⟨q, x, s', rfl, hq, hx, hs', hbF, hf, hbE, hbR⟩ := hrel
    have HK := Lib.hid (And.intro hbF (And.intro hf (And.intro hs' (And.intro hbE hbR))))
    have HX1 := Lib.hid hx
    clear hs' hx
    by_cases hlt : q < sx.size
    · have d1 : (q : Int) < (sx.size : Int) := by omega
      have wq : IntKind.i64.wrap ((q : Int) + 1) = (q : Int) + 1 := IntWalk.i64_in _ (by omega)
      have hcl : sx[q] ∈ letters := HX.out _ (List.getElem_mem (l := sx.data.toList) (by exact hlt))
      have htk : sx.bytes.take (q + 1) = sx.bytes.take q ++ [sx[q]] := by
        rw [List.take_succ_eq_append_getElem (show q < sx.bytes.length from hlt)]
        rfl
      have c1 : wr.cell? ⟨E, 1, none⟩ = some (.int .i64 e.fr) := hbE.cell 1 rfl
      have c2 : wr.cell? ⟨E, 2, none⟩ = some (.int .i64 e.to) := hbE.cell 2 rfl
      have c3 : wr.cell? ⟨E, 3, none⟩ = some (.int .i64 e.n) := hbE.cell 3 rfl
      have c4 : wr.cell? ⟨E, 4, none⟩ = some (.int .i64 e.sap) := hbE.cell 4 rfl
      have c5 : wr.cell? ⟨E, 5, none⟩ = some (.int .i64 e.far) := hbE.cell 5 rfl
      have c6 : wr.cell? ⟨E, 6, none⟩ = some (.bool e.po) := hbE.cell 6 rfl
      have c7 : wr.cell? ⟨E, 7, none⟩ = some (.slice sl.A sl.n sl.c) := hbE.cell 7 rfl
      clear hbF hf hbE hbR
      simp only [letters, List.mem_cons, List.not_mem_nil, or_false] at hcl
      rcases hcl with hc | hc | hc | hc | hc | hc | hc
      · have qa102 : ((sx[q].toNat : Int) == 102) = true := by rw [hc]; rfl
        have fk := HK.out.1.free 1
        have ck := HK.out.1.cell 1 rfl
        simp only [EV.arr, List.getElem_toArray, List.getElem_cons_zero, List.getElem_cons_succ] at ck
        have HN : Hid (Blk (wr.setCell ⟨F, 1, none⟩ (.int .i64 e.fr)) F ((copyF 102 e x).arr s') 55 ∧ Fr [] w (wr.setCell ⟨F, 1, none⟩ (.int .i64 e.fr)) ∧ Blk (wr.setCell ⟨F, 1, none⟩ (.int .i64 e.fr)) E (e.arr sl) 55 ∧ Blk (wr.setCell ⟨F, 1, none⟩ (.int .i64 e.fr)) (E + 1) #[.int .i64 0, .int .i64 0, .int .i64 0, .int .i64 0, .int .i64 0, .int .i64 0, .bool false, .slice none 0 0] 55) := Lib.hid ⟨HK.out.1.set 1 _ rfl, HK.out.2.1.setCell _ (.inr (by show w.heap.size ≤ F; omega)), HK.out.2.2.2.1.far (by show E ≠ F; omega) _, HK.out.2.2.2.2.far (by show E + 1 ≠ F; omega) _⟩
        have HX2 : Hid (copyF 102 e x = spareOn (sx.bytes.take (q + 1)) e (EV.zero e.d)) := Lib.hid (by rw [htk, spareOn_snoc, hc, HX1.out])
        have HS2 : Hid ((s' = sl ∧ (copyF 102 e x).b = e.b) ∨ (s' = Sl.nil ∧ (copyF 102 e x).b = [])) := Lib.hid (HK.out.2.2.1)
        clear hc htk
        go_wp2
        go_roundw
        case rel => exact ⟨q + 1, copyF 102 e x, s', by go_num, by omega, HX2.out, HS2.out, HN.out⟩
        case measure => simp [intOf]; omega
      · have qa102 : ((sx[q].toNat : Int) == 102) = false := by rw [hc]; rfl
        have qa116 : ((sx[q].toNat : Int) == 116) = true := by rw [hc]; rfl
        have fk := HK.out.1.free 2
        have ck := HK.out.1.cell 2 rfl
        simp only [EV.arr, List.getElem_toArray, List.getElem_cons_zero, List.getElem_cons_succ] at ck
        have HN : Hid (Blk (wr.setCell ⟨F, 2, none⟩ (.int .i64 e.to)) F ((copyF 116 e x).arr s') 55 ∧ Fr [] w (wr.setCell ⟨F, 2, none⟩ (.int .i64 e.to)) ∧ Blk (wr.setCell ⟨F, 2, none⟩ (.int .i64 e.to)) E (e.arr sl) 55 ∧ Blk (wr.setCell ⟨F, 2, none⟩ (.int .i64 e.to)) (E + 1) #[.int .i64 0, .int .i64 0, .int .i64 0, .int .i64 0, .int .i64 0, .int .i64 0, .bool false, .slice none 0 0] 55) := Lib.hid ⟨HK.out.1.set 2 _ rfl, HK.out.2.1.setCell _ (.inr (by show w.heap.size ≤ F; omega)), HK.out.2.2.2.1.far (by show E ≠ F; omega) _, HK.out.2.2.2.2.far (by show E + 1 ≠ F; omega) _⟩
        have HX2 : Hid (copyF 116 e x = spareOn (sx.bytes.take (q + 1)) e (EV.zero e.d)) := Lib.hid (by rw [htk, spareOn_snoc, hc, HX1.out])
        have HS2 : Hid ((s' = sl ∧ (copyF 116 e x).b = e.b) ∨ (s' = Sl.nil ∧ (copyF 116 e x).b = [])) := Lib.hid (HK.out.2.2.1)
        clear hc htk
        go_wp2
        go_roundw
        case rel => exact ⟨q + 1, copyF 116 e x, s', by go_num, by omega, HX2.out, HS2.out, HN.out⟩
        case measure => simp [intOf]; omega
      · have qa102 : ((sx[q].toNat : Int) == 102) = false := by rw [hc]; rfl
        have qa116 : ((sx[q].toNat : Int) == 116) = false := by rw [hc]; rfl
        have qa115 : ((sx[q].toNat : Int) == 115) = true := by rw [hc]; rfl
        have fk := HK.out.1.free 4
        have ck := HK.out.1.cell 4 rfl
        simp only [EV.arr, List.getElem_toArray, List.getElem_cons_zero, List.getElem_cons_succ] at ck
        have HN : Hid (Blk (wr.setCell ⟨F, 4, none⟩ (.int .i64 e.sap)) F ((copyF 115 e x).arr s') 55 ∧ Fr [] w (wr.setCell ⟨F, 4, none⟩ (.int .i64 e.sap)) ∧ Blk (wr.setCell ⟨F, 4, none⟩ (.int .i64 e.sap)) E (e.arr sl) 55 ∧ Blk (wr.setCell ⟨F, 4, none⟩ (.int .i64 e.sap)) (E + 1) #[.int .i64 0, .int .i64 0, .int .i64 0, .int .i64 0, .int .i64 0, .int .i64 0, .bool false, .slice none 0 0] 55) := Lib.hid ⟨HK.out.1.set 4 _ rfl, HK.out.2.1.setCell _ (.inr (by show w.heap.size ≤ F; omega)), HK.out.2.2.2.1.far (by show E ≠ F; omega) _, HK.out.2.2.2.2.far (by show E + 1 ≠ F; omega) _⟩
        have HX2 : Hid (copyF 115 e x = spareOn (sx.bytes.take (q + 1)) e (EV.zero e.d)) := Lib.hid (by rw [htk, spareOn_snoc, hc, HX1.out])
        have HS2 : Hid ((s' = sl ∧ (copyF 115 e x).b = e.b) ∨ (s' = Sl.nil ∧ (copyF 115 e x).b = [])) := Lib.hid (HK.out.2.2.1)
        clear hc htk
        go_wp2
        go_roundw
        case rel => exact ⟨q + 1, copyF 115 e x, s', by go_num, by omega, HX2.out, HS2.out, HN.out⟩
        case measure => simp [intOf]; omega
      · have qa102 : ((sx[q].toNat : Int) == 102) = false := by rw [hc]; rfl
        have qa116 : ((sx[q].toNat : Int) == 116) = false := by rw [hc]; rfl
        have qa115 : ((sx[q].toNat : Int) == 115) = false := by rw [hc]; rfl
        have qa97 : ((sx[q].toNat : Int) == 97) = true := by rw [hc]; rfl
        have fk := HK.out.1.free 5
        have ck := HK.out.1.cell 5 rfl
        simp only [EV.arr, List.getElem_toArray, List.getElem_cons_zero, List.getElem_cons_succ] at ck
        have HN : Hid (Blk (wr.setCell ⟨F, 5, none⟩ (.int .i64 e.far)) F ((copyF 97 e x).arr s') 55 ∧ Fr [] w (wr.setCell ⟨F, 5, none⟩ (.int .i64 e.far)) ∧ Blk (wr.setCell ⟨F, 5, none⟩ (.int .i64 e.far)) E (e.arr sl) 55 ∧ Blk (wr.setCell ⟨F, 5, none⟩ (.int .i64 e.far)) (E + 1) #[.int .i64 0, .int .i64 0, .int .i64 0, .int .i64 0, .int .i64 0, .int .i64 0, .bool false, .slice none 0 0] 55) := Lib.hid ⟨HK.out.1.set 5 _ rfl, HK.out.2.1.setCell _ (.inr (by show w.heap.size ≤ F; omega)), HK.out.2.2.2.1.far (by show E ≠ F; omega) _, HK.out.2.2.2.2.far (by show E + 1 ≠ F; omega) _⟩
        have HX2 : Hid (copyF 97 e x = spareOn (sx.bytes.take (q + 1)) e (EV.zero e.d)) := Lib.hid (by rw [htk, spareOn_snoc, hc, HX1.out])
        have HS2 : Hid ((s' = sl ∧ (copyF 97 e x).b = e.b) ∨ (s' = Sl.nil ∧ (copyF 97 e x).b = [])) := Lib.hid (HK.out.2.2.1)
        clear hc htk
        go_wp2
        go_roundw
        case rel => exact ⟨q + 1, copyF 97 e x, s', by go_num, by omega, HX2.out, HS2.out, HN.out⟩
        case measure => simp [intOf]; omega
      · have qa102 : ((sx[q].toNat : Int) == 102) = false := by rw [hc]; rfl
        have qa116 : ((sx[q].toNat : Int) == 116) = false := by rw [hc]; rfl
        have qa115 : ((sx[q].toNat : Int) == 115) = false := by rw [hc]; rfl
        have qa97 : ((sx[q].toNat : Int) == 97) = false := by rw [hc]; rfl
        have qa110 : ((sx[q].toNat : Int) == 110) = true := by rw [hc]; rfl
        have fk := HK.out.1.free 3
        have ck := HK.out.1.cell 3 rfl
        simp only [EV.arr, List.getElem_toArray, List.getElem_cons_zero, List.getElem_cons_succ] at ck
        have HN : Hid (Blk (wr.setCell ⟨F, 3, none⟩ (.int .i64 e.n)) F ((copyF 110 e x).arr s') 55 ∧ Fr [] w (wr.setCell ⟨F, 3, none⟩ (.int .i64 e.n)) ∧ Blk (wr.setCell ⟨F, 3, none⟩ (.int .i64 e.n)) E (e.arr sl) 55 ∧ Blk (wr.setCell ⟨F, 3, none⟩ (.int .i64 e.n)) (E + 1) #[.int .i64 0, .int .i64 0, .int .i64 0, .int .i64 0, .int .i64 0, .int .i64 0, .bool false, .slice none 0 0] 55) := Lib.hid ⟨HK.out.1.set 3 _ rfl, HK.out.2.1.setCell _ (.inr (by show w.heap.size ≤ F; omega)), HK.out.2.2.2.1.far (by show E ≠ F; omega) _, HK.out.2.2.2.2.far (by show E + 1 ≠ F; omega) _⟩
        have HX2 : Hid (copyF 110 e x = spareOn (sx.bytes.take (q + 1)) e (EV.zero e.d)) := Lib.hid (by rw [htk, spareOn_snoc, hc, HX1.out])
        have HS2 : Hid ((s' = sl ∧ (copyF 110 e x).b = e.b) ∨ (s' = Sl.nil ∧ (copyF 110 e x).b = [])) := Lib.hid (HK.out.2.2.1)
        clear hc htk
        go_wp2
        go_roundw
        case rel => exact ⟨q + 1, copyF 110 e x, s', by go_num, by omega, HX2.out, HS2.out, HN.out⟩
        case measure => simp [intOf]; omega
      · have qa102 : ((sx[q].toNat : Int) == 102) = false := by rw [hc]; rfl
        have qa116 : ((sx[q].toNat : Int) == 116) = false := by rw [hc]; rfl
        have qa115 : ((sx[q].toNat : Int) == 115) = false := by rw [hc]; rfl
        have qa97 : ((sx[q].toNat : Int) == 97) = false := by rw [hc]; rfl
        have qa110 : ((sx[q].toNat : Int) == 110) = false := by rw [hc]; rfl
        have qa112 : ((sx[q].toNat : Int) == 112) = true := by rw [hc]; rfl
        have fk := HK.out.1.free 6
        have ck := HK.out.1.cell 6 rfl
        simp only [EV.arr, List.getElem_toArray, List.getElem_cons_zero, List.getElem_cons_succ] at ck
        have HN : Hid (Blk (wr.setCell ⟨F, 6, none⟩ (.bool e.po)) F ((copyF 112 e x).arr s') 55 ∧ Fr [] w (wr.setCell ⟨F, 6, none⟩ (.bool e.po)) ∧ Blk (wr.setCell ⟨F, 6, none⟩ (.bool e.po)) E (e.arr sl) 55 ∧ Blk (wr.setCell ⟨F, 6, none⟩ (.bool e.po)) (E + 1) #[.int .i64 0, .int .i64 0, .int .i64 0, .int .i64 0, .int .i64 0, .int .i64 0, .bool false, .slice none 0 0] 55) := Lib.hid ⟨HK.out.1.set 6 _ rfl, HK.out.2.1.setCell _ (.inr (by show w.heap.size ≤ F; omega)), HK.out.2.2.2.1.far (by show E ≠ F; omega) _, HK.out.2.2.2.2.far (by show E + 1 ≠ F; omega) _⟩
        have HX2 : Hid (copyF 112 e x = spareOn (sx.bytes.take (q + 1)) e (EV.zero e.d)) := Lib.hid (by rw [htk, spareOn_snoc, hc, HX1.out])
        have HS2 : Hid ((s' = sl ∧ (copyF 112 e x).b = e.b) ∨ (s' = Sl.nil ∧ (copyF 112 e x).b = [])) := Lib.hid (HK.out.2.2.1)
        clear hc htk
        go_wp2
        go_roundw
        case rel => exact ⟨q + 1, copyF 112 e x, s', by go_num, by omega, HX2.out, HS2.out, HN.out⟩
        case measure => simp [intOf]; omega
      · have qa102 : ((sx[q].toNat : Int) == 102) = false := by rw [hc]; rfl
        have qa116 : ((sx[q].toNat : Int) == 116) = false := by rw [hc]; rfl
        have qa115 : ((sx[q].toNat : Int) == 115) = false := by rw [hc]; rfl
        have qa97 : ((sx[q].toNat : Int) == 97) = false := by rw [hc]; rfl
        have qa110 : ((sx[q].toNat : Int) == 110) = false := by rw [hc]; rfl
        have qa112 : ((sx[q].toNat : Int) == 112) = false := by rw [hc]; rfl
        have qa98 : ((sx[q].toNat : Int) == 98) = true := by rw [hc]; rfl
        have fk := HK.out.1.free 7
        have ck := HK.out.1.cell 7 rfl
        simp only [EV.arr, List.getElem_toArray, List.getElem_cons_zero, List.getElem_cons_succ] at ck
        have HN : Hid (Blk (wr.setCell ⟨F, 7, none⟩ (.slice sl.A sl.n sl.c)) F ((copyF 98 e x).arr sl) 55 ∧ Fr [] w (wr.setCell ⟨F, 7, none⟩ (.slice sl.A sl.n sl.c)) ∧ Blk (wr.setCell ⟨F, 7, none⟩ (.slice sl.A sl.n sl.c)) E (e.arr sl) 55 ∧ Blk (wr.setCell ⟨F, 7, none⟩ (.slice sl.A sl.n sl.c)) (E + 1) #[.int .i64 0, .int .i64 0, .int .i64 0, .int .i64 0, .int .i64 0, .int .i64 0, .bool false, .slice none 0 0] 55) := Lib.hid ⟨HK.out.1.set 7 _ rfl, HK.out.2.1.setCell _ (.inr (by show w.heap.size ≤ F; omega)), HK.out.2.2.2.1.far (by show E ≠ F; omega) _, HK.out.2.2.2.2.far (by show E + 1 ≠ F; omega) _⟩
        have HX2 : Hid (copyF 98 e x = spareOn (sx.bytes.take (q + 1)) e (EV.zero e.d)) := Lib.hid (by rw [htk, spareOn_snoc, hc, HX1.out])
        have HS2 : Hid ((sl = sl ∧ (copyF 98 e x).b = e.b) ∨ (sl = Sl.nil ∧ (copyF 98 e x).b = [])) := Lib.hid (.inl ⟨rfl, rfl⟩)
        clear hc htk
        go_wp2
        go_roundw
        case rel => exact ⟨q + 1, copyF 98 e x, sl, by go_num, by omega, HX2.out, HS2.out, HN.out⟩
        case measure => simp [intOf]; omega
    · have hqe : q = sx.size := by omega
      have HT : Hid (x = spareE e) := Lib.hid (by rw [HSP.out, HX1.out, hqe, List.take_of_length_le (show sx.bytes.length ≤ sx.size from Nat.le_refl _)])
      clear hbF hf hbE hbR
      obtain ⟨XA, hXA⟩ : ∃ XA, x.arr s' = XA := ⟨_, rfl⟩
      have HA : Hid (XA.size = 8 ∧ XA.all (·.oneCell') = true ∧ Blk wr F XA 55 ∧ XA = x.arr s') := Lib.hid ⟨by rw [← hXA]; rfl, by rw [← hXA]; exact ev_one _ _, by rw [← hXA]; exact HK.out.1, hXA.symm⟩
      clear hXA
      go_wp2_with (first | (refine wpList_load_row rfl 55 (.tmp 5) rfl F rfl 55 XA (0, 0) _ HA.out.2.2.1 Tryd.underlying55 rfl (by rw [HA.out.1]; kernel_rfl) ?_) | (refine wpList_store_row rfl 55 (.tmp 2) (.tmp 60) rfl (E + 1) XA rfl rfl 55 #[.int .i64 0, .int .i64 0, .int .i64 0, .int .i64 0, .int .i64 0, .int .i64 0, .bool false, .slice none 0 0] HK.out.2.2.2.2 (by rw [HA.out.1]; kernel_rfl) (by rw [HA.out.1]; rfl) HA.out.2.1 ?_))
      refine bodyPost_ret (v := .agg XA) (results_cell_row Tryd.results16 _ _ (E + 1) 55 _ (0, 0) _ rfl HK.out.2.2.2.2.setRow Tryd.underlying55 rfl (by rw [HA.out.1]; kernel_rfl)) rfl ⟨⟨s', by rw [HA.out.2.2.2, HT.out], by rw [← HT.out]; exact HK.out.2.2.1⟩, HK.out.2.1.setRow _ (.inr (by omega))⟩
end Go.Proofs.YtodlbajpcbdbaaaDoor
namespace Go.Proofs.YtodlbajpcbdbaaaDoor
open Go.RowKit Go.ChangeShapes Go.WideShapes Go.Deep
set_option linter.unusedVariables false
set_option linter.unusedSimpArgs false
set_option maxRecDepth 100000

structure EvA (w : World) (A : Option Addr) (l : List EV) (ss : List Sl) : Prop where
  len : ss.length = l.length
  cell : l = [] ∨ ∃ b off, A = some ⟨b, off, none⟩ ∧ ∀ (i : Nat) (e : EV) (s : Sl), l[i]? = some e → ss[i]? = some s → ∀ (j : Nat) (v : Value), (e.arr s)[j]? = some v → w.cell? ⟨b, off + i * 8 + j, none⟩ = some v
  bts : ∀ (i : Nat) (e : EV) (s : Sl), l[i]? = some e → ss[i]? = some s → Ints .u8 w s.v (bytesI e.b)
  ok : ∀ e ∈ l, e.Ok
theorem EvA.fr {w w' : World} {A : Option Addr} {l : List EV} {ss : List Sl} (h : EvA w A l ss) (f : Fr [] w w') : EvA w' A l ss :=
  ⟨h.len, h.cell.imp id fun ⟨b, off, hA, hc⟩ => ⟨b, off, hA, fun i e s hi hs j v hv => f.cell (hc i e s hi hs j v hv) (by simp)⟩, fun i e s hi hs => (h.bts i e s hi hs).fr f, h.ok⟩
theorem EvA.at_ {w : World} {A : Option Addr} {l : List EV} {ss : List Sl} (h : EvA w A l ss) {i : Nat} {e : EV} (hi : l[i]? = some e) : ∃ s b off, ss[i]? = some s ∧ A = some ⟨b, off, none⟩ ∧ (∀ (j : Nat) (v : Value), (e.arr s)[j]? = some v → w.cell? ⟨b, off + i * 8 + j, none⟩ = some v) ∧ Ints .u8 w s.v (bytesI e.b) ∧ e.Ok := by
  have hil : i < l.length := (List.getElem?_eq_some_iff.1 hi).1
  obtain ⟨s, hs⟩ : ∃ s, ss[i]? = some s := ⟨_, List.getElem?_eq_getElem (by rw [h.len]; exact hil)⟩
  rcases h.cell with rfl | ⟨b, off, hA, hc⟩
  · simp at hil
  · exact ⟨s, b, off, hs, hA, hc i e s hi hs, h.bts i e s hi hs, h.ok e (List.mem_of_getElem? hi)⟩
theorem bytesI_of {zs : List Int} (h : ∀ x ∈ zs, (Lit.int .u8 x).wf = true) : ∃ b : List UInt8, bytesI b = zs := by
  refine ⟨zs.map fun x => UInt8.ofNat x.toNat, ?_⟩
  unfold bytesI
  rw [List.map_map]
  refine List.map_congr_left (g := id) (fun x hx => ?_) |>.trans (List.map_id _)
  have := wf_u8 (h x hx)
  show ((UInt8.ofNat x.toNat).toNat : Int) = x
  rw [UInt8.toNat_ofNat']
  omega
theorem one_at {cs : List Value} {j : Nat} {v : Value} (h : (cs.drop j).take 1 = [v]) : cs[j]? = some v := by
  have := congrArg (·[0]?) h
  simpa [List.getElem?_take, List.getElem?_drop] using this
theorem ev_of_trod {H : Type} {enc : TypeId × Value → H} {w : World} {base : Nat} {spare : Nat → Bool} {held : Bool} {fuel : Nat} {cs : List Value} {x : DataW H × List MemPlace}
    (h : DataW.trod enc Tryd.prog w base spare held fuel 55 cs = some x) : ∃ (e : EV) (s : Sl), (∀ (j : Nat) (v : Value), (e.arr s)[j]? = some v → cs[j]? = some v) ∧ Ints .u8 w s.v (bytesI e.b) ∧ e.Ok := by
  obtain ⟨xs, n, _, _, hcl, hxl, hfld⟩ := DataW.trod_struct Tryd.underlying55 h
  have q1 : Tryd.prog.cellsOf 3 = 1 := by kernel_rfl
  have q2 : Tryd.prog.cellsOf 4 = 1 := by kernel_rfl
  have q3 : Tryd.prog.cellsOf 53 = 1 := by kernel_rfl
  have q4 : Tryd.prog.cellsOf 5 = 1 := by kernel_rfl
  have t0 : DataW.trod enc Tryd.prog w base spare held n 3 ((cs.drop 0).take (Tryd.prog.cellsOf 3)) = xs[0]? := hfld 0 _ rfl
  rw [q1] at t0
  rw [List.getElem?_eq_getElem (by rw [hxl]; decide)] at t0
  obtain ⟨a0, h0, -, w0⟩ := DataW.trod_int Tryd.underlying3 t0
  have t1 : DataW.trod enc Tryd.prog w base spare held n 3 ((cs.drop 1).take (Tryd.prog.cellsOf 3)) = xs[1]? := hfld 1 _ rfl
  rw [q1] at t1
  rw [List.getElem?_eq_getElem (by rw [hxl]; decide)] at t1
  obtain ⟨a1, h1, -, w1⟩ := DataW.trod_int Tryd.underlying3 t1
  have t2 : DataW.trod enc Tryd.prog w base spare held n 3 ((cs.drop 2).take (Tryd.prog.cellsOf 3)) = xs[2]? := hfld 2 _ rfl
  rw [q1] at t2
  rw [List.getElem?_eq_getElem (by rw [hxl]; decide)] at t2
  obtain ⟨a2, h2, -, w2⟩ := DataW.trod_int Tryd.underlying3 t2
  have t3 : DataW.trod enc Tryd.prog w base spare held n 3 ((cs.drop 3).take (Tryd.prog.cellsOf 3)) = xs[3]? := hfld 3 _ rfl
  rw [q1] at t3
  rw [List.getElem?_eq_getElem (by rw [hxl]; decide)] at t3
  obtain ⟨a3, h3, -, w3⟩ := DataW.trod_int Tryd.underlying3 t3
  have t4 : DataW.trod enc Tryd.prog w base spare held n 3 ((cs.drop 4).take (Tryd.prog.cellsOf 3)) = xs[4]? := hfld 4 _ rfl
  rw [q1] at t4
  rw [List.getElem?_eq_getElem (by rw [hxl]; decide)] at t4
  obtain ⟨a4, h4, -, w4⟩ := DataW.trod_int Tryd.underlying3 t4
  have t5 : DataW.trod enc Tryd.prog w base spare held n 3 ((cs.drop 5).take (Tryd.prog.cellsOf 3)) = xs[5]? := hfld 5 _ rfl
  rw [q1] at t5
  rw [List.getElem?_eq_getElem (by rw [hxl]; decide)] at t5
  obtain ⟨a5, h5, -, w5⟩ := DataW.trod_int Tryd.underlying3 t5
  have t6 : DataW.trod enc Tryd.prog w base spare held n 4 ((cs.drop 6).take (Tryd.prog.cellsOf 4)) = xs[6]? := hfld 6 _ rfl
  rw [q2] at t6
  rw [List.getElem?_eq_getElem (by rw [hxl]; decide)] at t6
  obtain ⟨po, h6, -⟩ := DataW.trod_bool Tryd.underlying4 t6
  have t7 : DataW.trod enc Tryd.prog w base spare held n 53 ((cs.drop 7).take (Tryd.prog.cellsOf 53)) = xs[7]? := hfld 7 _ rfl
  rw [q3] at t7
  rw [List.getElem?_eq_getElem (by rw [hxl]; decide)] at t7
  have key : ∃ (s : Sl) (zs : List Int), (cs.drop 7).take 1 = [.slice s.A s.n s.c] ∧ Ints .u8 w s.v zs ∧ ∀ x ∈ zs, (Lit.int .u8 x).wf = true := by
    rcases open_ints Tryd.underlying53 Tryd.underlying5 q4 t7 with ⟨hcs, _⟩ | ⟨x, l, c, zs, hcs, _, hl, hm, hz, _, hcell, hwz⟩
    · exact ⟨Sl.nil, [], hcs, .inl ⟨rfl, rfl⟩, by simp⟩
    · have hle : l ≤ zs.length := by rw [hz]; split <;> omega
      have hlen : (zs.take l).length = l := by simp; omega
      exact ⟨⟨some x, l, c⟩, zs.take l, hcs, .inr ⟨_, _, by rw [hlen], ArgInts.of l hle hcell hwz⟩, fun y hy => hwz y (List.mem_of_mem_take hy)⟩
  obtain ⟨s, zs, h7, hi, hw⟩ := key
  obtain ⟨b, rfl⟩ := bytesI_of hw
  have in64 : ∀ x, (Lit.int .i64 x).wf = true → In64 x := fun x hx => by
    have h1 : IntKind.i64.min = -9223372036854775808 := rfl
    have h2 : IntKind.i64.max = 9223372036854775807 := rfl
    simp [Lit.wf, h1, h2] at hx
    exact ⟨by omega, by omega⟩
  refine ⟨⟨a0, a1, a2, a3, a4, a5, po, b⟩, s, fun j v hv => ?_, hi, ⟨in64 _ w0, in64 _ w1, in64 _ w2, in64 _ w3, in64 _ w4, in64 _ w5⟩⟩
  match j, hv with
  | 0, hv => simp [EV.arr] at hv; subst hv; exact one_at h0
  | 1, hv => simp [EV.arr] at hv; subst hv; exact one_at h1
  | 2, hv => simp [EV.arr] at hv; subst hv; exact one_at h2
  | 3, hv => simp [EV.arr] at hv; subst hv; exact one_at h3
  | 4, hv => simp [EV.arr] at hv; subst hv; exact one_at h4
  | 5, hv => simp [EV.arr] at hv; subst hv; exact one_at h5
  | 6, hv => simp [EV.arr] at hv; subst hv; exact one_at h6
  | 7, hv => simp [EV.arr] at hv; subst hv; exact one_at h7
  | j + 8, hv => simp [EV.arr] at hv
theorem evs_open {H : Type} {enc : TypeId × Value → H} {w : World} {base : Nat} {spare : Nat → Bool} {held : Bool} {A : Option Addr} {len cap : Nat} {d : DataW H} {p : List MemPlace}
    (h : DataW.Trod enc Tryd.prog w base spare held 41 (.slice A len cap) d p) : ∃ l ss, l.length = len ∧ len ≤ 9223372036854775807 ∧ EvA w A l ss := by
  obtain ⟨fuel, hf⟩ := h
  have q8 : Tryd.prog.cellsOf 55 = 8 := by kernel_rfl
  rcases open_slice Tryd.underlying41 hf with ⟨hcs, _⟩ | ⟨a, l, c, m, n, D, Pl, hcs, hb, hl, hm, hmm, _, hi⟩
  · simp [Value.cells] at hcs
    obtain ⟨rfl, rfl, rfl⟩ := hcs
    exact ⟨[], [], rfl, by omega, rfl, .inl rfl, fun i e s hi => by simp at hi, by simp⟩
  · simp [Value.cells] at hcs
    obtain ⟨rfl, rfl, rfl⟩ := hcs
    unfold maxLen at hm
    have hlm : len ≤ m := by rw [hmm]; split <;> omega
    have key : ∀ i, ∃ x : EV × Sl, i < len → (∀ (j : Nat) (v : Value), (x.1.arr x.2)[j]? = some v → w.cell? (a.add (i * 8 + j)) = some v) ∧ Ints .u8 w x.2.v (bytesI x.1.b) ∧ x.1.Ok := by
      intro i
      by_cases hil : i < len
      · obtain ⟨cs', hc, ht'⟩ := hi i (by omega)
        rw [q8] at hc
        obtain ⟨e, s, he1, he2, he3⟩ := ev_of_trod ht'
        obtain ⟨_, hlen, hat⟩ := World.cells?_some hc
        refine ⟨(e, s), fun _ => ⟨fun j v hv => ?_, he2, he3⟩⟩
        have hj : j < 8 := (Array.getElem?_eq_some_iff.1 hv).1
        have := hat j hj
        rw [← Go.Deep.add_add, this]
        exact he1 j v hv
      · exact ⟨(EV.zero 0, Sl.nil), fun h => absurd h hil⟩
    obtain ⟨g, hg⟩ : ∃ g : Nat → EV × Sl, ∀ i, i < len → (∀ (j : Nat) (v : Value), ((g i).1.arr (g i).2)[j]? = some v → w.cell? (a.add (i * 8 + j)) = some v) ∧ Ints .u8 w (g i).2.v (bytesI (g i).1.b) ∧ (g i).1.Ok :=
      ⟨fun i => Classical.choose (key i), fun i => Classical.choose_spec (key i)⟩
    have at1 : ∀ (i : Nat) e, ((List.range len).map fun i => (g i).1)[i]? = some e → i < len ∧ (g i).1 = e := fun i e h => by
      rw [List.getElem?_map] at h
      obtain ⟨y, hy, rfl⟩ := Option.map_eq_some_iff.1 h
      obtain ⟨h1, h2⟩ := List.getElem?_eq_some_iff.1 hy
      simp at h1 h2
      subst h2
      exact ⟨h1, rfl⟩
    have at2 : ∀ (i : Nat) s, ((List.range len).map fun i => (g i).2)[i]? = some s → (g i).2 = s := fun i s h => by
      rw [List.getElem?_map] at h
      obtain ⟨y, hy, rfl⟩ := Option.map_eq_some_iff.1 h
      obtain ⟨h1, h2⟩ := List.getElem?_eq_some_iff.1 hy
      simp at h1 h2
      subst h2
      rfl
    refine ⟨(List.range len).map fun i => (g i).1, (List.range len).map fun i => (g i).2, by simp, by omega, by simp, ?_, fun i e s hi hs => ?_, fun e he => ?_⟩
    · by_cases h0 : len = 0
      · left; subst h0; rfl
      · right
        obtain ⟨b, off, spot⟩ := a
        have h00 := (hg 0 (by omega)).1 0 _ rfl
        have hspot : spot = none := by simpa [Addr.add] using World.cell?_spot h00
        subst hspot
        refine ⟨b, off, rfl, fun i e s hi hs j v hv => ?_⟩
        obtain ⟨h1, h2⟩ := at1 i e hi
        have h3 := at2 i s hs
        subst h2 h3
        have := (hg i h1).1 j v hv
        rwa [Go.WideShapes.add_plain, show off + (i * 8 + j) = off + i * 8 + j by omega] at this
    · obtain ⟨h1, h2⟩ := at1 i e hi
      have h3 := at2 i s hs
      subst h2 h3
      exact (hg i h1).2.1
    · obtain ⟨i, hi⟩ := List.getElem?_of_mem he
      obtain ⟨h1, h2⟩ := at1 i e hi
      subst h2
      exact (hg i h1).2.2
end Go.Proofs.YtodlbajpcbdbaaaDoor
namespace Go.Proofs.YtodlbajpcbdbaaaDoor
open Go.RowKit Go.Shelf
set_option linter.unusedVariables false
set_option linter.unusedSimpArgs false
set_option maxRecDepth 100000

set_option maxHeartbeats 4000000 in
theorem law25_Event (e : EV) (s : Sl) (w : World) : Calls Tryd.prog 34 #[.agg (e.arr s)] w fun r w' => r = .returned (.agg (e.arr s)) ∧ Fr [] w w' := by
  obtain ⟨d, fr, tu, n, sap, far, po, b⟩ := e
  go_enter Tryd.func34, Tryd.ntmps34
  go_wp2
  exact bodyPost_ret (v := .agg #[.int .i64 d, .int .i64 fr, .int .i64 tu, .int .i64 n, .int .i64 sap, .int .i64 far, .bool po, .slice s.A s.n s.c]) (by simp [results, Tryd.results34, go_sem]) rfl ⟨rfl, ((Fr.refl _ _).alloc _).alloc _⟩
def anyBig (l : List EV) : Bool := l.any fun e => decide (1100 < e.b.length)
/-- Few and small. -/
def roomM (l : List EV) (most : Int) : Bool := decide ((l.length : Int) ≤ most) && !anyBig l
theorem anyBig_take {l : List EV} {q : Nat} {e : EV} (h : l[q]? = some e) : anyBig (l.take (q + 1)) = (anyBig (l.take q) || decide (1100 < e.b.length)) := by
  obtain ⟨hq, he⟩ := List.getElem?_eq_some_iff.1 h
  unfold anyBig
  rw [List.take_succ_eq_append_getElem hq, he, List.any_append]
  simp
theorem anyBig_mem {l : List EV} {e : EV} (h : e ∈ l) (hb : 1100 < e.b.length) : anyBig l = true := by
  unfold anyBig
  rw [List.any_eq_true]
  exact ⟨e, h, by simp [hb]⟩
set_option maxHeartbeats 4000000 in
theorem law25_Room (w : World) (A : Option Addr) (c : Nat) (l : List EV) (ss : List Sl) (most : Int) (h : EvA w A l ss) (hl : l.length ≤ 9223372036854775807) :
    Calls Tryd.prog 12 #[.slice A l.length c, .int .i64 most] w fun r w' => r = .returned (.bool (roomM l most)) ∧ Fr [] w w' := by
  have H := Lib.hid h
  clear h
  by_cases hm : most < (l.length : Int)
  · have d1 : decide (most < (l.length : Int)) = true := by simp; omega
    have HX : Hid (roomM l most = false) := Lib.hid (by unfold roomM; rw [decide_eq_false (by omega)]; rfl)
    clear hm
    go_enter Tryd.func12, Tryd.ntmps12
    go_wp2
    go_ret
    exact ⟨by rw [HX.out]; rfl, Fr.refl _ _⟩
  · have d1 : decide (most < (l.length : Int)) = false := by simp; omega
    have HM := Lib.hid hm
    clear hm
    go_enter Tryd.func12, Tryd.ntmps12
    go_wp2
    go_loopw [5] (fun i wr => ∃ q : Nat, i = .int .i64 (q : Int) ∧ q ≤ l.length ∧ anyBig (l.take q) = false ∧ Fr [] w wr) (fun i _ => l.length - (intOf i).toNat)
    case atStart => exact ⟨0, rfl, by omega, rfl, Fr.refl _ _⟩
    case round =>
      obtain ⟨q, rfl, hq, hb, hf⟩ := hrel
      have HK := Lib.hid (And.intro hb hf)
      by_cases hlt : q < l.length
      · have d2 : (q : Int) < (l.length : Int) := by omega
        obtain ⟨ev, hev⟩ : ∃ ev, l[q]? = some ev := ⟨_, List.getElem?_eq_getElem hlt⟩
        obtain ⟨s, b, off, hs, hA, hc, hi, -⟩ := H.out.at_ hev
        have c7 := hf.cell (hc 7 _ rfl) (by simp)
        have hn : s.n = ev.b.length := by rw [hi.n']; simp [bytesI]
        obtain ⟨sA, sn, sc⟩ := s
        simp only at hn
        subst hA hn
        have wq : IntKind.i64.wrap ((q : Int) + 1) = (q : Int) + 1 := IntWalk.i64_in _ (by omega)
        have HQ := Lib.hid hev
        clear hb hf hc hi hs hev
        by_cases hbig : 1100 < ev.b.length
        · have d3 : decide ((1100 : Int) < (ev.b.length : Int)) = true := by simp; omega
          have HX : Hid (roomM l most = false) := Lib.hid (by unfold roomM; rw [anyBig_mem (List.mem_of_getElem? HQ.out) hbig]; simp)
          clear hbig
          go_wp2
          go_ret
          exact ⟨by rw [HX.out]; rfl, HK.out.2⟩
        · have d3 : decide ((1100 : Int) < (ev.b.length : Int)) = false := by simp; omega
          have HX : Hid (anyBig (l.take (q + 1)) = false) := Lib.hid (by rw [anyBig_take HQ.out, HK.out.1]; simpa using hbig)
          clear hbig
          go_wp2
          go_roundw
          case rel => exact ⟨q + 1, by go_num, by omega, HX.out, HK.out.2⟩
          case measure => simp [intOf]; omega
      · have hqe : q = l.length := by omega
        subst hqe
        rw [List.take_length] at hb
        have HX : Hid (roomM l most = true) := Lib.hid (by unfold roomM; rw [hb, decide_eq_true (by have := HM.out; omega)]; rfl)
        clear hb hf
        go_wp2
        go_ret
        exact ⟨by rw [HX.out]; rfl, HK.out.2⟩
theorem ev_list_one (e : EV) (s : Sl) : ∀ u ∈ (e.arr s).toList, u.oneCell' = true := by
  intro u hu
  exact (Array.all_eq_true_iff_forall_mem.1 (ev_one e s)) u (by simpa using hu)
set_option maxHeartbeats 4000000 in
theorem law28_Events (w : World) (A : Option Addr) (c : Nat) (l : List EV) (ss : List Sl) (h : EvA w A l ss) (hl : l.length ≤ 1000000) :
    Calls Tryd.prog 14 #[.slice A l.length c] w fun r w' => ∃ sl : Sl, r = .returned (.slice sl.A sl.n sl.c) ∧ ERow w.heap.size w.heap.size sl l w' ∧ Fr [] w w' := by
  obtain ⟨i0, hi0, hz0, hz1, hz2⟩ := info_parts (show (Tryd.prog.info? 63).map (fun i => (i.zero, i.size, i.bytes)) = some (some (.agg ((EV.zero 0).arr Sl.nil)), 8, 80) by kernel_rfl)
  have hun : Tryd.prog.underlying 31 = some (.slice 63) := Tryd.underlying31
  have H := Lib.hid h
  clear h
  go_enter Tryd.func14, Tryd.ntmps14
  go_wp2
  go_loopw [3, 4] (fun wv i wr => ∃ (q : Nat) (sl : Sl), wv = .slice sl.A sl.n sl.c ∧ i = .int .i64 (q : Int) ∧ q ≤ l.length ∧ ERow w.heap.size w.heap.size sl (l.take q) wr ∧ Fr [] w wr) (fun _ i _ => l.length - (intOf i).toNat)
  case atStart => exact ⟨0, Sl.nil, rfl, rfl, by omega, RowG.nil, Fr.refl _ _⟩
  case round =>
    obtain ⟨q, sl, rfl, rfl, hq, hrow, hf⟩ := hrel
    have HK := Lib.hid (And.intro hrow hf)
    by_cases hlt : q < l.length
    · have d2 : (q : Int) < (l.length : Int) := by omega
      obtain ⟨ev, hev⟩ : ∃ ev, l[q]? = some ev := ⟨_, List.getElem?_eq_getElem hlt⟩
      obtain ⟨s, b, off, hs, hA, hc, hi, -⟩ := H.out.at_ hev
      have cz : ∀ j v, (ev.arr s)[j]? = some v → wr.cell? ⟨b, off + q * 8 + j, none⟩ = some v := fun j v hv => hf.cell (hc j v hv) (by simp)
      have c0 := cz 0 _ rfl
      have c1 := cz 1 _ rfl
      have c2 := cz 2 _ rfl
      have c3 := cz 3 _ rfl
      have c4 := cz 4 _ rfl
      have c5 := cz 5 _ rfl
      have c6 := cz 6 _ rfl
      have c7 := cz 7 _ rfl
      rw [Nat.add_zero] at c0
      subst hA
      have wq : IntKind.i64.wrap ((q : Int) + 1) = (q : Int) + 1 := IntWalk.i64_in _ (by omega)
      have HQ := Lib.hid (And.intro hev (Bts.arg hi))
      have hce := law25_Event ev s wr
      clear hrow hf hc hi hs hev cz
      go_wp2_with fail
      refine hce.mono ?_
      rintro e w6 ⟨rfl, f6⟩
      have HF := Lib.hid (And.intro (HK.out.2.tr f6) (ERow.fr f6 HK.out.1))
      obtain ⟨xs, hown, hall, hlen⟩ := HF.out.2
      have hbw : w.heap.size ≤ w6.heap.size := HF.out.1.size
      have hlq : (l.take q).length = q := by rw [List.length_take]; omega
      rw [hlq] at hown
      have HO := Lib.hid (And.intro hown (And.intro hall hlen))
      clear f6 hce c0 c1 c2 c3 c4 c5 c6 c7 hown hall hlen
      go_wp2_with (at_builtin; refine wpList_append_src rfl _ _ 31 rfl (w.heap.size) 63 i0 (.agg ((EV.zero 0).arr Sl.nil)) 8 80 hun hi0 hz0 hz1 hz2 rfl (by decide) _ _ _ rfl (HO.out.1.alloc _) _ 1 (ev.arr s).toList rfl Src.one rfl (ev_list_one ev s) (by unfold maxLen; omega) (by omega) (by first | (simp; done) | (simp; omega)) ?_)
      intro v' w8 hown8 hgrow
      obtain ⟨sn, rfl⟩ := own_sl' hown8
      have HN : Hid (ERow w.heap.size w.heap.size sn (l.take (q + 1)) w8 ∧ Fr [] w w8) := Lib.hid (by
        have fg : Fr [] w w8 := (HF.out.1.alloc (.cells (ev.arr s) 63)).grown hgrow (fun k hk => .inr (HO.out.1.lt k hk).1)
        obtain ⟨hq2, he2⟩ := List.getElem?_eq_some_iff.1 HQ.out.1
        refine ⟨?_, fg⟩
        rw [List.take_succ_eq_append_getElem hq2, he2]
        have fr8 : Fr sl.blk (w6.alloc (.cells (ev.arr s) 63)) w8 := Fr.grownL hgrow
        have hoff : ∀ x ∈ sl.blk, w.heap.size ≤ x ∧ ∀ cs fz, (w6.alloc (.cells (ev.arr s) 63)).heap[x]? ≠ some (.cells cs 5 fz) := fun x hx => by
          obtain ⟨h1, cs, h2⟩ := own_blk (HO.out.1.alloc (.cells (ev.arr s) 63)) x hx
          exact ⟨h1, fun cs' fz e => by rw [h2] at e; cases e⟩
        refine RowG.push (w := w6) (xs := xs) (cs := (ev.arr s).toList) HO.out.2.1 HO.out.2.2 (by rw [hlq]; exact hown8) (fun cs d ⟨sd, e1, hb1⟩ => ⟨sd, e1, (hb1.fr ((Fr.refl [] _).alloc _)).frL fr8 hoff⟩) rfl ⟨s, rfl, HQ.out.2.fr fg⟩)
      clear hown8 hgrow
      go_wp2
      go_roundw
      case rel => exact ⟨q + 1, sn, rfl, by go_num, by omega, HN.out⟩
      case measure => simp [intOf]; omega
    · have hqe : q = l.length := by omega
      subst hqe
      rw [List.take_length] at hrow
      have HX := Lib.hid (And.intro hrow hf)
      clear hrow hf
      go_wp2
      go_ret
      exact ⟨sl, rfl, HX.out⟩
end Go.Proofs.YtodlbajpcbdbaaaDoor
namespace Go.Proofs.YtodlbajpcbdbaaaDoor
open Go.Lib
set_option linter.unusedVariables false
set_option linter.unusedSimpArgs false
set_option maxRecDepth 100000

/-- The lines that are not so (without their ends). -/
def badsM : List (List UInt8) := [[], [116, 105, 99, 107], [84, 73, 67, 75, 32, 49], [32, 116, 105, 99, 107, 32, 49], [116, 105, 99, 107, 32, 48, 49], [111, 108, 100, 101, 114, 32, 49], [115, 101, 110, 100, 32, 48, 32, 49, 32, 52, 32, 56, 32, 97, 98, 99], [97, 115, 107, 32, 48, 32, 49, 32, 52, 32, 56, 32, 50, 32, 45], [115, 104, 117, 116, 32, 45, 48, 32, 52], [112, 97, 115, 115, 32, 49], [116, 105, 99, 107, 32, 49, 32]]
def badsV : Array Value := (badsM.map fun b => Value.string ⟨(b ++ [10]).toArray⟩).toArray
theorem bads_ok : (badsM.all fun b => (eventM (splitc 32 b)).isNone && !b.contains 10 && decide (b.length ≤ 16)) = true := by decide +kernel
theorem bad_ok {b : List UInt8} (h : b ∈ badsM) : eventM (splitc 32 b) = none ∧ (10 : UInt8) ∉ b ∧ b.length ≤ 16 := by
  have := List.all_eq_true.1 bads_ok b h
  simp only [Bool.and_eq_true, Option.isNone_iff_eq_none, Bool.not_eq_true', decide_eq_true_eq] at this
  obtain ⟨⟨h1, h2⟩, h3⟩ := this
  refine ⟨h1, fun hm => ?_, h3⟩
  rw [List.contains_iff_mem.2 hm] at h2
  cases h2
theorem anyNo_app (a b : List EV) : anyNo (a ++ b) = (anyNo a || anyNo b) := by unfold anyNo; rw [List.any_append]
theorem textM_app (c : List Int) (a b : List EV) : textM c (a ++ b) = textM c a ++ b.flatMap lineD := by unfold textM; rw [List.flatMap_append, List.append_assoc]
theorem textM_drop (c : List Int) (l : List EV) : (textM c l).drop ((headX c).length + 1) = l.flatMap lineD := by
  unfold textM
  rw [show headM c = headX c ++ [10] from rfl, List.append_assoc]
  rw [show (headX c).length + 1 = (headX c ++ [10]).length by simp, ← List.append_assoc, List.drop_left]
theorem flat_lines (l : List EV) (h : anyNo l = false) : l.flatMap lineD = ((l.map lineX).map (· ++ [10])).flatten := by
  have h1 := textM_lines [] l h
  unfold textM at h1
  rw [List.map_cons, List.flatten_cons] at h1
  exact List.append_cancel_left h1
theorem goL_bad (c : List Int) (b : List UInt8) (r : List (List UInt8)) (hb : eventM (splitc 32 b) = none) : ∀ (l : List EV) (i : Nat) (acc : List EV), (∀ e ∈ l, e.Ok) → anyNo l = false → goL (i + 1) (l.map lineX ++ b :: r) c acc = .error (((i + l.length : Nat) : Int) + 2, 12)
  | [], i, acc, _, _ => by
    show goL (i + 1) (b :: r) c acc = _
    rw [goL, hb]
    simp
  | e :: l, i, acc, ho, hn => by
    unfold anyNo at hn
    rw [List.any_cons, Bool.or_eq_false_iff] at hn
    rw [List.map_cons, List.cons_append, goL, eventM_lineX (ho e (by simp)) (by have := hn.1; cases h : findD e.d with | some s => rfl | none => rw [h] at this; simp at this)]
    simp only
    rw [goL_bad c b r hb l (i + 1) (acc ++ [spareE e]) (fun x hx => ho x (List.mem_cons_of_mem _ hx)) hn.2, List.length_cons, show i + 1 + l.length = i + (l.length + 1) by omega]
/-- The good lines together. -/
theorem parse_both {c : List Int} {l1 l2 : List EV} (hc : c.length = 17) (hi : ∀ x ∈ c, In64 x) (ho : ∀ e ∈ l1 ++ l2, e.Ok) (h1 : anyNo l1 = false) (h2 : anyNo l2 = false) (hl : (l1 ++ l2).length ≤ 2047) (ht : (textM c l1 ++ l2.flatMap lineD).length ≤ 65536) :
    parseM (textM c l1 ++ l2.flatMap lineD) = .ok (c, (l1 ++ l2).map spareE) := by
  rw [← textM_app] at ht ⊢
  exact parse_print hc hi ho (printM_ok (by rw [anyNo_app, h1, h2]; rfl) (by omega) (by omega))
/-- .. and with one among them that is not so. -/
theorem parse_bad {c : List Int} {l1 l2 : List EV} {b : List UInt8} (hb : b ∈ badsM) (hc : c.length = 17) (hi : ∀ x ∈ c, In64 x) (ho : ∀ e ∈ l1, e.Ok) (h1 : anyNo l1 = false) (h2 : anyNo l2 = false) (hl : l1.length + l2.length ≤ 2000)
    (ht : (textM c l1 ++ (b ++ [10]) ++ l2.flatMap lineD).length ≤ 65536) :
    parseM (textM c l1 ++ (b ++ [10]) ++ l2.flatMap lineD) = .error ((l1.length : Int) + 2, 12) := by
  obtain ⟨b1, b2, b3⟩ := bad_ok hb
  have hs : splitc 10 (textM c l1 ++ (b ++ [10]) ++ l2.flatMap lineD) = (headX c :: (l1.map lineX ++ b :: l2.map lineX)) ++ [[]] := by
    rw [textM_lines c l1 h1, flat_lines l2 h2]
    have := splitc_lines 10 (headX c :: (l1.map lineX ++ b :: l2.map lineX)) [] (fun x hx => by
      rcases List.mem_cons.1 hx with rfl | hx
      · exact headX_no10 c
      · rcases List.mem_append.1 hx with hx | hx
        · obtain ⟨e, _, rfl⟩ := List.mem_map.1 hx; exact lineX_no10 e
        · rcases List.mem_cons.1 hx with rfl | hx
          · exact b2
          · obtain ⟨e, _, rfl⟩ := List.mem_map.1 hx; exact lineX_no10 e) (by simp)
    rw [List.append_nil] at this
    rw [← this]
    congr 1
    simp [List.append_assoc]
  generalize textM c l1 ++ (b ++ [10]) ++ l2.flatMap lineD = t at hs ht ⊢
  have hn : lineN t = l1.length + l2.length + 2 := by unfold lineN; rw [hs]; simp; omega
  have hla : lastL t = [] := by
    unfold lastL
    rw [hn, hs, List.getD_eq_getElem?_getD, List.getElem?_append_right (by simp; omega)]
    simp
    rw [show l1.length + l2.length + 1 - (l1.length + (l2.length + 1)) = 0 by omega]
    rfl
  unfold parseM
  rw [hn, hla, if_neg (by
    unfold longB
    simp
    omega), hs]
  rw [List.take_left' (by simp; omega), goL, configM_headX c hc hi]
  simp only
  rw [show (1 : Nat) = 0 + 1 from rfl, goL_bad c b _ b1 l1 0 [] ho h1, Nat.zero_add]
  rfl
end Go.Proofs.YtodlbajpcbdbaaaDoor
namespace Go.Proofs.YtodlbajpcbdbaaaDoor
open Go.RowKit Go.Shelf
set_option linter.unusedVariables false
set_option linter.unusedSimpArgs false
set_option maxRecDepth 100000

def ACap (A : Option Addr) (n cap : Nat) : Prop := (A = none ∧ n = 0 ∧ cap = 0) ∨ (A ≠ none ∧ n ≤ cap ∧ cap ≤ maxLen)
def loA (A : Option Addr) (cap : Nat) : Option Addr := if cap = 0 then A else A.map (·.add (0 * 8))
def hiA (A : Option Addr) (k cap : Nat) : Option Addr := if cap = k then A else A.map (·.add (k * 8))
theorem size_ev (w : World) : (sizeOf (Tryd.prog.elem 41)).run Tryd.prog w = .ok 8 w := by kernel_rfl
theorem ev_lo (w : World) (A : Option Addr) (n cap k : Nat) (hk : k ≤ n) (hc : ACap A n cap) :
    (Instr.slice 41 (.slice A n cap) none (some (.int .i64 (k : Int))) none).run Tryd.prog w = .ok (.slice (loA A cap) k cap) w := by
  have hkc : k ≤ cap := by rcases hc with ⟨_, h1, h2⟩ | ⟨_, h1, _⟩ <;> omega
  rw [run_slice_h w _ A n cap (by kernel_rfl) .i64 (k : Int) (by omega) (by omega), size_ev]
  simp only [Result.andThen_ok, sliced, Int.toNat_natCast, Nat.sub_zero]
  rfl
theorem ev_hi (w : World) (A : Option Addr) (n cap k : Nat) (hk : k ≤ n) (hc : ACap A n cap) :
    (Instr.slice 41 (.slice A n cap) (some (.int .i64 (k : Int))) none none).run Tryd.prog w = .ok (.slice (hiA A k cap) (n - k) (cap - k)) w := by
  rw [run_slice_l w _ A n cap (by kernel_rfl) .i64 (k : Int) (by omega) (by omega), size_ev]
  simp only [Result.andThen_ok, sliced, Int.toNat_natCast]
  rfl
theorem EvA.lo {w : World} {A : Option Addr} {l : List EV} {ss : List Sl} {cap : Nat} (h : EvA w A l ss) (hc : ACap A l.length cap) (k : Nat) (hk : k ≤ l.length) : EvA w (loA A cap) (l.take k) (ss.take k) := by
  refine ⟨by rw [List.length_take, List.length_take, h.len], ?_, fun i e s hi hs => ?_, fun e he => h.ok e (List.mem_of_mem_take he)⟩
  · rcases h.cell with h0 | ⟨b, off, hA, hcl⟩
    · left; rw [h0]; simp
    · by_cases hk0 : k = 0
      · left; rw [hk0]; simp
      · right
        subst hA
        have hcap : cap ≠ 0 := by rcases hc with ⟨h1, _⟩ | ⟨_, h1, _⟩; cases h1; omega
        refine ⟨b, off, by unfold loA; rw [if_neg hcap]; simp [Go.WideShapes.add_plain], fun i e s hi hs j v hv => ?_⟩
        rw [List.getElem?_take] at hi hs
        split at hi
        · rename_i hik
          rw [if_pos hik] at hs
          exact hcl i e s hi hs j v hv
        · cases hi
  · rw [List.getElem?_take] at hi hs
    split at hi
    · rename_i hik
      rw [if_pos hik] at hs
      exact h.bts i e s hi hs
    · cases hi
theorem EvA.hi {w : World} {A : Option Addr} {l : List EV} {ss : List Sl} {cap : Nat} (h : EvA w A l ss) (hc : ACap A l.length cap) (k : Nat) (hk : k ≤ l.length) : EvA w (hiA A k cap) (l.drop k) (ss.drop k) := by
  refine ⟨by rw [List.length_drop, List.length_drop, h.len], ?_, fun i e s hi hs => ?_, fun e he => h.ok e (List.mem_of_mem_drop he)⟩
  · rcases h.cell with h0 | ⟨b, off, hA, hcl⟩
    · left; rw [h0]; simp
    · by_cases hk0 : k = l.length
      · left; rw [hk0]; simp
      · right
        subst hA
        have hcap : cap ≠ k := by rcases hc with ⟨h1, _⟩ | ⟨_, h1, _⟩; cases h1; omega
        refine ⟨b, off + k * 8, by unfold hiA; rw [if_neg hcap]; simp [Go.WideShapes.add_plain], fun i e s hi hs j v hv => ?_⟩
        rw [List.getElem?_drop] at hi hs
        have := hcl (k + i) e s hi hs j v hv
        rwa [show off + (k + i) * 8 + j = off + k * 8 + i * 8 + j by omega] at this
  · rw [List.getElem?_drop] at hi hs
    exact h.bts (k + i) e s hi hs
/-- What Print hands out, as two values. -/
def prS (c : List Int) (l : List EV) : ByteArray := match printM c l with | .ok t => ⟨t.toArray⟩ | .error _ => ByteArray.empty
def prN (c : List Int) (l : List EV) : Int := match printM c l with | .ok _ => 0 | .error x => x
theorem PrPost.pair {c : List Int} {l : List EV} {e : Ending} (h : PrPost c l e) : e = .returned (.tuple #[.string (prS c l), .int .i64 (prN c l)]) := by
  unfold PrPost at h
  unfold prS prN
  cases hp : printM c l <;> (rw [hp] at h; exact h)
theorem prN_zero {c : List Int} {l : List EV} (h : prN c l = 0) : printM c l = .ok (textM c l) ∧ prS c l = ⟨(textM c l).toArray⟩ := by
  cases hp : printM c l with
  | ok t =>
    obtain ⟨_, _, _, rfl⟩ := printM_inv hp
    exact ⟨rfl, by unfold prS; rw [hp]⟩
  | error x =>
    exfalso
    unfold prN at h
    rw [hp] at h
    unfold printM at hp
    split at hp
    · cases hp; cases h
    · split at hp
      · cases hp; cases h
      · split at hp <;> cases hp
        cases h
theorem text_at {c : List Int} {m : List EV} {s : ByteArray} {K q : Nat} (h : (⟨(textM c m).toArray⟩ : ByteArray) = s) (hK : (headX c).length = K) (hq : q < K) (hs : q < s.size) : ((s[q].toNat : Int) != 10) = true := by
  subst h
  have h1 : (textM c m)[q]? = (headX c)[q]? := by
    unfold textM
    rw [show headM c = headX c ++ [10] from rfl, List.append_assoc, List.getElem?_append_left (by omega)]
  have h2 : (textM c m)[q]'hs = (headX c)[q]'(by omega) := by
    rw [List.getElem?_eq_getElem hs, List.getElem?_eq_getElem (by omega)] at h1
    exact Option.some.inj h1
  have h3 : (headX c)[q]'(by omega) ≠ 10 := fun e => headX_no10 c (by rw [← e]; exact List.getElem_mem _)
  show ((((textM c m)[q]'hs).toNat : Int) != 10) = true
  rw [h2]
  rw [bne_iff_ne]
  intro e
  exact h3 (UInt8.toNat.inj (by rw [show (10 : UInt8).toNat = 10 from rfl]; omega))
theorem text_end {c : List Int} {m : List EV} {s : ByteArray} {K : Nat} (h : (⟨(textM c m).toArray⟩ : ByteArray) = s) (hK : (headX c).length = K) (hs : K < s.size) : ((s[K].toNat : Int) != 10) = false := by
  subst h
  have h1 : (textM c m)[K]? = some 10 := by
    unfold textM
    rw [show headM c = headX c ++ [10] from rfl, List.append_assoc, List.getElem?_append_right (by omega), hK]
    simp
  have h2 : (textM c m)[K]'hs = 10 := by
    rw [List.getElem?_eq_getElem hs] at h1
    exact Option.some.inj h1
  show ((((textM c m)[K]'hs).toNat : Int) != 10) = false
  rw [h2]
  rfl
theorem text_rest {c : List Int} {m : List EV} {s : ByteArray} {K k1 : Nat} (h : (⟨(textM c m).toArray⟩ : ByteArray) = s) (hK : (headX c).length = K) (h1 : K + 1 = k1) : (s.extract k1 s.size).bytes = m.flatMap lineD := by
  have h2 := textM_drop c m
  rw [hK, h1] at h2
  rw [← h2]
  subst h
  unfold ByteArray.bytes
  rw [ByteArray.data_extract, Array.toList_extract]
  show ((textM c m).drop k1).take ((textM c m).toArray.size - k1) = _
  rw [List.take_of_length_le (by rw [List.length_drop]; simp)]
theorem u16_and15 (W : Int) (h : 0 ≤ W ∧ W < 65536) : bits .and .u16 W 15 = W % 16 := by
  have key : (BitVec.ofInt 16 W &&& BitVec.ofInt 16 15).toNat = (W % ((2 ^ 16 : Nat) : Int)).toNat % 2 ^ 4 := by
    rw [BitVec.toNat_and, BitVec.toNat_ofInt, show (BitVec.ofInt 16 15).toNat = 2 ^ 4 - 1 from by decide, Nat.and_two_pow_sub_one_eq_mod]
  show IntKind.u16.wrap ((BitVec.ofInt 16 W &&& BitVec.ofInt 16 15).toNat : Nat) = W % 16
  rw [key]
  have h1 : ((W % ((2 ^ 16 : Nat) : Int)).toNat % 2 ^ 4 : Nat) = (W % 16).toNat := by omega
  rw [h1]
  have h2 : ((W % 16).toNat : Int) = W % 16 := by omega
  rw [h2]
  unfold IntKind.wrap
  simp [IntKind.bits, IntKind.signed]
  omega
/-- A new block's address, laid behind so many. -/
def NewB (N : Nat) (t : TypeId) (cs : Array Value) : World → Value → Prop := fun w v => ∃ b, v = .pointer (some ⟨b, 0, none⟩) ∧ Blk w b cs t ∧ N ≤ b
theorem NewB.keeps {N : Nat} {t : TypeId} {cs : Array Value} : Keeps [] (NewB N t cs) := fun _ _ _ f ⟨b, e, hb, h⟩ => ⟨b, e, hb.fr f (by simp), h⟩
/-- A slice of events, as a fact of a value. -/
def EvF (l : List EV) : World → Value → Prop := fun w v => ∃ (sl : Sl) (N : Nat), v = .slice sl.A sl.n sl.c ∧ ERow N 0 sl l w ∧ N ≤ w.heap.size
theorem EvF.keeps {l : List EV} : Keeps [] (EvF l) := fun _ _ _ f ⟨sl, N, e, h, hN⟩ => ⟨sl, N, e, ERow.fr f h, Nat.le_trans hN f.size⟩
end Go.Proofs.YtodlbajpcbdbaaaDoor
namespace Go.Proofs.YtodlbajpcbdbaaaDoor
open Go.RowKit Go.Shelf
set_option linter.unusedVariables false
set_option linter.unusedSimpArgs false
set_option maxRecDepth 100000

set_option maxRecDepth 100000 in
set_option maxHeartbeats 8000000 in
theorem r28_SameEvent (w : World) (e : EV) (s1 s2 : Sl) (N1 N2 : Nat) (h1 : Bts N1 w s1 (bytesI e.b)) (h2 : Bts N2 w s2 (bytesI e.b)) :
    Calls Tryd.prog 26 #[.agg (e.arr s1), .agg (e.arr s2)] w fun r w' => r = .returned (.bool true) ∧ Fr [] w w' := by
  have hc1 := conv_bts ((h1.fr ((Fr.refl [] w).alloc (.cells (e.arr s1) 55))).fr ((Fr.refl [] _).alloc (.cells (e.arr s2) 55)))
  have hc2 := conv_bts ((h2.fr ((Fr.refl [] w).alloc (.cells (e.arr s1) 55))).fr ((Fr.refl [] _).alloc (.cells (e.arr s2) 55)))
  obtain ⟨d, fr, tu, n, sap, far, po, b⟩ := e
  clear h1 h2
  go_enter Tryd.func26, Tryd.ntmps26
  go_wp2
  go_ret
  exact ⟨rfl, ((Fr.refl _ _).alloc _).alloc _⟩
theorem build_ev (d fr tu n sap far : Int) (po : Bool) (A : Option Addr) (m c : Nat) (w : World) : (Instr.build 55 #[(0, .int .i64 d), (1, .int .i64 fr), (2, .int .i64 tu), (3, .int .i64 n), (4, .int .i64 sap), (5, .int .i64 far), (6, .bool po), (7, .slice A m c)]).run Tryd.prog w = .ok (.agg #[.int .i64 d, .int .i64 fr, .int .i64 tu, .int .i64 n, .int .i64 sap, .int .i64 far, .bool po, .slice A m c]) w := by kernel_rfl
theorem wp_build {P : Program} {o : Oper} {a : Act} {w : World} {K : Act → World → Prop} {Q : Exit → Act → World → Prop} (t : TypeId) (parts : Array (Nat × Operand)) (v : Value) (ho : o.op = .build t parts)
    (hr : (Instr.build t (parts.map fun x => (x.1, a.eval x.2))).run P w = .ok v w) (h : K (a.put o.dst v) w) : o.wp P a w K Q := by
  unfold Oper.wp execOp
  simp only [ho, Sem.run_bind, Sem.run_pure, hr, Result.andThen_ok]
  exact h
/-- A row of the reference's events. -/
def RRow (N B : Nat) (s : Sl) (l : List EV) (w : World) : Prop := RowG 55 8 (repE N) B w s l
theorem RRow.fr {N B : Nat} {s : Sl} {l : List EV} {w w' : World} (f : Fr [] w w') (h : RRow N B s l w) : RRow N B s l w' := RowG.fr (fun _ _ ⟨s, e, hb⟩ => ⟨s, e, hb.fr f⟩) h f
theorem RRow.get {N B : Nat} {s : Sl} {l : List EV} {w : World} (h : RRow N B s l w) {k : Nat} {e : EV} (hk : l[k]? = some e) :
    ∃ b sd, s.A = some ⟨b, 0, none⟩ ∧ Bts N w sd (bytesI e.b) ∧ w.cell? ⟨b, k * 8, none⟩ = some (.int .i64 e.d) ∧ w.cell? ⟨b, k * 8 + 1, none⟩ = some (.int .i64 e.fr) ∧ w.cell? ⟨b, k * 8 + 2, none⟩ = some (.int .i64 e.to) ∧ w.cell? ⟨b, k * 8 + 3, none⟩ = some (.int .i64 e.n) ∧ w.cell? ⟨b, k * 8 + 4, none⟩ = some (.int .i64 e.sap) ∧ w.cell? ⟨b, k * 8 + 5, none⟩ = some (.int .i64 e.far) ∧ w.cell? ⟨b, k * 8 + 6, none⟩ = some (.bool e.po) ∧ w.cell? ⟨b, k * 8 + 7, none⟩ = some (.slice sd.A sd.n sd.c) := by
  obtain ⟨b, x, h1, h2, ⟨sd, rfl, hb⟩, hc⟩ := RowG.get h hk
  exact ⟨b, sd, h1, hb, hc 0 (by decide), hc 1 (by decide), hc 2 (by decide), hc 3 (by decide), hc 4 (by decide), hc 5 (by decide), hc 6 (by decide), hc 7 (by decide)⟩
set_option maxRecDepth 100000 in
set_option maxHeartbeats 8000000 in
theorem law28_same (w : World) (l : List EV) (sl1 sl2 : Sl) (N1 B1 N2 B2 : Nat) (h1 : ERow N1 B1 sl1 l w) (h2 : RRow N2 B2 sl2 l w) (hl : l.length ≤ 1000000) :
    Calls Tryd.prog 11 #[.slice sl1.A sl1.n sl1.c, .slice sl2.A sl2.n sl2.c] w fun r w' => r = .returned (.bool true) ∧ Fr [] w w' := by
  have hn1 := RowG.n h1
  have hn2 := RowG.n h2
  rw [hn1, hn2]
  have H := Lib.hid (And.intro h1 h2)
  clear h1 h2 hn1 hn2
  go_enter Tryd.func11, Tryd.ntmps11
  go_wp2
  go_loopw [5] (fun i wr => ∃ k : Nat, i = .int .i64 (k : Int) ∧ k ≤ l.length ∧ Fr [] w wr) (fun i _ => l.length - (intOf i).toNat)
  case atStart => exact ⟨0, rfl, by omega, Fr.refl _ _⟩
  case round =>
    obtain ⟨k, rfl, hk, hf⟩ := hrel
    have HK := Lib.hid hf
    by_cases hlt : k < l.length
    · have d1 : (k : Int) < (l.length : Int) := by omega
      have wq : IntKind.i64.wrap ((k : Int) + 1) = (k : Int) + 1 := IntWalk.i64_in _ (by omega)
      obtain ⟨e, he⟩ : ∃ e, l[k]? = some e := ⟨_, List.getElem?_eq_getElem hlt⟩
      obtain ⟨b1, s1, hA1, ht1, x0, x1, x2, x3, x4, x5, x6, x7⟩ := (ERow.fr hf H.out.1).get he
      obtain ⟨b2, s2, hA2, ht2, y0, y1, y2, y3, y4, y5, y6, y7⟩ := (RRow.fr hf H.out.2).get he
      have k1 : ∀ wx, Fr [] wr wx → wx.cell? ⟨b1, k * 8, none⟩ = some (.int .i64 e.d) ∧ wx.cell? ⟨b1, k * 8 + 1, none⟩ = some (.int .i64 e.fr) ∧ wx.cell? ⟨b1, k * 8 + 2, none⟩ = some (.int .i64 e.to) ∧ wx.cell? ⟨b1, k * 8 + 3, none⟩ = some (.int .i64 e.n) ∧ wx.cell? ⟨b1, k * 8 + 4, none⟩ = some (.int .i64 e.sap) ∧ wx.cell? ⟨b1, k * 8 + 5, none⟩ = some (.int .i64 e.far) ∧ wx.cell? ⟨b1, k * 8 + 6, none⟩ = some (.bool e.po) ∧ wx.cell? ⟨b1, k * 8 + 7, none⟩ = some (.slice s1.A s1.n s1.c) := fun wx f => ⟨f.cell x0 (by simp), f.cell x1 (by simp), f.cell x2 (by simp), f.cell x3 (by simp), f.cell x4 (by simp), f.cell x5 (by simp), f.cell x6 (by simp), f.cell x7 (by simp)⟩
      have K2 : Hid (∀ wx, Fr [] wr wx → wx.cell? ⟨b2, k * 8, none⟩ = some (.int .i64 e.d) ∧ wx.cell? ⟨b2, k * 8 + 1, none⟩ = some (.int .i64 e.fr) ∧ wx.cell? ⟨b2, k * 8 + 2, none⟩ = some (.int .i64 e.to) ∧ wx.cell? ⟨b2, k * 8 + 3, none⟩ = some (.int .i64 e.n) ∧ wx.cell? ⟨b2, k * 8 + 4, none⟩ = some (.int .i64 e.sap) ∧ wx.cell? ⟨b2, k * 8 + 5, none⟩ = some (.int .i64 e.far) ∧ wx.cell? ⟨b2, k * 8 + 6, none⟩ = some (.bool e.po) ∧ wx.cell? ⟨b2, k * 8 + 7, none⟩ = some (.slice s2.A s2.n s2.c)) := Lib.hid fun wx f => ⟨f.cell y0 (by simp), f.cell y1 (by simp), f.cell y2 (by simp), f.cell y3 (by simp), f.cell y4 (by simp), f.cell y5 (by simp), f.cell y6 (by simp), f.cell y7 (by simp)⟩
      have HT := Lib.hid (And.intro ht1 ht2)
      rw [hA1, hA2]
      clear hf x0 x1 x2 x3 x4 x5 x6 x7 y0 y1 y2 y3 y4 y5 y6 y7 ht1 ht2 hA1 hA2 he
      go_upto_region 6 with fail
      refine wp_region_keepsU [] [Is (.slice (some ⟨b1, 0, none⟩) l.length sl1.c), Is (.int .i64 (k : Int)), Is (.pointer (some ⟨b1, k * 8, none⟩)), Is (.pointer (some ⟨b1, k * 8, none⟩)), Is (.int .i64 e.d), Is (.slice (some ⟨b1, 0, none⟩) l.length sl1.c), Is (.int .i64 (k : Int)), Is (.pointer (some ⟨b1, k * 8, none⟩)), Is (.pointer (some ⟨b1, k * 8 + 1, none⟩)), Is (.int .i64 e.fr), Is (.slice (some ⟨b1, 0, none⟩) l.length sl1.c), Is (.int .i64 (k : Int)), Is (.pointer (some ⟨b1, k * 8, none⟩)), Is (.pointer (some ⟨b1, k * 8 + 2, none⟩)), Is (.int .i64 e.to), Is (.slice (some ⟨b1, 0, none⟩) l.length sl1.c), Is (.int .i64 (k : Int)), Is (.pointer (some ⟨b1, k * 8, none⟩)), Is (.pointer (some ⟨b1, k * 8 + 3, none⟩)), Is (.int .i64 e.n), Is (.slice (some ⟨b1, 0, none⟩) l.length sl1.c), Is (.int .i64 (k : Int)), Is (.pointer (some ⟨b1, k * 8, none⟩)), Is (.pointer (some ⟨b1, k * 8 + 4, none⟩)), Is (.int .i64 e.sap), Is (.slice (some ⟨b1, 0, none⟩) l.length sl1.c), Is (.int .i64 (k : Int)), Is (.pointer (some ⟨b1, k * 8, none⟩)), Is (.pointer (some ⟨b1, k * 8 + 5, none⟩)), Is (.int .i64 e.far), Is (.slice (some ⟨b1, 0, none⟩) l.length sl1.c), Is (.int .i64 (k : Int)), Is (.pointer (some ⟨b1, k * 8, none⟩)), Is (.pointer (some ⟨b1, k * 8 + 6, none⟩)), Is (.bool e.po), Is (.slice (some ⟨b1, 0, none⟩) l.length sl1.c), Is (.int .i64 (k : Int)), Is (.pointer (some ⟨b1, k * 8, none⟩)), Is (.pointer (some ⟨b1, k * 8 + 7, none⟩)), Is (.slice s1.A s1.n s1.c), Is (.agg (e.arr s1)), NewB wr.heap.size 55 #[.int .i64 0, .int .i64 0, .int .i64 0, .int .i64 0, .int .i64 0, .int .i64 0, .bool false, .slice none 0 0]] 42 (by kernel_rfl) (by kernel_rfl) (by kernel_rfl) (by kernel_rfl) (by kernel_rfl) (by kernel_rfl) ?hV ?hS ?hD
      case hV =>
        repeat (first | exact trivial | exact Is.keeps _ | exact Any.keeps | exact IsSl.keeps _ _ _ | exact NewB.keeps | refine And.intro ?_ ?_)
      case hS =>
        (repeat' (first | exact trivial | refine And.intro ?_ ?_))
        rotate_right 2
        · as_aux_lemma =>
            intro ac wx hf hs hp K hK
            simp only [zA, Region.binds, Nat.reduceAdd] at hp
            have e0 := hs 0 (by kernel_rfl)
            have e5 := hs 5 (by kernel_rfl)
            simp only [Array.getD_eq_getD_getElem?, List.getElem?_toArray, List.getElem?_cons_succ, List.getElem?_cons_zero, Option.getD_some] at e0 e5
            clear hs
            obtain ⟨q0, q1, q2, q3, q4, q5, q6, q7⟩ := hp
            refine wp_build 55 #[(0, Operand.tmp 22), (1, Operand.tmp 27), (2, Operand.tmp 32), (3, Operand.tmp 37), (4, Operand.tmp 42), (5, Operand.tmp 47), (6, Operand.tmp 52), (7, Operand.tmp 57)] (.agg (e.arr s1)) rfl ?_ ?_
            · rw [show (#[(0, Operand.tmp 22), (1, Operand.tmp 27), (2, Operand.tmp 32), (3, Operand.tmp 37), (4, Operand.tmp 42), (5, Operand.tmp 47), (6, Operand.tmp 52), (7, Operand.tmp 57)] : Array (Nat × Operand)).map (fun x => (x.1, ac.eval x.2)) = #[(0, Value.int .i64 e.d), (1, Value.int .i64 e.fr), (2, Value.int .i64 e.to), (3, Value.int .i64 e.n), (4, Value.int .i64 e.sap), (5, Value.int .i64 e.far), (6, Value.bool e.po), (7, Value.slice s1.A s1.n s1.c)] from by simp [Act.eval, q0, q1, q2, q3, q4, q5, q6, q7]]
              exact build_ev _ _ _ _ _ _ _ _ _ _ _
            refine hK.out _ _ (Fr.refl _ _) ?_
            simp only [nth]
            (unfold Is; rfl)
        all_goals (as_aux_lemma =>
          intro ac wx hf hs hp K hK
          simp only [zA, Region.binds, Nat.reduceAdd] at hp
          have e0 := hs 0 (by kernel_rfl)
          have e5 := hs 5 (by kernel_rfl)
          simp only [Array.getD_eq_getD_getElem?, List.getElem?_toArray, List.getElem?_cons_succ, List.getElem?_cons_zero, Option.getD_some] at e0 e5
          clear hs
          obtain ⟨cx0, cx1, cx2, cx3, cx4, cx5, cx6, cx7⟩ := k1 wx hf
          have HF := Lib.hid hf
          clear hf k1
          (try simp only [hp])
          go_simp
          try dsimp only
          first | (refine hK.out _ _ ?_ ?_; (first | exact Fr.refl _ _ | exact (Fr.refl _ _).alloc _); (simp only [nth]; (first | (unfold Is; rfl) | (unfold Any; exact trivial) | exact IsSl.new _ _ _ _ | exact ⟨_, rfl, Blk.new _ _ _, HF.out.size⟩))))
      case hD =>
        as_aux_lemma =>
        intro xv wx hf hp
        simp only [List.take_succ_cons, List.take_zero, List.drop_succ_cons, List.drop_zero, fill, List.setIfInBounds_toArray, List.set_cons_zero, List.set_cons_succ, Nat.reduceAdd, Act.put]
        simp only [List.range_eq_range', List.range'_succ, List.range'_zero, Nat.zero_add, Nat.add_zero, Nat.reduceAdd, holds, nth, Is, Any, true_and, and_true] at hp
        obtain ⟨-, -, -, -, -, -, -, -, -, -, -, -, -, -, -, -, -, -, -, -, -, -, -, -, -, -, -, -, -, -, -, -, -, -, -, -, -, -, -, -, p40, p41⟩ := hp
        obtain ⟨F, e41, hbF, hNF⟩ := p41
        simp only [p40, e41]
        clear p40 e41 k1
        have HF := Lib.hid (And.intro hf (And.intro hbF hNF))
        clear hf hbF hNF
        refine wpList_store_row rfl 55 (.tmp 6) (.tmp 58) rfl F (e.arr s1) rfl rfl 55 #[.int .i64 0, .int .i64 0, .int .i64 0, .int .i64 0, .int .i64 0, .int .i64 0, .bool false, .slice none 0 0] HF.out.2.1 (by kernel_rfl) rfl (ev_one _ _) ?_
        obtain ⟨w7, hw7⟩ : ∃ w7, wx.setRow F (e.arr s1) = w7 := ⟨_, rfl⟩
        have H7 : Hid (Fr [] wr w7 ∧ Blk w7 F (e.arr s1) 55) := Lib.hid (by rw [← hw7]; exact ⟨HF.out.1.setRow _ (.inr HF.out.2.2), HF.out.2.1.setRow⟩)
        rw [hw7]
        clear hw7
        have HFB : Hid (∀ wx, Fr [] w7 wx → Blk wx F (e.arr s1) 55) := Lib.hid fun wx f => H7.out.2.fr f (by simp)
        have k2 : ∀ wx, Fr [] w7 wx → wx.cell? ⟨b2, k * 8, none⟩ = some (.int .i64 e.d) ∧ wx.cell? ⟨b2, k * 8 + 1, none⟩ = some (.int .i64 e.fr) ∧ wx.cell? ⟨b2, k * 8 + 2, none⟩ = some (.int .i64 e.to) ∧ wx.cell? ⟨b2, k * 8 + 3, none⟩ = some (.int .i64 e.n) ∧ wx.cell? ⟨b2, k * 8 + 4, none⟩ = some (.int .i64 e.sap) ∧ wx.cell? ⟨b2, k * 8 + 5, none⟩ = some (.int .i64 e.far) ∧ wx.cell? ⟨b2, k * 8 + 6, none⟩ = some (.bool e.po) ∧ wx.cell? ⟨b2, k * 8 + 7, none⟩ = some (.slice s2.A s2.n s2.c) := fun wx f => K2.out wx (H7.out.1.tr f)
        have HSE : Hid (∀ wx, Fr [] w7 wx → Calls Tryd.prog 26 #[.agg (e.arr s1), .agg (e.arr s2)] wx fun r w' => r = .returned (.bool true) ∧ Fr [] wx w') := Lib.hid fun wx f => r28_SameEvent wx e s1 s2 N1 N2 ((HT.out.1.fr H7.out.1).fr f) ((HT.out.2.fr H7.out.1).fr f)
        go_upto_region 7 with fail
        refine wp_region_keepsU [] [Is (.agg (e.arr s1)), Is (.slice (some ⟨b2, 0, none⟩) l.length sl2.c), Is (.int .i64 (k : Int)), Is (.pointer (some ⟨b2, k * 8, none⟩)), Is (.agg (e.arr s2)), Is (.bool true), Is (.bool false)] 7 (by kernel_rfl) (by kernel_rfl) (by kernel_rfl) (by kernel_rfl) (by kernel_rfl) (by kernel_rfl) ?hV ?hS ?hD
        case hV =>
          repeat (first | exact trivial | exact Is.keeps _ | exact Any.keeps | exact IsSl.keeps _ _ _ | refine And.intro ?_ ?_)
        case hS =>
          (repeat' (first | exact trivial | refine And.intro ?_ ?_))
          · as_aux_lemma =>
              intro ac wx hf hs hp K hK
              simp only [zA, Region.binds, Nat.reduceAdd] at hp
              have e1 := hs 1 (by kernel_rfl)
              have e5 := hs 5 (by kernel_rfl)
              have e6 := hs 6 (by kernel_rfl)
              simp only [Array.getD_eq_getD_getElem?, List.getElem?_toArray, List.getElem?_cons_succ, List.getElem?_cons_zero, Option.getD_some] at e1 e5 e6
              clear hs
              refine wp_load_row 55 (.tmp 6) rfl F (by simpa [Act.eval] using e6) 55 (e.arr s1) (0, 0) _ (HFB.out wx hf) Tryd.underlying55 rfl (by kernel_rfl) ?_
              refine hK.out _ _ (Fr.refl _ _) ?_
              simp only [nth]
              (unfold Is; rfl)
          all_goals (as_aux_lemma =>
            intro ac wx hf hs hp K hK
            simp only [zA, Region.binds, Nat.reduceAdd] at hp
            have e1 := hs 1 (by kernel_rfl)
            have e5 := hs 5 (by kernel_rfl)
            have e6 := hs 6 (by kernel_rfl)
            simp only [Array.getD_eq_getD_getElem?, List.getElem?_toArray, List.getElem?_cons_succ, List.getElem?_cons_zero, Option.getD_some] at e1 e5 e6
            clear hs
            obtain ⟨cx0, cx1, cx2, cx3, cx4, cx5, cx6, cx7⟩ := k2 wx hf
            have hse := HSE.out wx hf
            clear hf k2
            (try simp only [hp])
            go_simp
            try dsimp only
            first | (refine hK.out _ _ ?_ ?_; (first | exact Fr.refl _ _ | exact (Fr.refl _ _).alloc _); (simp only [nth]; (first | (unfold Is; rfl) | (unfold Any; exact trivial) | exact IsSl.new _ _ _ _))) | (go_at_call 26; refine hse.mono ?_; rintro e9 w' ⟨rfl, f⟩; refine hK.out _ _ f ?_; simp only [nth]; (unfold Is; rfl)))
        case hD =>
          as_aux_lemma =>
          intro xv wx hf hp
          simp only [List.take_succ_cons, List.take_zero, List.drop_succ_cons, List.drop_zero, fill, List.setIfInBounds_toArray, List.set_cons_zero, List.set_cons_succ, Nat.reduceAdd, Act.put]
          simp only [List.range_eq_range', List.range'_succ, List.range'_zero, Nat.zero_add, Nat.add_zero, Nat.reduceAdd, holds, nth, Is, Any, true_and, and_true] at hp
          obtain ⟨-, -, -, -, -, -, p6⟩ := hp
          simp only [p6]
          have HF8 := Lib.hid (HK.out.tr (H7.out.1.tr hf))
          clear p6 hf k2
          go_wp2
          go_roundw
          case rel => exact ⟨k + 1, by go_num, by omega, HF8.out⟩
          case measure => simp [intOf]; omega
    · have hke : k = l.length := by omega
      subst hke
      clear hf
      go_wp2
      go_ret
      exact ⟨rfl, HK.out⟩
end Go.Proofs.YtodlbajpcbdbaaaDoor
namespace Go.Proofs.YtodlbajpcbdbaaaDoor
open Go.RowKit Go.Shelf
set_option linter.unusedVariables false
set_option linter.unusedSimpArgs false
set_option maxRecDepth 100000

theorem RRow.frC {N B C : Nat} {s : Sl} {l : List EV} {w w' : World} {cs : Array Value} (h : RRow N B s l w) (f : Fr [C] w w') (hC : Blk w C cs 40) (hN : N = 0 := by rfl) : RRow N B s l w' := by
  subst hN
  refine RowG.frL h f (fun b hb hm => ?_) (fun _ _ ⟨sd, e, hb⟩ => ⟨sd, e, hb.frL f (fun x hx => by simp at hx; subst hx; exact ⟨Nat.zero_le _, hC.noB (by decide)⟩)⟩)
  simp at hm
  subst hm
  obtain ⟨_, cs', e⟩ := RowG.blk h b hb
  rw [Blk, e] at hC
  cases hC
def RParsePost (w : World) (t : List UInt8) (e : Ending) (w' : World) : Prop := (match parseM t with
  | .ok (c, l) => c.length = 17 ∧ (∀ x ∈ c, In64 x) ∧ ∃ sl : Sl, e = .returned (.tuple #[.agg (intsV c), .slice sl.A sl.n sl.c, .int .i64 0, .int .i64 0]) ∧ RRow 0 w.heap.size sl l w'
  | .error (a, b) => e = .returned (.tuple #[.agg (intsV zeros17), .slice none 0 0, .int .i64 a, .int .i64 b])) ∧ Fr [] w w'
theorem RParsePost.no {w : World} {t : List UInt8} {a b : Int} {w' : World} (h : parseM t = .error (a, b)) (f : Fr [] w w') : RParsePost w t (.returned (.tuple #[.agg (intsV zeros17), .slice none 0 0, .int .i64 a, .int .i64 b])) w' := by unfold RParsePost; rw [h]; exact ⟨rfl, f⟩
theorem RParsePost.yes {w : World} {t : List UInt8} {c : List Int} {l : List EV} {sl : Sl} {w' : World} (h : parseM t = .ok (c, l)) (hc : c.length = 17) (hi : ∀ x ∈ c, In64 x) (hr : RRow 0 w.heap.size sl l w') (f : Fr [] w w') : RParsePost w t (.returned (.tuple #[.agg (intsV c), .slice sl.A sl.n sl.c, .int .i64 0, .int .i64 0])) w' := by unfold RParsePost; rw [h]; exact ⟨⟨hc, hi, sl, rfl, hr⟩, f⟩
theorem zeros_in : ∀ y ∈ zeros17, In64 y := by
  intro y hy
  simp [zeros17] at hy
  subst hy
  exact ⟨by omega, by omega⟩
theorem endM_err (n : Nat) (z : List UInt8) (e : Int × Int) : endM n z (.error e) = .error e := rfl
theorem RRow.low {N B B' : Nat} {s : Sl} {l : List EV} {w : World} (h : RRow N B s l w) (hb : B' ≤ B) : RRow N B' s l w := by
  obtain ⟨xs, h1, h2⟩ := h
  exact ⟨xs, own_low h1 hb, h2⟩
/-- The lines, and how the whole goes. -/
theorem linesM_form (t : List UInt8) : ∃ (L : List (List UInt8)) (en : Bool), linesM t = (L, en) ∧ (splitc 10 t).take (lineN t) = L.take (lineN t) ∧ ((en = true ∧ L.length = lineN t ∧ lastL t = []) ∨ (en = false ∧ L.length = lineN t + 1 ∧ lastL t ≠ [])) ∧ (∀ x ∈ L, x.length ≤ t.length) ∧ (longB t (lineN t) (lastL t) = true ↔ 65536 < t.length ∨ 2048 < L.length) := by
  have hl := (splitc_len 10 t).2
  have hn : lineN t = (splitc 10 t).length - 1 := rfl
  have hle := splitc_le 10 t
  by_cases hz : lastL t = []
  · refine ⟨(splitc 10 t).dropLast, true, by unfold linesM; rw [if_pos hz], ?_, .inl ⟨rfl, by rw [List.length_dropLast]; exact hn.symm, hz⟩, fun x hx => hle x (List.dropLast_subset _ hx), ?_⟩
    · rw [List.dropLast_eq_take, hn, List.take_take, Nat.min_self]
    · rw [List.length_dropLast, ← hn]
      unfold longB
      simp [hz]
  · refine ⟨splitc 10 t, false, by unfold linesM; rw [if_neg hz], rfl, .inr ⟨rfl, by omega, hz⟩, hle, ?_⟩
    unfold longB
    simp [hz]
    omega
set_option maxRecDepth 100000 in
set_option maxHeartbeats 40000000 in
theorem r28_Parse (w : World) (s : ByteArray) (hs : s.size ≤ 1000000) : Calls Tryd.prog 9 #[.string s] w (RParsePost w s.bytes) := by
  obtain ⟨i0, hi0, hz0, hz1, hz2⟩ := info_parts (show (Tryd.prog.info? 55).map (fun i => (i.zero, i.size, i.bytes)) = some (some (.agg ((EV.zero 0).arr Sl.nil)), 8, 80) by kernel_rfl)
  have hun : Tryd.prog.underlying 41 = some (.slice 55) := Tryd.underlying41
  obtain ⟨L, en, hL, htk, hen, hLx, hlong⟩ := linesM_form s.bytes
  have hbl : s.bytes.length = s.size := rfl
  have hln := fun w => r28_lines w s (by omega)
  rw [hL] at hln
  dsimp only at hln
  go_enter Tryd.func9, Tryd.ntmps9
  go_upto_region 2 with fail
  obtain ⟨w0, hw0⟩ : ∃ w0, (w.alloc (.cells (intsV zeros17) 40)).alloc (.cells (intsV zeros17) 40) = w0 := ⟨_, rfl⟩
  obtain ⟨R, hR⟩ : ∃ R, w.heap.size = R := ⟨_, rfl⟩
  obtain ⟨Z, hZ⟩ : ∃ Z, R + 1 = Z := ⟨_, rfl⟩
  have H0 : Hid (Fr [] w w0 ∧ Blk w0 Z (intsV zeros17) 40 ∧ Blk w0 R (intsV zeros17) 40) := Lib.hid (by
    rw [← hw0, ← hZ, ← hR]
    refine ⟨((Fr.refl [] w).alloc _).alloc _, ?_, (Blk.new _ _ _).alloc _⟩
    have := Blk.new (w.alloc (.cells (intsV zeros17) 40)) (intsV zeros17) 40
    simpa using this)
  have hRw : w.heap.size ≤ R := by omega
  have HR := Lib.hid hR
  rw [show (#[Value.int .i64 0, Value.int .i64 0, Value.int .i64 0, Value.int .i64 0, Value.int .i64 0, Value.int .i64 0, Value.int .i64 0, Value.int .i64 0, Value.int .i64 0, Value.int .i64 0, Value.int .i64 0, Value.int .i64 0, Value.int .i64 0, Value.int .i64 0, Value.int .i64 0, Value.int .i64 0, Value.int .i64 0] : Array Value) = intsV zeros17 from rfl, hw0, hR, hZ]
  clear hw0 hR
  by_cases hbig : 65536 < s.size
  · have d0 : decide ((65536 : Int) < (s.size : Int)) = true := by simp; omega
    have HN : Hid (parseM s.bytes = .error (0, 3)) := Lib.hid (by unfold parseM; rw [if_pos (hlong.2 (.inl (by omega)))])
    clear hbig hlong hen htk hL hLx hln
    have hbZ := H0.out.2.1
    have hbR := H0.out.2.2
    go_wp2_with (first | (refine wpList_load_row rfl 40 (.tmp 6) rfl Z rfl 40 (intsV zeros17) (0, 0) _ hbZ Tryd.underlying40 rfl (by kernel_rfl) ?_) | (refine wpList_store_row rfl 40 (.tmp 2) (.tmp 21) rfl R (intsV zeros17) rfl rfl 40 (intsV zeros17) hbR (by kernel_rfl) rfl (intsV_one _) ?_))
    refine bodyPost_ret (v := .tuple #[.agg (intsV zeros17), .slice none 0 0, .int .i64 (0), .int .i64 3]) (results_cell3 Tryd.results9 _ _ R _ _ _ _ _ _ _ rfl rfl rfl rfl hbR.setRow Tryd.underlying40 rfl (by kernel_rfl)) rfl ?_
    exact RParsePost.no HN.out ((H0.out.1).setRow _ (.inr hRw))
  · have d0 : decide ((65536 : Int) < (s.size : Int)) = false := by simp; omega
    go_wp2_with fail
    refine (hln _).mono ?_
    rintro e w2 ⟨⟨slL, rfl, hown⟩, f2⟩
    have hsn := own_n hown
    obtain ⟨sA, Ln, sC⟩ := slL
    simp only at hsn
    have hL1 : Ln ≤ L.length := by omega
    have hL2 : L.length ≤ Ln := by omega
    have H2 := Lib.hid (And.intro (H0.out.1.tr f2) (And.intro (H0.out.2.1.fr f2 (by simp)) (And.intro (H0.out.2.2.fr f2 (by simp)) hown)))
    clear f2 hown hsn hln
    by_cases hmany : 2048 < Ln
    · have d1 : decide ((2048 : Int) < (Ln : Int)) = true := by simp; omega
      have HN : Hid (parseM s.bytes = .error (0, 3)) := Lib.hid (by unfold parseM; rw [if_pos (hlong.2 (.inr (by omega)))])
      clear hmany hbig hlong hen htk hL hLx
      have hbZ := H2.out.2.1
      have hbR := H2.out.2.2.1
      go_wp2_with (first | (refine wpList_load_row rfl 40 (.tmp 6) rfl Z rfl 40 (intsV zeros17) (0, 0) _ hbZ Tryd.underlying40 rfl (by kernel_rfl) ?_) | (refine wpList_store_row rfl 40 (.tmp 2) (.tmp 30) rfl R (intsV zeros17) rfl rfl 40 (intsV zeros17) hbR (by kernel_rfl) rfl (intsV_one _) ?_))
      refine bodyPost_ret (v := .tuple #[.agg (intsV zeros17), .slice none 0 0, .int .i64 (0), .int .i64 3]) (results_cell3 Tryd.results9 _ _ R _ _ _ _ _ _ _ rfl rfl rfl rfl hbR.setRow Tryd.underlying40 rfl (by kernel_rfl)) rfl ?_
      exact RParsePost.no HN.out ((H2.out.1).setRow _ (.inr hRw))
    · have d1 : decide ((2048 : Int) < (Ln : Int)) = false := by simp; omega
      obtain ⟨n, hn⟩ : ∃ n, lineN s.bytes = n := ⟨_, rfl⟩
      obtain ⟨Lm, hLm⟩ : ∃ Lm, L.take n = Lm := ⟨_, rfl⟩
      have HP : Hid (parseM s.bytes = endM n (lastL s.bytes) (goL 0 Lm zeros17 [])) := Lib.hid (by
        unfold parseM
        rw [if_neg (fun hc => by rcases hlong.1 hc with h | h <;> omega), htk, hn, hLm])
      rw [hn] at hen htk hlong
      have HPE : Hid (∀ (q : Nat) (c : List Int) (l : List EV), q = n → lastL s.bytes ≠ [] → goL 0 Lm zeros17 [] = goL q (Lm.drop q) c l → parseM s.bytes = .error ((q : Int) + 1, 12)) := Lib.hid (fun q c l hq hz hg => by
        have hd : Lm.drop q = [] := List.drop_of_length_le (by rw [← hLm, List.length_take]; omega)
        rw [HP.out, hg, hd]
        have : goL q [] c l = .ok (c, l) := by cases q <;> rfl
        rw [this]
        show (if n = 0 ∨ lastL s.bytes ≠ [] then _ else _) = _
        rw [if_pos (.inr hz), hq])
      have hlen : L.length = n + (if en then 0 else 1) ∧ (en = false → lastL s.bytes ≠ []) ∧ (en = true → lastL s.bytes = []) := by
        rcases hen with ⟨rfl, h1, h2⟩ | ⟨rfl, h1, h2⟩
        · exact ⟨by simpa using h1, (fun h => by cases h), (fun _ => h2)⟩
        · exact ⟨by simpa using h1, (fun _ => h2), (fun h => by cases h)⟩
      have hLn : Ln ≤ 2048 := by omega
      have HL0 := Lib.hid (And.intro hlen (And.intro hLx hLm))
      have hb2 : Blk (w2.alloc (.cells (intsV zeros17) 40)) w2.heap.size (intsV zeros17) 40 := Blk.new _ _ _
      have hZ2 := H2.out.2.1
      clear hbig hlong hen htk hL hLx hlen hmany hn hLm
      go_wp2_with (first | (refine wpList_load_row rfl 40 (.tmp 6) rfl Z rfl 40 (intsV zeros17) (0, 0) _ hZ2 Tryd.underlying40 rfl (by kernel_rfl) ?_) | (refine wpList_store_row rfl 40 (.tmp 9) (.tmp 31) rfl w2.heap.size (intsV zeros17) rfl rfl 40 (intsV zeros17) hb2 (by kernel_rfl) rfl (intsV_one _) ?_))
      obtain ⟨w1, hw1⟩ : ∃ w1, (w2.alloc (.cells (intsV zeros17) 40)).setRow w2.heap.size (intsV zeros17) = w1 := ⟨_, rfl⟩
      obtain ⟨C, hC⟩ : ∃ C, w2.heap.size = C := ⟨_, rfl⟩
      have H1 : Hid (Fr [] w w1 ∧ w1.ownsRow w0.heap.size 9 1 (Sl.v ⟨sA, Ln, sC⟩) L.length (L.map sv) ∧ Blk w1 Z (intsV zeros17) 40 ∧ Blk w1 R (intsV zeros17) 40 ∧ Blk w1 C (intsV zeros17) 40) := Lib.hid (by
        have f1 : Fr [] w2 w1 := by rw [← hw1]; exact ((Fr.refl [] w2).alloc _).setRow _ (.inr (Nat.le_refl _))
        exact ⟨H2.out.1.tr f1, own_fr H2.out.2.2.2 f1, H2.out.2.1.fr f1 (by simp), H2.out.2.2.1.fr f1 (by simp), by rw [← hw1, ← hC]; exact hb2.setRow⟩)
      have hZC : Z ≠ C := by have := H2.out.2.1.lt; omega
      have hRC : R ≠ C := by have := H2.out.2.2.1.lt; omega
      have hCw : w.heap.size ≤ C := by have := H2.out.1.size; omega
      rw [show (#[Value.int .i64 0, Value.int .i64 0, Value.int .i64 0, Value.int .i64 0, Value.int .i64 0, Value.int .i64 0, Value.int .i64 0, Value.int .i64 0, Value.int .i64 0, Value.int .i64 0, Value.int .i64 0, Value.int .i64 0, Value.int .i64 0, Value.int .i64 0, Value.int .i64 0, Value.int .i64 0, Value.int .i64 0] : Array Value) = intsV zeros17 from rfl, hw1, hC]
      clear hw1 hC hb2 hZ2
      go_loopw [10, 11] (fun o i wr => ∃ (q : Nat) (sl : Sl) (c : List Int) (l : List EV), o = .slice sl.A sl.n sl.c ∧ i = .int .i64 (q : Int) ∧ q ≤ L.length ∧ q ≤ n ∧ goL 0 Lm zeros17 [] = goL q (Lm.drop q) c l ∧ c.length = 17 ∧ (∀ y ∈ c, In64 y) ∧ Blk wr C (intsV c) 40 ∧ RRow 0 w1.heap.size sl l wr ∧ Fr [C] w1 wr ∧ (q = 0 → l = [] ∧ c = zeros17) ∧ l.length ≤ q) (fun _ i _ => L.length - (intOf i).toNat)
      case atStart => exact ⟨0, Sl.nil, zeros17, [], rfl, rfl, by omega, by omega, rfl, rfl, zeros_in, H1.out.2.2.2.2, RowG.nil, Fr.refl _ _, fun _ => ⟨rfl, rfl⟩, by simp⟩
      case round =>
        obtain ⟨q, sl, c, l, rfl, rfl, hq, hqn, hg, hc17, hci, hbC, hrow, hf, hq0, hlq⟩ := hrel
        have HQ := Lib.hid (And.intro hg (And.intro hc17 (And.intro hci (And.intro hbC (And.intro hrow hf)))))
        have HQ0 := Lib.hid hq0
        clear hg hc17 hci hq0
        have wq : IntKind.i64.wrap ((q : Int) + 1) = (q : Int) + 1 := IntWalk.i64_in _ (by omega)
        have hll : l.length ≤ 1000000 := by omega
        by_cases hlt : q < L.length
        · have dl : (q : Int) < (Ln : Int) := by omega
          have dl0 : q < Ln := by omega
          obtain ⟨b, hA, hbc⟩ := own_at H1.out.2.1 (by omega)
          simp only at hA
          subst hA
          obtain ⟨x0, hx0⟩ : ∃ x0, L[q] = x0 := ⟨_, rfl⟩
          obtain ⟨sx, hsx⟩ : ∃ sx : ByteArray, ⟨x0.toArray⟩ = sx := ⟨_, rfl⟩
          have HSX : Hid (sx.bytes = x0) := Lib.hid (by rw [← hsx]; rfl)
          have hsz : sx.size ≤ 1000000 := by
            have h1 := HL0.out.2.1 x0 (by rw [← hx0]; exact List.getElem_mem hlt)
            have h2 : sx.bytes.length = sx.size := rfl
            rw [HSX.out] at h2
            omega
          have hbn : b ≠ C := fun e => by
            obtain ⟨_, cs, h9⟩ := own_blk H1.out.2.1 b (by simp [Sl.blk])
            have h8 := H1.out.2.2.2.2
            rw [← e, Blk, h9] at h8
            cases h8
          have cw : wr.cell? ⟨b, q, none⟩ = some (.string sx) := by
            refine hf.cell (hbc q _ ?_) (by simpa using hbn)
            rw [List.getElem?_map, List.getElem?_eq_getElem hlt, hx0, ← hsx]
            rfl
          have HX0 : Hid (q < n → Lm.drop q = x0 :: Lm.drop (q + 1)) := Lib.hid (fun h => by
            have hl : q < Lm.length := by rw [← HL0.out.2.2, List.length_take]; omega
            rw [List.drop_eq_getElem_cons hl]
            congr 1
            have := HL0.out.2.2
            subst this
            rw [List.getElem_take]
            exact hx0)
          have hln9 := HL0.out.1.1
          have hlz := HL0.out.1.2.1
          clear hbC hrow hf hx0 hsx hbc hbn
          cases en with
          | true =>
            have hqn2 : q < n := by simp at hln9; omega
            clear hln9 hlz
            as_aux_lemma =>
            by_cases hq00 : q = 0
            · have hl0 : l = [] ∧ c = zeros17 := HQ0.out hq00
              have HQZ := Lib.hid hq00
              have qz : ((q : Int) == 0) = true := by rw [beq_iff_eq]; omega
              clear hq00
              have hcf := r28_config wr sx hsz
              go_wp2_with fail
              refine hcf.mono ?_
              rintro e w5 ⟨hp5, f5⟩
              have H5 := Lib.hid (And.intro (HQ.out.2.2.2.2.2.tr0 f5) (And.intro (HQ.out.2.2.2.1.fr f5 (by simp)) (RRow.fr f5 HQ.out.2.2.2.2.1)))
              have hb5 : Blk (w5.alloc (.cells (intsV zeros17) 40)) w5.heap.size (intsV zeros17) 40 := Blk.new _ _ _
              have hC5 : C < w5.heap.size := H5.out.2.1.lt
              have hw5 : w1.heap.size ≤ w5.heap.size := H5.out.1.size
              rw [HSX.out] at hp5
              clear hcf f5 cw
              cases hcm : configM (splitc 32 x0) with
              | none =>
                rw [hcm] at hp5
                dsimp only at hp5
                subst hp5
                have hss : (intsV zeros17).size = 17 := rfl
                have HN : Hid (parseM s.bytes = .error ((q : Int) + 1, 12)) := Lib.hid (by rw [HP.out, HQ.out.1, HX0.out (by omega), hl0.2]; have h0 := HQZ.out; subst h0; rw [goL, hcm]; rfl)
                clear hcm
                go_upto_region 20 with (first | (refine wpList_store_row rfl 40 (.tmp 13) (.tmp 54) rfl w5.heap.size (intsV zeros17) rfl rfl 40 (intsV zeros17) hb5 (by rw [hss]; kernel_rfl) (by first | rfl | (rw [hss]; rfl)) (intsV_one _) ?_) | (refine wpList_load_row rfl 40 (.tmp 13) rfl w5.heap.size rfl 40 (intsV zeros17) (0, 0) _ hb5.setRow Tryd.underlying40 rfl (by rw [hss]; kernel_rfl) ?_) | (refine wpList_store_row rfl 40 (.tmp 9) (.tmp 60) rfl C (intsV zeros17) rfl rfl 40 (intsV c) (((H5.out.2.1.alloc _).fr ((Fr.refl [w5.heap.size] _).setRow _ (.inl (by simp))) (by simp; omega))) (by rw [hss]; kernel_rfl) (by rw [hss]; simp [intsV, HQ.out.2.1]) (intsV_one _) ?_))
                obtain ⟨we, hwe⟩ : ∃ we, ((w5.alloc (.cells (intsV zeros17) 40)).setRow w5.heap.size (intsV zeros17)).setRow C (intsV zeros17) = we := ⟨_, rfl⟩
                have HW : Hid (Fr [C] w1 we ∧ Blk we C (intsV zeros17) 40 ∧ RRow 0 w1.heap.size sl [] we) := Lib.hid (by
                  rw [← hwe]
                  have fa : Fr [C] w5 (((w5.alloc (.cells (intsV zeros17) 40)).setRow w5.heap.size (intsV zeros17)).setRow C (intsV zeros17)) := (((Fr.refl [C] w5).alloc _).setRow _ (.inr (Nat.le_refl _))).setRow _ (.inl (by simp))
                  refine ⟨H5.out.1.tr fa, (((H5.out.2.1.alloc _).fr ((Fr.refl [w5.heap.size] _).setRow _ (.inl (by simp))) (by simp; omega))).setRow, ?_⟩
                  have h9 := H5.out.2.2
                  rw [hl0.1] at h9
                  exact h9.frC fa H5.out.2.1)
                rw [show (#[Value.int .i64 0, Value.int .i64 0, Value.int .i64 0, Value.int .i64 0, Value.int .i64 0, Value.int .i64 0, Value.int .i64 0, Value.int .i64 0, Value.int .i64 0, Value.int .i64 0, Value.int .i64 0, Value.int .i64 0, Value.int .i64 0, Value.int .i64 0, Value.int .i64 0, Value.int .i64 0, Value.int .i64 0] : Array Value) = intsV zeros17 from rfl, hwe]
                clear hwe hb5 hC5 hw5 hss
                have wqe : IntKind.i64.wrap ((q : Int) + 1) = (q : Int) + 1 := wq
                have hbZ := H1.out.2.2.1.fr HW.out.1 (by simpa using hZC)
                have hbR := H1.out.2.2.2.1.fr HW.out.1 (by simpa using hRC)
                go_wp2_with (first | (refine wpList_load_row rfl 40 (.tmp 6) rfl Z rfl 40 (intsV zeros17) (0, 0) _ hbZ Tryd.underlying40 rfl (by kernel_rfl) ?_) | (refine wpList_store_row rfl 40 (.tmp 2) (.tmp 79) rfl R (intsV zeros17) rfl rfl 40 (intsV zeros17) hbR (by kernel_rfl) rfl (intsV_one _) ?_))
                refine bodyPost_ret (v := .tuple #[.agg (intsV zeros17), .slice none 0 0, .int .i64 ((q : Int) + 1), .int .i64 12]) (results_cell3 Tryd.results9 _ _ R _ _ _ _ _ _ _ rfl rfl rfl rfl hbR.setRow Tryd.underlying40 rfl (by kernel_rfl)) rfl ?_
                exact RParsePost.no HN.out ((H1.out.1.trans HW.out.1 (fun y hy => by simp at hy; subst hy; exact .inr hCw)).setRow _ (.inr hRw))
              | some c' =>
                rw [hcm] at hp5
                obtain ⟨rfl, hc17, hci⟩ := hp5
                have hss : (intsV c').size = 17 := by simp [intsV, hc17]
                have HN : Hid (goL 0 Lm zeros17 [] = goL (q + 1) (Lm.drop (q + 1)) c' [] ∧ c'.length = 17 ∧ ∀ y ∈ c', In64 y) := Lib.hid ⟨by rw [HQ.out.1, HX0.out (by omega), hl0.1, hl0.2]; have h0 := HQZ.out; subst h0; rw [goL, hcm], hc17, hci⟩
                clear hcm
                go_upto_region 20 with (first | (refine wpList_store_row rfl 40 (.tmp 13) (.tmp 54) rfl w5.heap.size (intsV c') rfl rfl 40 (intsV zeros17) hb5 (by rw [hss]; kernel_rfl) (by first | rfl | (rw [hss]; rfl)) (intsV_one _) ?_) | (refine wpList_load_row rfl 40 (.tmp 13) rfl w5.heap.size rfl 40 (intsV c') (0, 0) _ hb5.setRow Tryd.underlying40 rfl (by rw [hss]; kernel_rfl) ?_) | (refine wpList_store_row rfl 40 (.tmp 9) (.tmp 60) rfl C (intsV c') rfl rfl 40 (intsV c) (((H5.out.2.1.alloc _).fr ((Fr.refl [w5.heap.size] _).setRow _ (.inl (by simp))) (by simp; omega))) (by rw [hss]; kernel_rfl) (by rw [hss]; simp [intsV, HQ.out.2.1]) (intsV_one _) ?_))
                obtain ⟨we, hwe⟩ : ∃ we, ((w5.alloc (.cells (intsV zeros17) 40)).setRow w5.heap.size (intsV c')).setRow C (intsV c') = we := ⟨_, rfl⟩
                have HW : Hid (Fr [C] w1 we ∧ Blk we C (intsV c') 40 ∧ RRow 0 w1.heap.size sl [] we) := Lib.hid (by
                  rw [← hwe]
                  have fa : Fr [C] w5 (((w5.alloc (.cells (intsV zeros17) 40)).setRow w5.heap.size (intsV c')).setRow C (intsV c')) := (((Fr.refl [C] w5).alloc _).setRow _ (.inr (Nat.le_refl _))).setRow _ (.inl (by simp))
                  refine ⟨H5.out.1.tr fa, (((H5.out.2.1.alloc _).fr ((Fr.refl [w5.heap.size] _).setRow _ (.inl (by simp))) (by simp; omega))).setRow, ?_⟩
                  have h9 := H5.out.2.2
                  rw [hl0.1] at h9
                  exact h9.frC fa H5.out.2.1)
                rw [show (#[Value.int .i64 0, Value.int .i64 0, Value.int .i64 0, Value.int .i64 0, Value.int .i64 0, Value.int .i64 0, Value.int .i64 0, Value.int .i64 0, Value.int .i64 0, Value.int .i64 0, Value.int .i64 0, Value.int .i64 0, Value.int .i64 0, Value.int .i64 0, Value.int .i64 0, Value.int .i64 0, Value.int .i64 0] : Array Value) = intsV zeros17 from rfl, hwe]
                clear hwe hb5 hC5 hw5 hss
                go_wp2
                go_roundw
                case rel => exact ⟨q + 1, sl, c', [], rfl, by go_num, by omega, by omega, HN.out.1, HN.out.2.1, HN.out.2.2, HW.out.2.1, HW.out.2.2, HW.out.1, fun h => by omega, by simp⟩
                case measure => simp [intOf]; omega
            · have hqp : 0 < q := by omega
              have qz : ((q : Int) == 0) = false := by rw [beq_eq_false_iff_ne]; omega
              clear hq00
              have hcf := r28_event wr sx hsz
              go_wp2_with fail
              refine hcf.mono ?_
              rintro e w5 ⟨hp5, f5⟩
              have H5 := Lib.hid (And.intro (HQ.out.2.2.2.2.2.tr0 f5) (And.intro (HQ.out.2.2.2.1.fr f5 (by simp)) (RRow.fr f5 HQ.out.2.2.2.2.1)))
              have hb5 : Blk (w5.alloc (.cells #[.int .i64 0, .int .i64 0, .int .i64 0, .int .i64 0, .int .i64 0, .int .i64 0, .bool false, .slice none 0 0] 55)) w5.heap.size #[.int .i64 0, .int .i64 0, .int .i64 0, .int .i64 0, .int .i64 0, .int .i64 0, .bool false, .slice none 0 0] 55 := Blk.new _ _ _
              have hC5 : C < w5.heap.size := H5.out.2.1.lt
              have hw5 : w1.heap.size ≤ w5.heap.size := H5.out.1.size
              rw [HSX.out] at hp5
              clear hcf f5 cw
              cases hcm : eventM (splitc 32 x0) with
              | none =>
                rw [hcm] at hp5
                dsimp only at hp5
                subst hp5
                obtain ⟨XA, hXA⟩ : ∃ XA, (#[.int .i64 0, .int .i64 0, .int .i64 0, .int .i64 0, .int .i64 0, .int .i64 0, .bool false, .slice none 0 0] : Array Value) = XA := ⟨_, rfl⟩
                have HXA : Hid (XA.size = 8 ∧ XA.all (·.oneCell') = true ∧ XA = #[.int .i64 0, .int .i64 0, .int .i64 0, .int .i64 0, .int .i64 0, .int .i64 0, .bool false, .slice none 0 0]) := Lib.hid ⟨by rw [← hXA]; rfl, by rw [← hXA]; simp [Value.oneCell'], hXA.symm⟩
                rw [hXA]
                clear hXA
                have HN : Hid (parseM s.bytes = .error ((q : Int) + 1, 12)) := Lib.hid (by rw [HP.out, HQ.out.1, HX0.out (by omega)]; obtain ⟨q', rfl⟩ : ∃ q', q = q' + 1 := ⟨q - 1, by omega⟩; rw [goL, hcm, endM_err, show (((q' + 1 : Nat) : Int) + 1) = (q' : Int) + 2 by omega])
                clear hcm
                go_upto_region 19 with (refine wpList_store_row rfl 55 (.tmp 15) (.tmp 67) rfl w5.heap.size XA rfl rfl 55 #[.int .i64 0, .int .i64 0, .int .i64 0, .int .i64 0, .int .i64 0, .int .i64 0, .bool false, .slice none 0 0] hb5 (by rw [HXA.out.1]; kernel_rfl) (by rw [HXA.out.1]; rfl) HXA.out.2.1 ?_)
                obtain ⟨w6, hw6⟩ : ∃ w6, (w5.alloc (.cells #[.int .i64 0, .int .i64 0, .int .i64 0, .int .i64 0, .int .i64 0, .int .i64 0, .bool false, .slice none 0 0] 55)).setRow w5.heap.size XA = w6 := ⟨_, rfl⟩
                obtain ⟨G, hG⟩ : ∃ G, w5.heap.size = G := ⟨_, rfl⟩
                have H6 : Hid (Blk w6 G XA 55 ∧ Fr [] w5 w6) := Lib.hid ⟨by rw [← hw6, ← hG]; exact hb5.setRow, by rw [← hw6]; exact ((Fr.refl [] w5).alloc _).setRow _ (.inr (Nat.le_refl _))⟩
                rw [hw6, hG]
                clear hw6 hG hb5 hC5
                have hR6 := RRow.fr H6.out.2 H5.out.2.2
                obtain ⟨xs, hown, hall, hlen⟩ := hR6
                have hbw : w1.heap.size ≤ w6.heap.size := Nat.le_trans hw5 H6.out.2.size
                have HO := Lib.hid (And.intro hown (And.intro hall hlen))
                clear hown hall hlen hw5
                have HBS : Hid (∀ w, (Instr.buildSlice 41 1 #[(0, .agg XA)]).run Tryd.prog w = .ok (.slice (some ⟨w.heap.size, 0, none⟩) 1 1) (w.alloc (.cells XA 55))) := Lib.hid (fun w => by rw [HXA.out.2.2]; exact bs_run (EV.zero 0) Sl.nil w)
                have hxs : XA.toList.length = 1 * 8 := by rw [Array.length_toList, HXA.out.1]
                have hx1 : ∀ u ∈ XA.toList, u.oneCell' = true := fun u hu => (Array.all_eq_true_iff_forall_mem.1 HXA.out.2.1) u (by simpa using hu)
                go_wp2_with (first | (refine wpList_load_row rfl 55 (.tmp 15) rfl G rfl 55 XA (0, 0) _ H6.out.1 Tryd.underlying55 rfl (by rw [HXA.out.1]; kernel_rfl) ?_) | (refine wpList_bs1 rfl 41 (.tmp 74) rfl XA rfl _ (HBS.out _) ?_) | (at_builtin; refine wpList_append_src rfl _ _ 41 rfl (w1.heap.size) 55 i0 (.agg ((EV.zero 0).arr Sl.nil)) 8 80 hun hi0 hz0 hz1 hz2 rfl (by decide) _ _ _ rfl (HO.out.1.alloc _) _ 1 XA.toList rfl Src.one hxs hx1 (by unfold maxLen; omega) (by omega) (by first | (simp; done) | (simp; omega)) ?_))
                intro v' we hown8 hgrow
                obtain ⟨sn, rfl⟩ := own_sl' hown8
                have HW : Hid (Fr [C] w1 we ∧ Blk we C (intsV c) 40) := Lib.hid (by
                  have ho9 := HO.out.1.alloc (.cells XA 55)
                  have fg : Fr [C] w1 we := ((H5.out.1.tr0 H6.out.2).alloc (.cells XA 55)).grown hgrow (fun k hk => .inr (ho9.lt k hk).1)
                  have fr8 : Fr sl.blk (w6.alloc (.cells XA 55)) we := Fr.grownL hgrow
                  have hC8 : Blk we C (intsV c) 40 := ((H5.out.2.1.fr H6.out.2 (by simp)).alloc _).ofTy fr8 (TyOut.own ho9 (by decide))
                  refine ⟨fg, hC8⟩)
                clear hown8 hgrow hbw hxs hx1
                have wqe : IntKind.i64.wrap ((q : Int) + 1) = (q : Int) + 1 := wq
                have hbZ := H1.out.2.2.1.fr HW.out.1 (by simpa using hZC)
                have hbR := H1.out.2.2.2.1.fr HW.out.1 (by simpa using hRC)
                go_wp2_with (first | (refine wpList_load_row rfl 40 (.tmp 6) rfl Z rfl 40 (intsV zeros17) (0, 0) _ hbZ Tryd.underlying40 rfl (by kernel_rfl) ?_) | (refine wpList_store_row rfl 40 (.tmp 2) (.tmp 79) rfl R (intsV zeros17) rfl rfl 40 (intsV zeros17) hbR (by kernel_rfl) rfl (intsV_one _) ?_))
                refine bodyPost_ret (v := .tuple #[.agg (intsV zeros17), .slice none 0 0, .int .i64 ((q : Int) + 1), .int .i64 12]) (results_cell3 Tryd.results9 _ _ R _ _ _ _ _ _ _ rfl rfl rfl rfl hbR.setRow Tryd.underlying40 rfl (by kernel_rfl)) rfl ?_
                exact RParsePost.no HN.out ((H1.out.1.trans HW.out.1 (fun y hy => by simp at hy; subst hy; exact .inr hCw)).setRow _ (.inr hRw))
              | some x =>
                rw [hcm] at hp5
                obtain ⟨se, rfl, hse⟩ := hp5
                obtain ⟨XA, hXA⟩ : ∃ XA, x.arr se = XA := ⟨_, rfl⟩
                have HXA : Hid (XA.size = 8 ∧ XA.all (·.oneCell') = true ∧ XA = x.arr se ∧ Bts 0 w5 se (bytesI x.b)) := Lib.hid ⟨by rw [← hXA]; rfl, by rw [← hXA]; exact ev_one _ _, hXA.symm, hse⟩
                rw [hXA]
                clear hXA hse
                have HN : Hid (goL 0 Lm zeros17 [] = goL (q + 1) (Lm.drop (q + 1)) c (l ++ [x])) := Lib.hid (by rw [HQ.out.1, HX0.out (by omega)]; obtain ⟨q', rfl⟩ : ∃ q', q = q' + 1 := ⟨q - 1, by omega⟩; rw [goL, hcm])
                clear hcm
                go_upto_region 19 with (refine wpList_store_row rfl 55 (.tmp 15) (.tmp 67) rfl w5.heap.size XA rfl rfl 55 #[.int .i64 0, .int .i64 0, .int .i64 0, .int .i64 0, .int .i64 0, .int .i64 0, .bool false, .slice none 0 0] hb5 (by rw [HXA.out.1]; kernel_rfl) (by rw [HXA.out.1]; rfl) HXA.out.2.1 ?_)
                obtain ⟨w6, hw6⟩ : ∃ w6, (w5.alloc (.cells #[.int .i64 0, .int .i64 0, .int .i64 0, .int .i64 0, .int .i64 0, .int .i64 0, .bool false, .slice none 0 0] 55)).setRow w5.heap.size XA = w6 := ⟨_, rfl⟩
                obtain ⟨G, hG⟩ : ∃ G, w5.heap.size = G := ⟨_, rfl⟩
                have H6 : Hid (Blk w6 G XA 55 ∧ Fr [] w5 w6) := Lib.hid ⟨by rw [← hw6, ← hG]; exact hb5.setRow, by rw [← hw6]; exact ((Fr.refl [] w5).alloc _).setRow _ (.inr (Nat.le_refl _))⟩
                rw [hw6, hG]
                clear hw6 hG hb5 hC5
                have hR6 := RRow.fr H6.out.2 H5.out.2.2
                obtain ⟨xs, hown, hall, hlen⟩ := hR6
                have hbw : w1.heap.size ≤ w6.heap.size := Nat.le_trans hw5 H6.out.2.size
                have HO := Lib.hid (And.intro hown (And.intro hall hlen))
                clear hown hall hlen hw5
                have HBS : Hid (∀ w, (Instr.buildSlice 41 1 #[(0, .agg XA)]).run Tryd.prog w = .ok (.slice (some ⟨w.heap.size, 0, none⟩) 1 1) (w.alloc (.cells XA 55))) := Lib.hid (fun w => by rw [HXA.out.2.2.1]; exact bs_run x se w)
                have hxs : XA.toList.length = 1 * 8 := by rw [Array.length_toList, HXA.out.1]
                have hx1 : ∀ u ∈ XA.toList, u.oneCell' = true := fun u hu => (Array.all_eq_true_iff_forall_mem.1 HXA.out.2.1) u (by simpa using hu)
                go_wp2_with (first | (refine wpList_load_row rfl 55 (.tmp 15) rfl G rfl 55 XA (0, 0) _ H6.out.1 Tryd.underlying55 rfl (by rw [HXA.out.1]; kernel_rfl) ?_) | (refine wpList_bs1 rfl 41 (.tmp 74) rfl XA rfl _ (HBS.out _) ?_) | (at_builtin; refine wpList_append_src rfl _ _ 41 rfl (w1.heap.size) 55 i0 (.agg ((EV.zero 0).arr Sl.nil)) 8 80 hun hi0 hz0 hz1 hz2 rfl (by decide) _ _ _ rfl (HO.out.1.alloc _) _ 1 XA.toList rfl Src.one hxs hx1 (by unfold maxLen; omega) (by omega) (by first | (simp; done) | (simp; omega)) ?_))
                intro v' we hown8 hgrow
                obtain ⟨sn, rfl⟩ := own_sl' hown8
                have HW : Hid (Fr [C] w1 we ∧ Blk we C (intsV c) 40 ∧ RRow 0 w1.heap.size sn (l ++ [x]) we) := Lib.hid (by
                  have ho9 := HO.out.1.alloc (.cells XA 55)
                  have fg : Fr [C] w1 we := ((H5.out.1.tr0 H6.out.2).alloc (.cells XA 55)).grown hgrow (fun k hk => .inr (ho9.lt k hk).1)
                  have fr8 : Fr sl.blk (w6.alloc (.cells XA 55)) we := Fr.grownL hgrow
                  have hC8 : Blk we C (intsV c) 40 := ((H5.out.2.1.fr H6.out.2 (by simp)).alloc _).ofTy fr8 (TyOut.own ho9 (by decide))
                  refine ⟨fg, hC8, ?_⟩
                  have hoff : ∀ y ∈ sl.blk, 0 ≤ y ∧ ∀ cs fz, (w6.alloc (.cells XA 55)).heap[y]? ≠ some (.cells cs 5 fz) := fun y hy => by
                    obtain ⟨h1, cs, h2⟩ := own_blk ho9 y hy
                    exact ⟨Nat.zero_le _, fun cs' fz e => by rw [h2] at e; cases e⟩
                  have f6 : Fr [] w5 (w6.alloc (.cells XA 55)) := H6.out.2.alloc _
                  refine RowG.push (w := w6) (xs := xs) (cs := XA.toList) HO.out.2.1 HO.out.2.2 hown8 (fun cs d ⟨sd, e1, hb1⟩ => ⟨sd, e1, (hb1.fr ((Fr.refl [] _).alloc _)).frL fr8 hoff⟩) (by rw [Array.length_toList, HXA.out.1]) ⟨se, by rw [HXA.out.2.2.1], (HXA.out.2.2.2.fr f6).frL fr8 hoff⟩)
                clear hown8 hgrow hbw hxs hx1
                go_wp2
                go_roundw
                case rel => exact ⟨q + 1, sn, c, l ++ [x], rfl, by go_num, by omega, by omega, HN.out, HQ.out.2.1, HQ.out.2.2.1, HW.out.2.1, HW.out.2.2, HW.out.1, fun h => by omega, by simp; omega⟩
                case measure => simp [intOf]; omega
          | false =>
            have hln8 : L.length = n + 1 := by simpa using hln9
            clear hln9
            by_cases hqn2 : q < n
            · clear hlz
              as_aux_lemma =>
              by_cases hq00 : q = 0
              · have hl0 : l = [] ∧ c = zeros17 := HQ0.out hq00
                have HQZ := Lib.hid hq00
                have qz : ((q : Int) == 0) = true := by rw [beq_iff_eq]; omega
                clear hq00
                have wl : IntKind.i64.wrap ((Ln : Int) - 1) = (n : Int) := by rw [IntWalk.i64_in _ (by omega)]; omega
                have dq : decide ((q : Int) < (n : Int)) = true := by simp; omega
                have hcf := r28_config wr sx hsz
                go_wp2_with fail
                refine hcf.mono ?_
                rintro e w5 ⟨hp5, f5⟩
                have H5 := Lib.hid (And.intro (HQ.out.2.2.2.2.2.tr0 f5) (And.intro (HQ.out.2.2.2.1.fr f5 (by simp)) (RRow.fr f5 HQ.out.2.2.2.2.1)))
                have hb5 : Blk (w5.alloc (.cells (intsV zeros17) 40)) w5.heap.size (intsV zeros17) 40 := Blk.new _ _ _
                have hC5 : C < w5.heap.size := H5.out.2.1.lt
                have hw5 : w1.heap.size ≤ w5.heap.size := H5.out.1.size
                rw [HSX.out] at hp5
                clear hcf f5 cw
                cases hcm : configM (splitc 32 x0) with
                | none =>
                  rw [hcm] at hp5
                  dsimp only at hp5
                  subst hp5
                  have hss : (intsV zeros17).size = 17 := rfl
                  have HN : Hid (parseM s.bytes = .error ((q : Int) + 1, 12)) := Lib.hid (by rw [HP.out, HQ.out.1, HX0.out (by omega), hl0.2]; have h0 := HQZ.out; subst h0; rw [goL, hcm]; rfl)
                  clear hcm
                  go_upto_region 20 with (first | (refine wpList_store_row rfl 40 (.tmp 13) (.tmp 54) rfl w5.heap.size (intsV zeros17) rfl rfl 40 (intsV zeros17) hb5 (by rw [hss]; kernel_rfl) (by first | rfl | (rw [hss]; rfl)) (intsV_one _) ?_) | (refine wpList_load_row rfl 40 (.tmp 13) rfl w5.heap.size rfl 40 (intsV zeros17) (0, 0) _ hb5.setRow Tryd.underlying40 rfl (by rw [hss]; kernel_rfl) ?_) | (refine wpList_store_row rfl 40 (.tmp 9) (.tmp 60) rfl C (intsV zeros17) rfl rfl 40 (intsV c) (((H5.out.2.1.alloc _).fr ((Fr.refl [w5.heap.size] _).setRow _ (.inl (by simp))) (by simp; omega))) (by rw [hss]; kernel_rfl) (by rw [hss]; simp [intsV, HQ.out.2.1]) (intsV_one _) ?_))
                  obtain ⟨we, hwe⟩ : ∃ we, ((w5.alloc (.cells (intsV zeros17) 40)).setRow w5.heap.size (intsV zeros17)).setRow C (intsV zeros17) = we := ⟨_, rfl⟩
                  have HW : Hid (Fr [C] w1 we ∧ Blk we C (intsV zeros17) 40 ∧ RRow 0 w1.heap.size sl [] we) := Lib.hid (by
                    rw [← hwe]
                    have fa : Fr [C] w5 (((w5.alloc (.cells (intsV zeros17) 40)).setRow w5.heap.size (intsV zeros17)).setRow C (intsV zeros17)) := (((Fr.refl [C] w5).alloc _).setRow _ (.inr (Nat.le_refl _))).setRow _ (.inl (by simp))
                    refine ⟨H5.out.1.tr fa, (((H5.out.2.1.alloc _).fr ((Fr.refl [w5.heap.size] _).setRow _ (.inl (by simp))) (by simp; omega))).setRow, ?_⟩
                    have h9 := H5.out.2.2
                    rw [hl0.1] at h9
                    exact h9.frC fa H5.out.2.1)
                  rw [show (#[Value.int .i64 0, Value.int .i64 0, Value.int .i64 0, Value.int .i64 0, Value.int .i64 0, Value.int .i64 0, Value.int .i64 0, Value.int .i64 0, Value.int .i64 0, Value.int .i64 0, Value.int .i64 0, Value.int .i64 0, Value.int .i64 0, Value.int .i64 0, Value.int .i64 0, Value.int .i64 0, Value.int .i64 0] : Array Value) = intsV zeros17 from rfl, hwe]
                  clear hwe hb5 hC5 hw5 hss
                  have wqe : IntKind.i64.wrap ((q : Int) + 1) = (q : Int) + 1 := wq
                  have hbZ := H1.out.2.2.1.fr HW.out.1 (by simpa using hZC)
                  have hbR := H1.out.2.2.2.1.fr HW.out.1 (by simpa using hRC)
                  go_wp2_with (first | (refine wpList_load_row rfl 40 (.tmp 6) rfl Z rfl 40 (intsV zeros17) (0, 0) _ hbZ Tryd.underlying40 rfl (by kernel_rfl) ?_) | (refine wpList_store_row rfl 40 (.tmp 2) (.tmp 79) rfl R (intsV zeros17) rfl rfl 40 (intsV zeros17) hbR (by kernel_rfl) rfl (intsV_one _) ?_))
                  refine bodyPost_ret (v := .tuple #[.agg (intsV zeros17), .slice none 0 0, .int .i64 ((q : Int) + 1), .int .i64 12]) (results_cell3 Tryd.results9 _ _ R _ _ _ _ _ _ _ rfl rfl rfl rfl hbR.setRow Tryd.underlying40 rfl (by kernel_rfl)) rfl ?_
                  exact RParsePost.no HN.out ((H1.out.1.trans HW.out.1 (fun y hy => by simp at hy; subst hy; exact .inr hCw)).setRow _ (.inr hRw))
                | some c' =>
                  rw [hcm] at hp5
                  obtain ⟨rfl, hc17, hci⟩ := hp5
                  have hss : (intsV c').size = 17 := by simp [intsV, hc17]
                  have HN : Hid (goL 0 Lm zeros17 [] = goL (q + 1) (Lm.drop (q + 1)) c' [] ∧ c'.length = 17 ∧ ∀ y ∈ c', In64 y) := Lib.hid ⟨by rw [HQ.out.1, HX0.out (by omega), hl0.1, hl0.2]; have h0 := HQZ.out; subst h0; rw [goL, hcm], hc17, hci⟩
                  clear hcm
                  go_upto_region 20 with (first | (refine wpList_store_row rfl 40 (.tmp 13) (.tmp 54) rfl w5.heap.size (intsV c') rfl rfl 40 (intsV zeros17) hb5 (by rw [hss]; kernel_rfl) (by first | rfl | (rw [hss]; rfl)) (intsV_one _) ?_) | (refine wpList_load_row rfl 40 (.tmp 13) rfl w5.heap.size rfl 40 (intsV c') (0, 0) _ hb5.setRow Tryd.underlying40 rfl (by rw [hss]; kernel_rfl) ?_) | (refine wpList_store_row rfl 40 (.tmp 9) (.tmp 60) rfl C (intsV c') rfl rfl 40 (intsV c) (((H5.out.2.1.alloc _).fr ((Fr.refl [w5.heap.size] _).setRow _ (.inl (by simp))) (by simp; omega))) (by rw [hss]; kernel_rfl) (by rw [hss]; simp [intsV, HQ.out.2.1]) (intsV_one _) ?_))
                  obtain ⟨we, hwe⟩ : ∃ we, ((w5.alloc (.cells (intsV zeros17) 40)).setRow w5.heap.size (intsV c')).setRow C (intsV c') = we := ⟨_, rfl⟩
                  have HW : Hid (Fr [C] w1 we ∧ Blk we C (intsV c') 40 ∧ RRow 0 w1.heap.size sl [] we) := Lib.hid (by
                    rw [← hwe]
                    have fa : Fr [C] w5 (((w5.alloc (.cells (intsV zeros17) 40)).setRow w5.heap.size (intsV c')).setRow C (intsV c')) := (((Fr.refl [C] w5).alloc _).setRow _ (.inr (Nat.le_refl _))).setRow _ (.inl (by simp))
                    refine ⟨H5.out.1.tr fa, (((H5.out.2.1.alloc _).fr ((Fr.refl [w5.heap.size] _).setRow _ (.inl (by simp))) (by simp; omega))).setRow, ?_⟩
                    have h9 := H5.out.2.2
                    rw [hl0.1] at h9
                    exact h9.frC fa H5.out.2.1)
                  rw [show (#[Value.int .i64 0, Value.int .i64 0, Value.int .i64 0, Value.int .i64 0, Value.int .i64 0, Value.int .i64 0, Value.int .i64 0, Value.int .i64 0, Value.int .i64 0, Value.int .i64 0, Value.int .i64 0, Value.int .i64 0, Value.int .i64 0, Value.int .i64 0, Value.int .i64 0, Value.int .i64 0, Value.int .i64 0] : Array Value) = intsV zeros17 from rfl, hwe]
                  clear hwe hb5 hC5 hw5 hss
                  go_wp2
                  go_roundw
                  case rel => exact ⟨q + 1, sl, c', [], rfl, by go_num, by omega, by omega, HN.out.1, HN.out.2.1, HN.out.2.2, HW.out.2.1, HW.out.2.2, HW.out.1, fun h => by omega, by simp⟩
                  case measure => simp [intOf]; omega
              · have hqp : 0 < q := by omega
                have qz : ((q : Int) == 0) = false := by rw [beq_eq_false_iff_ne]; omega
                clear hq00
                have wl : IntKind.i64.wrap ((Ln : Int) - 1) = (n : Int) := by rw [IntWalk.i64_in _ (by omega)]; omega
                have dq : decide ((q : Int) < (n : Int)) = true := by simp; omega
                have hcf := r28_event wr sx hsz
                go_wp2_with fail
                refine hcf.mono ?_
                rintro e w5 ⟨hp5, f5⟩
                have H5 := Lib.hid (And.intro (HQ.out.2.2.2.2.2.tr0 f5) (And.intro (HQ.out.2.2.2.1.fr f5 (by simp)) (RRow.fr f5 HQ.out.2.2.2.2.1)))
                have hb5 : Blk (w5.alloc (.cells #[.int .i64 0, .int .i64 0, .int .i64 0, .int .i64 0, .int .i64 0, .int .i64 0, .bool false, .slice none 0 0] 55)) w5.heap.size #[.int .i64 0, .int .i64 0, .int .i64 0, .int .i64 0, .int .i64 0, .int .i64 0, .bool false, .slice none 0 0] 55 := Blk.new _ _ _
                have hC5 : C < w5.heap.size := H5.out.2.1.lt
                have hw5 : w1.heap.size ≤ w5.heap.size := H5.out.1.size
                rw [HSX.out] at hp5
                clear hcf f5 cw
                cases hcm : eventM (splitc 32 x0) with
                | none =>
                  rw [hcm] at hp5
                  dsimp only at hp5
                  subst hp5
                  obtain ⟨XA, hXA⟩ : ∃ XA, (#[.int .i64 0, .int .i64 0, .int .i64 0, .int .i64 0, .int .i64 0, .int .i64 0, .bool false, .slice none 0 0] : Array Value) = XA := ⟨_, rfl⟩
                  have HXA : Hid (XA.size = 8 ∧ XA.all (·.oneCell') = true ∧ XA = #[.int .i64 0, .int .i64 0, .int .i64 0, .int .i64 0, .int .i64 0, .int .i64 0, .bool false, .slice none 0 0]) := Lib.hid ⟨by rw [← hXA]; rfl, by rw [← hXA]; simp [Value.oneCell'], hXA.symm⟩
                  rw [hXA]
                  clear hXA
                  have HN : Hid (parseM s.bytes = .error ((q : Int) + 1, 12)) := Lib.hid (by rw [HP.out, HQ.out.1, HX0.out (by omega)]; obtain ⟨q', rfl⟩ : ∃ q', q = q' + 1 := ⟨q - 1, by omega⟩; rw [goL, hcm, endM_err, show (((q' + 1 : Nat) : Int) + 1) = (q' : Int) + 2 by omega])
                  clear hcm
                  go_upto_region 19 with (refine wpList_store_row rfl 55 (.tmp 15) (.tmp 67) rfl w5.heap.size XA rfl rfl 55 #[.int .i64 0, .int .i64 0, .int .i64 0, .int .i64 0, .int .i64 0, .int .i64 0, .bool false, .slice none 0 0] hb5 (by rw [HXA.out.1]; kernel_rfl) (by rw [HXA.out.1]; rfl) HXA.out.2.1 ?_)
                  obtain ⟨w6, hw6⟩ : ∃ w6, (w5.alloc (.cells #[.int .i64 0, .int .i64 0, .int .i64 0, .int .i64 0, .int .i64 0, .int .i64 0, .bool false, .slice none 0 0] 55)).setRow w5.heap.size XA = w6 := ⟨_, rfl⟩
                  obtain ⟨G, hG⟩ : ∃ G, w5.heap.size = G := ⟨_, rfl⟩
                  have H6 : Hid (Blk w6 G XA 55 ∧ Fr [] w5 w6) := Lib.hid ⟨by rw [← hw6, ← hG]; exact hb5.setRow, by rw [← hw6]; exact ((Fr.refl [] w5).alloc _).setRow _ (.inr (Nat.le_refl _))⟩
                  rw [hw6, hG]
                  clear hw6 hG hb5 hC5
                  have hR6 := RRow.fr H6.out.2 H5.out.2.2
                  obtain ⟨xs, hown, hall, hlen⟩ := hR6
                  have hbw : w1.heap.size ≤ w6.heap.size := Nat.le_trans hw5 H6.out.2.size
                  have HO := Lib.hid (And.intro hown (And.intro hall hlen))
                  clear hown hall hlen hw5
                  have HBS : Hid (∀ w, (Instr.buildSlice 41 1 #[(0, .agg XA)]).run Tryd.prog w = .ok (.slice (some ⟨w.heap.size, 0, none⟩) 1 1) (w.alloc (.cells XA 55))) := Lib.hid (fun w => by rw [HXA.out.2.2]; exact bs_run (EV.zero 0) Sl.nil w)
                  have hxs : XA.toList.length = 1 * 8 := by rw [Array.length_toList, HXA.out.1]
                  have hx1 : ∀ u ∈ XA.toList, u.oneCell' = true := fun u hu => (Array.all_eq_true_iff_forall_mem.1 HXA.out.2.1) u (by simpa using hu)
                  go_wp2_with (first | (refine wpList_load_row rfl 55 (.tmp 15) rfl G rfl 55 XA (0, 0) _ H6.out.1 Tryd.underlying55 rfl (by rw [HXA.out.1]; kernel_rfl) ?_) | (refine wpList_bs1 rfl 41 (.tmp 74) rfl XA rfl _ (HBS.out _) ?_) | (at_builtin; refine wpList_append_src rfl _ _ 41 rfl (w1.heap.size) 55 i0 (.agg ((EV.zero 0).arr Sl.nil)) 8 80 hun hi0 hz0 hz1 hz2 rfl (by decide) _ _ _ rfl (HO.out.1.alloc _) _ 1 XA.toList rfl Src.one hxs hx1 (by unfold maxLen; omega) (by omega) (by first | (simp; done) | (simp; omega)) ?_))
                  intro v' we hown8 hgrow
                  obtain ⟨sn, rfl⟩ := own_sl' hown8
                  have HW : Hid (Fr [C] w1 we ∧ Blk we C (intsV c) 40) := Lib.hid (by
                    have ho9 := HO.out.1.alloc (.cells XA 55)
                    have fg : Fr [C] w1 we := ((H5.out.1.tr0 H6.out.2).alloc (.cells XA 55)).grown hgrow (fun k hk => .inr (ho9.lt k hk).1)
                    have fr8 : Fr sl.blk (w6.alloc (.cells XA 55)) we := Fr.grownL hgrow
                    have hC8 : Blk we C (intsV c) 40 := ((H5.out.2.1.fr H6.out.2 (by simp)).alloc _).ofTy fr8 (TyOut.own ho9 (by decide))
                    refine ⟨fg, hC8⟩)
                  clear hown8 hgrow hbw hxs hx1
                  have wqe : IntKind.i64.wrap ((q : Int) + 1) = (q : Int) + 1 := wq
                  have hbZ := H1.out.2.2.1.fr HW.out.1 (by simpa using hZC)
                  have hbR := H1.out.2.2.2.1.fr HW.out.1 (by simpa using hRC)
                  go_wp2_with (first | (refine wpList_load_row rfl 40 (.tmp 6) rfl Z rfl 40 (intsV zeros17) (0, 0) _ hbZ Tryd.underlying40 rfl (by kernel_rfl) ?_) | (refine wpList_store_row rfl 40 (.tmp 2) (.tmp 79) rfl R (intsV zeros17) rfl rfl 40 (intsV zeros17) hbR (by kernel_rfl) rfl (intsV_one _) ?_))
                  refine bodyPost_ret (v := .tuple #[.agg (intsV zeros17), .slice none 0 0, .int .i64 ((q : Int) + 1), .int .i64 12]) (results_cell3 Tryd.results9 _ _ R _ _ _ _ _ _ _ rfl rfl rfl rfl hbR.setRow Tryd.underlying40 rfl (by kernel_rfl)) rfl ?_
                  exact RParsePost.no HN.out ((H1.out.1.trans HW.out.1 (fun y hy => by simp at hy; subst hy; exact .inr hCw)).setRow _ (.inr hRw))
                | some x =>
                  rw [hcm] at hp5
                  obtain ⟨se, rfl, hse⟩ := hp5
                  obtain ⟨XA, hXA⟩ : ∃ XA, x.arr se = XA := ⟨_, rfl⟩
                  have HXA : Hid (XA.size = 8 ∧ XA.all (·.oneCell') = true ∧ XA = x.arr se ∧ Bts 0 w5 se (bytesI x.b)) := Lib.hid ⟨by rw [← hXA]; rfl, by rw [← hXA]; exact ev_one _ _, hXA.symm, hse⟩
                  rw [hXA]
                  clear hXA hse
                  have HN : Hid (goL 0 Lm zeros17 [] = goL (q + 1) (Lm.drop (q + 1)) c (l ++ [x])) := Lib.hid (by rw [HQ.out.1, HX0.out (by omega)]; obtain ⟨q', rfl⟩ : ∃ q', q = q' + 1 := ⟨q - 1, by omega⟩; rw [goL, hcm])
                  clear hcm
                  go_upto_region 19 with (refine wpList_store_row rfl 55 (.tmp 15) (.tmp 67) rfl w5.heap.size XA rfl rfl 55 #[.int .i64 0, .int .i64 0, .int .i64 0, .int .i64 0, .int .i64 0, .int .i64 0, .bool false, .slice none 0 0] hb5 (by rw [HXA.out.1]; kernel_rfl) (by rw [HXA.out.1]; rfl) HXA.out.2.1 ?_)
                  obtain ⟨w6, hw6⟩ : ∃ w6, (w5.alloc (.cells #[.int .i64 0, .int .i64 0, .int .i64 0, .int .i64 0, .int .i64 0, .int .i64 0, .bool false, .slice none 0 0] 55)).setRow w5.heap.size XA = w6 := ⟨_, rfl⟩
                  obtain ⟨G, hG⟩ : ∃ G, w5.heap.size = G := ⟨_, rfl⟩
                  have H6 : Hid (Blk w6 G XA 55 ∧ Fr [] w5 w6) := Lib.hid ⟨by rw [← hw6, ← hG]; exact hb5.setRow, by rw [← hw6]; exact ((Fr.refl [] w5).alloc _).setRow _ (.inr (Nat.le_refl _))⟩
                  rw [hw6, hG]
                  clear hw6 hG hb5 hC5
                  have hR6 := RRow.fr H6.out.2 H5.out.2.2
                  obtain ⟨xs, hown, hall, hlen⟩ := hR6
                  have hbw : w1.heap.size ≤ w6.heap.size := Nat.le_trans hw5 H6.out.2.size
                  have HO := Lib.hid (And.intro hown (And.intro hall hlen))
                  clear hown hall hlen hw5
                  have HBS : Hid (∀ w, (Instr.buildSlice 41 1 #[(0, .agg XA)]).run Tryd.prog w = .ok (.slice (some ⟨w.heap.size, 0, none⟩) 1 1) (w.alloc (.cells XA 55))) := Lib.hid (fun w => by rw [HXA.out.2.2.1]; exact bs_run x se w)
                  have hxs : XA.toList.length = 1 * 8 := by rw [Array.length_toList, HXA.out.1]
                  have hx1 : ∀ u ∈ XA.toList, u.oneCell' = true := fun u hu => (Array.all_eq_true_iff_forall_mem.1 HXA.out.2.1) u (by simpa using hu)
                  go_wp2_with (first | (refine wpList_load_row rfl 55 (.tmp 15) rfl G rfl 55 XA (0, 0) _ H6.out.1 Tryd.underlying55 rfl (by rw [HXA.out.1]; kernel_rfl) ?_) | (refine wpList_bs1 rfl 41 (.tmp 74) rfl XA rfl _ (HBS.out _) ?_) | (at_builtin; refine wpList_append_src rfl _ _ 41 rfl (w1.heap.size) 55 i0 (.agg ((EV.zero 0).arr Sl.nil)) 8 80 hun hi0 hz0 hz1 hz2 rfl (by decide) _ _ _ rfl (HO.out.1.alloc _) _ 1 XA.toList rfl Src.one hxs hx1 (by unfold maxLen; omega) (by omega) (by first | (simp; done) | (simp; omega)) ?_))
                  intro v' we hown8 hgrow
                  obtain ⟨sn, rfl⟩ := own_sl' hown8
                  have HW : Hid (Fr [C] w1 we ∧ Blk we C (intsV c) 40 ∧ RRow 0 w1.heap.size sn (l ++ [x]) we) := Lib.hid (by
                    have ho9 := HO.out.1.alloc (.cells XA 55)
                    have fg : Fr [C] w1 we := ((H5.out.1.tr0 H6.out.2).alloc (.cells XA 55)).grown hgrow (fun k hk => .inr (ho9.lt k hk).1)
                    have fr8 : Fr sl.blk (w6.alloc (.cells XA 55)) we := Fr.grownL hgrow
                    have hC8 : Blk we C (intsV c) 40 := ((H5.out.2.1.fr H6.out.2 (by simp)).alloc _).ofTy fr8 (TyOut.own ho9 (by decide))
                    refine ⟨fg, hC8, ?_⟩
                    have hoff : ∀ y ∈ sl.blk, 0 ≤ y ∧ ∀ cs fz, (w6.alloc (.cells XA 55)).heap[y]? ≠ some (.cells cs 5 fz) := fun y hy => by
                      obtain ⟨h1, cs, h2⟩ := own_blk ho9 y hy
                      exact ⟨Nat.zero_le _, fun cs' fz e => by rw [h2] at e; cases e⟩
                    have f6 : Fr [] w5 (w6.alloc (.cells XA 55)) := H6.out.2.alloc _
                    refine RowG.push (w := w6) (xs := xs) (cs := XA.toList) HO.out.2.1 HO.out.2.2 hown8 (fun cs d ⟨sd, e1, hb1⟩ => ⟨sd, e1, (hb1.fr ((Fr.refl [] _).alloc _)).frL fr8 hoff⟩) (by rw [Array.length_toList, HXA.out.1]) ⟨se, by rw [HXA.out.2.2.1], (HXA.out.2.2.2.fr f6).frL fr8 hoff⟩)
                  clear hown8 hgrow hbw hxs hx1
                  go_wp2
                  go_roundw
                  case rel => exact ⟨q + 1, sn, c, l ++ [x], rfl, by go_num, by omega, by omega, HN.out, HQ.out.2.1, HQ.out.2.2.1, HW.out.2.1, HW.out.2.2, HW.out.1, fun h => by omega, by simp; omega⟩
                  case measure => simp [intOf]; omega
            · have HLZ := Lib.hid (hlz rfl)
              clear hlz
              as_aux_lemma =>
              by_cases hq00 : q = 0
              · have hl0 : l = [] ∧ c = zeros17 := HQ0.out hq00
                have HQZ := Lib.hid hq00
                have qz : ((q : Int) == 0) = true := by rw [beq_iff_eq]; omega
                clear hq00
                have wl : IntKind.i64.wrap ((Ln : Int) - 1) = (n : Int) := by rw [IntWalk.i64_in _ (by omega)]; omega
                have dq : decide ((q : Int) < (n : Int)) = false := by simp; omega
                have hcf := r28_config wr sx hsz
                go_wp2_with fail
                refine hcf.mono ?_
                rintro e w5 ⟨hp5, f5⟩
                have H5 := Lib.hid (And.intro (HQ.out.2.2.2.2.2.tr0 f5) (And.intro (HQ.out.2.2.2.1.fr f5 (by simp)) (RRow.fr f5 HQ.out.2.2.2.2.1)))
                have hb5 : Blk (w5.alloc (.cells (intsV zeros17) 40)) w5.heap.size (intsV zeros17) 40 := Blk.new _ _ _
                have hC5 : C < w5.heap.size := H5.out.2.1.lt
                have hw5 : w1.heap.size ≤ w5.heap.size := H5.out.1.size
                rw [HSX.out] at hp5
                clear hcf f5 cw
                cases hcm : configM (splitc 32 x0) with
                | none =>
                  rw [hcm] at hp5
                  dsimp only at hp5
                  subst hp5
                  have hss : (intsV zeros17).size = 17 := rfl
                  have HN : Hid (parseM s.bytes = .error ((q : Int) + 1, 12)) := Lib.hid (HPE.out q c l (by omega) HLZ.out HQ.out.1)
                  clear hcm
                  go_upto_region 20 with (first | (refine wpList_store_row rfl 40 (.tmp 13) (.tmp 54) rfl w5.heap.size (intsV zeros17) rfl rfl 40 (intsV zeros17) hb5 (by rw [hss]; kernel_rfl) (by first | rfl | (rw [hss]; rfl)) (intsV_one _) ?_) | (refine wpList_load_row rfl 40 (.tmp 13) rfl w5.heap.size rfl 40 (intsV zeros17) (0, 0) _ hb5.setRow Tryd.underlying40 rfl (by rw [hss]; kernel_rfl) ?_) | (refine wpList_store_row rfl 40 (.tmp 9) (.tmp 60) rfl C (intsV zeros17) rfl rfl 40 (intsV c) (((H5.out.2.1.alloc _).fr ((Fr.refl [w5.heap.size] _).setRow _ (.inl (by simp))) (by simp; omega))) (by rw [hss]; kernel_rfl) (by rw [hss]; simp [intsV, HQ.out.2.1]) (intsV_one _) ?_))
                  obtain ⟨we, hwe⟩ : ∃ we, ((w5.alloc (.cells (intsV zeros17) 40)).setRow w5.heap.size (intsV zeros17)).setRow C (intsV zeros17) = we := ⟨_, rfl⟩
                  have HW : Hid (Fr [C] w1 we ∧ Blk we C (intsV zeros17) 40 ∧ RRow 0 w1.heap.size sl [] we) := Lib.hid (by
                    rw [← hwe]
                    have fa : Fr [C] w5 (((w5.alloc (.cells (intsV zeros17) 40)).setRow w5.heap.size (intsV zeros17)).setRow C (intsV zeros17)) := (((Fr.refl [C] w5).alloc _).setRow _ (.inr (Nat.le_refl _))).setRow _ (.inl (by simp))
                    refine ⟨H5.out.1.tr fa, (((H5.out.2.1.alloc _).fr ((Fr.refl [w5.heap.size] _).setRow _ (.inl (by simp))) (by simp; omega))).setRow, ?_⟩
                    have h9 := H5.out.2.2
                    rw [hl0.1] at h9
                    exact h9.frC fa H5.out.2.1)
                  rw [show (#[Value.int .i64 0, Value.int .i64 0, Value.int .i64 0, Value.int .i64 0, Value.int .i64 0, Value.int .i64 0, Value.int .i64 0, Value.int .i64 0, Value.int .i64 0, Value.int .i64 0, Value.int .i64 0, Value.int .i64 0, Value.int .i64 0, Value.int .i64 0, Value.int .i64 0, Value.int .i64 0, Value.int .i64 0] : Array Value) = intsV zeros17 from rfl, hwe]
                  clear hwe hb5 hC5 hw5 hss
                  have wqe : IntKind.i64.wrap ((q : Int) + 1) = (q : Int) + 1 := wq
                  have hbZ := H1.out.2.2.1.fr HW.out.1 (by simpa using hZC)
                  have hbR := H1.out.2.2.2.1.fr HW.out.1 (by simpa using hRC)
                  go_wp2_with (first | (refine wpList_load_row rfl 40 (.tmp 6) rfl Z rfl 40 (intsV zeros17) (0, 0) _ hbZ Tryd.underlying40 rfl (by kernel_rfl) ?_) | (refine wpList_store_row rfl 40 (.tmp 2) (.tmp 79) rfl R (intsV zeros17) rfl rfl 40 (intsV zeros17) hbR (by kernel_rfl) rfl (intsV_one _) ?_))
                  refine bodyPost_ret (v := .tuple #[.agg (intsV zeros17), .slice none 0 0, .int .i64 ((q : Int) + 1), .int .i64 12]) (results_cell3 Tryd.results9 _ _ R _ _ _ _ _ _ _ rfl rfl rfl rfl hbR.setRow Tryd.underlying40 rfl (by kernel_rfl)) rfl ?_
                  exact RParsePost.no HN.out ((H1.out.1.trans HW.out.1 (fun y hy => by simp at hy; subst hy; exact .inr hCw)).setRow _ (.inr hRw))
                | some c' =>
                  rw [hcm] at hp5
                  obtain ⟨rfl, hc17, hci⟩ := hp5
                  have hss : (intsV c').size = 17 := by simp [intsV, hc17]
                  have HN : Hid (parseM s.bytes = .error ((q : Int) + 1, 12)) := Lib.hid (HPE.out q c l (by omega) HLZ.out HQ.out.1)
                  clear hcm
                  go_upto_region 20 with (first | (refine wpList_store_row rfl 40 (.tmp 13) (.tmp 54) rfl w5.heap.size (intsV c') rfl rfl 40 (intsV zeros17) hb5 (by rw [hss]; kernel_rfl) (by first | rfl | (rw [hss]; rfl)) (intsV_one _) ?_) | (refine wpList_load_row rfl 40 (.tmp 13) rfl w5.heap.size rfl 40 (intsV c') (0, 0) _ hb5.setRow Tryd.underlying40 rfl (by rw [hss]; kernel_rfl) ?_) | (refine wpList_store_row rfl 40 (.tmp 9) (.tmp 60) rfl C (intsV c') rfl rfl 40 (intsV c) (((H5.out.2.1.alloc _).fr ((Fr.refl [w5.heap.size] _).setRow _ (.inl (by simp))) (by simp; omega))) (by rw [hss]; kernel_rfl) (by rw [hss]; simp [intsV, HQ.out.2.1]) (intsV_one _) ?_))
                  obtain ⟨we, hwe⟩ : ∃ we, ((w5.alloc (.cells (intsV zeros17) 40)).setRow w5.heap.size (intsV c')).setRow C (intsV c') = we := ⟨_, rfl⟩
                  have HW : Hid (Fr [C] w1 we ∧ Blk we C (intsV c') 40 ∧ RRow 0 w1.heap.size sl [] we) := Lib.hid (by
                    rw [← hwe]
                    have fa : Fr [C] w5 (((w5.alloc (.cells (intsV zeros17) 40)).setRow w5.heap.size (intsV c')).setRow C (intsV c')) := (((Fr.refl [C] w5).alloc _).setRow _ (.inr (Nat.le_refl _))).setRow _ (.inl (by simp))
                    refine ⟨H5.out.1.tr fa, (((H5.out.2.1.alloc _).fr ((Fr.refl [w5.heap.size] _).setRow _ (.inl (by simp))) (by simp; omega))).setRow, ?_⟩
                    have h9 := H5.out.2.2
                    rw [hl0.1] at h9
                    exact h9.frC fa H5.out.2.1)
                  rw [show (#[Value.int .i64 0, Value.int .i64 0, Value.int .i64 0, Value.int .i64 0, Value.int .i64 0, Value.int .i64 0, Value.int .i64 0, Value.int .i64 0, Value.int .i64 0, Value.int .i64 0, Value.int .i64 0, Value.int .i64 0, Value.int .i64 0, Value.int .i64 0, Value.int .i64 0, Value.int .i64 0, Value.int .i64 0] : Array Value) = intsV zeros17 from rfl, hwe]
                  clear hwe hb5 hC5 hw5 hss
                  have wqe : IntKind.i64.wrap ((q : Int) + 1) = (q : Int) + 1 := wq
                  have hbZ := H1.out.2.2.1.fr HW.out.1 (by simpa using hZC)
                  have hbR := H1.out.2.2.2.1.fr HW.out.1 (by simpa using hRC)
                  go_wp2_with (first | (refine wpList_load_row rfl 40 (.tmp 6) rfl Z rfl 40 (intsV zeros17) (0, 0) _ hbZ Tryd.underlying40 rfl (by kernel_rfl) ?_) | (refine wpList_store_row rfl 40 (.tmp 2) (.tmp 79) rfl R (intsV zeros17) rfl rfl 40 (intsV zeros17) hbR (by kernel_rfl) rfl (intsV_one _) ?_))
                  refine bodyPost_ret (v := .tuple #[.agg (intsV zeros17), .slice none 0 0, .int .i64 ((q : Int) + 1), .int .i64 12]) (results_cell3 Tryd.results9 _ _ R _ _ _ _ _ _ _ rfl rfl rfl rfl hbR.setRow Tryd.underlying40 rfl (by kernel_rfl)) rfl ?_
                  exact RParsePost.no HN.out ((H1.out.1.trans HW.out.1 (fun y hy => by simp at hy; subst hy; exact .inr hCw)).setRow _ (.inr hRw))
              · have hqp : 0 < q := by omega
                have qz : ((q : Int) == 0) = false := by rw [beq_eq_false_iff_ne]; omega
                clear hq00
                have wl : IntKind.i64.wrap ((Ln : Int) - 1) = (n : Int) := by rw [IntWalk.i64_in _ (by omega)]; omega
                have dq : decide ((q : Int) < (n : Int)) = false := by simp; omega
                have hcf := r28_event wr sx hsz
                go_wp2_with fail
                refine hcf.mono ?_
                rintro e w5 ⟨hp5, f5⟩
                have H5 := Lib.hid (And.intro (HQ.out.2.2.2.2.2.tr0 f5) (And.intro (HQ.out.2.2.2.1.fr f5 (by simp)) (RRow.fr f5 HQ.out.2.2.2.2.1)))
                have hb5 : Blk (w5.alloc (.cells #[.int .i64 0, .int .i64 0, .int .i64 0, .int .i64 0, .int .i64 0, .int .i64 0, .bool false, .slice none 0 0] 55)) w5.heap.size #[.int .i64 0, .int .i64 0, .int .i64 0, .int .i64 0, .int .i64 0, .int .i64 0, .bool false, .slice none 0 0] 55 := Blk.new _ _ _
                have hC5 : C < w5.heap.size := H5.out.2.1.lt
                have hw5 : w1.heap.size ≤ w5.heap.size := H5.out.1.size
                rw [HSX.out] at hp5
                clear hcf f5 cw
                cases hcm : eventM (splitc 32 x0) with
                | none =>
                  rw [hcm] at hp5
                  dsimp only at hp5
                  subst hp5
                  obtain ⟨XA, hXA⟩ : ∃ XA, (#[.int .i64 0, .int .i64 0, .int .i64 0, .int .i64 0, .int .i64 0, .int .i64 0, .bool false, .slice none 0 0] : Array Value) = XA := ⟨_, rfl⟩
                  have HXA : Hid (XA.size = 8 ∧ XA.all (·.oneCell') = true ∧ XA = #[.int .i64 0, .int .i64 0, .int .i64 0, .int .i64 0, .int .i64 0, .int .i64 0, .bool false, .slice none 0 0]) := Lib.hid ⟨by rw [← hXA]; rfl, by rw [← hXA]; simp [Value.oneCell'], hXA.symm⟩
                  rw [hXA]
                  clear hXA
                  have HN : Hid (parseM s.bytes = .error ((q : Int) + 1, 12)) := Lib.hid (HPE.out q c l (by omega) HLZ.out HQ.out.1)
                  clear hcm
                  go_upto_region 19 with (refine wpList_store_row rfl 55 (.tmp 15) (.tmp 67) rfl w5.heap.size XA rfl rfl 55 #[.int .i64 0, .int .i64 0, .int .i64 0, .int .i64 0, .int .i64 0, .int .i64 0, .bool false, .slice none 0 0] hb5 (by rw [HXA.out.1]; kernel_rfl) (by rw [HXA.out.1]; rfl) HXA.out.2.1 ?_)
                  obtain ⟨w6, hw6⟩ : ∃ w6, (w5.alloc (.cells #[.int .i64 0, .int .i64 0, .int .i64 0, .int .i64 0, .int .i64 0, .int .i64 0, .bool false, .slice none 0 0] 55)).setRow w5.heap.size XA = w6 := ⟨_, rfl⟩
                  obtain ⟨G, hG⟩ : ∃ G, w5.heap.size = G := ⟨_, rfl⟩
                  have H6 : Hid (Blk w6 G XA 55 ∧ Fr [] w5 w6) := Lib.hid ⟨by rw [← hw6, ← hG]; exact hb5.setRow, by rw [← hw6]; exact ((Fr.refl [] w5).alloc _).setRow _ (.inr (Nat.le_refl _))⟩
                  rw [hw6, hG]
                  clear hw6 hG hb5 hC5
                  have hR6 := RRow.fr H6.out.2 H5.out.2.2
                  obtain ⟨xs, hown, hall, hlen⟩ := hR6
                  have hbw : w1.heap.size ≤ w6.heap.size := Nat.le_trans hw5 H6.out.2.size
                  have HO := Lib.hid (And.intro hown (And.intro hall hlen))
                  clear hown hall hlen hw5
                  have HBS : Hid (∀ w, (Instr.buildSlice 41 1 #[(0, .agg XA)]).run Tryd.prog w = .ok (.slice (some ⟨w.heap.size, 0, none⟩) 1 1) (w.alloc (.cells XA 55))) := Lib.hid (fun w => by rw [HXA.out.2.2]; exact bs_run (EV.zero 0) Sl.nil w)
                  have hxs : XA.toList.length = 1 * 8 := by rw [Array.length_toList, HXA.out.1]
                  have hx1 : ∀ u ∈ XA.toList, u.oneCell' = true := fun u hu => (Array.all_eq_true_iff_forall_mem.1 HXA.out.2.1) u (by simpa using hu)
                  go_wp2_with (first | (refine wpList_load_row rfl 55 (.tmp 15) rfl G rfl 55 XA (0, 0) _ H6.out.1 Tryd.underlying55 rfl (by rw [HXA.out.1]; kernel_rfl) ?_) | (refine wpList_bs1 rfl 41 (.tmp 74) rfl XA rfl _ (HBS.out _) ?_) | (at_builtin; refine wpList_append_src rfl _ _ 41 rfl (w1.heap.size) 55 i0 (.agg ((EV.zero 0).arr Sl.nil)) 8 80 hun hi0 hz0 hz1 hz2 rfl (by decide) _ _ _ rfl (HO.out.1.alloc _) _ 1 XA.toList rfl Src.one hxs hx1 (by unfold maxLen; omega) (by omega) (by first | (simp; done) | (simp; omega)) ?_))
                  intro v' we hown8 hgrow
                  obtain ⟨sn, rfl⟩ := own_sl' hown8
                  have HW : Hid (Fr [C] w1 we ∧ Blk we C (intsV c) 40) := Lib.hid (by
                    have ho9 := HO.out.1.alloc (.cells XA 55)
                    have fg : Fr [C] w1 we := ((H5.out.1.tr0 H6.out.2).alloc (.cells XA 55)).grown hgrow (fun k hk => .inr (ho9.lt k hk).1)
                    have fr8 : Fr sl.blk (w6.alloc (.cells XA 55)) we := Fr.grownL hgrow
                    have hC8 : Blk we C (intsV c) 40 := ((H5.out.2.1.fr H6.out.2 (by simp)).alloc _).ofTy fr8 (TyOut.own ho9 (by decide))
                    refine ⟨fg, hC8⟩)
                  clear hown8 hgrow hbw hxs hx1
                  have wqe : IntKind.i64.wrap ((q : Int) + 1) = (q : Int) + 1 := wq
                  have hbZ := H1.out.2.2.1.fr HW.out.1 (by simpa using hZC)
                  have hbR := H1.out.2.2.2.1.fr HW.out.1 (by simpa using hRC)
                  go_wp2_with (first | (refine wpList_load_row rfl 40 (.tmp 6) rfl Z rfl 40 (intsV zeros17) (0, 0) _ hbZ Tryd.underlying40 rfl (by kernel_rfl) ?_) | (refine wpList_store_row rfl 40 (.tmp 2) (.tmp 79) rfl R (intsV zeros17) rfl rfl 40 (intsV zeros17) hbR (by kernel_rfl) rfl (intsV_one _) ?_))
                  refine bodyPost_ret (v := .tuple #[.agg (intsV zeros17), .slice none 0 0, .int .i64 ((q : Int) + 1), .int .i64 12]) (results_cell3 Tryd.results9 _ _ R _ _ _ _ _ _ _ rfl rfl rfl rfl hbR.setRow Tryd.underlying40 rfl (by kernel_rfl)) rfl ?_
                  exact RParsePost.no HN.out ((H1.out.1.trans HW.out.1 (fun y hy => by simp at hy; subst hy; exact .inr hCw)).setRow _ (.inr hRw))
                | some x =>
                  rw [hcm] at hp5
                  obtain ⟨se, rfl, hse⟩ := hp5
                  obtain ⟨XA, hXA⟩ : ∃ XA, x.arr se = XA := ⟨_, rfl⟩
                  have HXA : Hid (XA.size = 8 ∧ XA.all (·.oneCell') = true ∧ XA = x.arr se ∧ Bts 0 w5 se (bytesI x.b)) := Lib.hid ⟨by rw [← hXA]; rfl, by rw [← hXA]; exact ev_one _ _, hXA.symm, hse⟩
                  rw [hXA]
                  clear hXA hse
                  have HN : Hid (parseM s.bytes = .error ((q : Int) + 1, 12)) := Lib.hid (HPE.out q c l (by omega) HLZ.out HQ.out.1)
                  clear hcm
                  go_upto_region 19 with (refine wpList_store_row rfl 55 (.tmp 15) (.tmp 67) rfl w5.heap.size XA rfl rfl 55 #[.int .i64 0, .int .i64 0, .int .i64 0, .int .i64 0, .int .i64 0, .int .i64 0, .bool false, .slice none 0 0] hb5 (by rw [HXA.out.1]; kernel_rfl) (by rw [HXA.out.1]; rfl) HXA.out.2.1 ?_)
                  obtain ⟨w6, hw6⟩ : ∃ w6, (w5.alloc (.cells #[.int .i64 0, .int .i64 0, .int .i64 0, .int .i64 0, .int .i64 0, .int .i64 0, .bool false, .slice none 0 0] 55)).setRow w5.heap.size XA = w6 := ⟨_, rfl⟩
                  obtain ⟨G, hG⟩ : ∃ G, w5.heap.size = G := ⟨_, rfl⟩
                  have H6 : Hid (Blk w6 G XA 55 ∧ Fr [] w5 w6) := Lib.hid ⟨by rw [← hw6, ← hG]; exact hb5.setRow, by rw [← hw6]; exact ((Fr.refl [] w5).alloc _).setRow _ (.inr (Nat.le_refl _))⟩
                  rw [hw6, hG]
                  clear hw6 hG hb5 hC5
                  have hR6 := RRow.fr H6.out.2 H5.out.2.2
                  obtain ⟨xs, hown, hall, hlen⟩ := hR6
                  have hbw : w1.heap.size ≤ w6.heap.size := Nat.le_trans hw5 H6.out.2.size
                  have HO := Lib.hid (And.intro hown (And.intro hall hlen))
                  clear hown hall hlen hw5
                  have HBS : Hid (∀ w, (Instr.buildSlice 41 1 #[(0, .agg XA)]).run Tryd.prog w = .ok (.slice (some ⟨w.heap.size, 0, none⟩) 1 1) (w.alloc (.cells XA 55))) := Lib.hid (fun w => by rw [HXA.out.2.2.1]; exact bs_run x se w)
                  have hxs : XA.toList.length = 1 * 8 := by rw [Array.length_toList, HXA.out.1]
                  have hx1 : ∀ u ∈ XA.toList, u.oneCell' = true := fun u hu => (Array.all_eq_true_iff_forall_mem.1 HXA.out.2.1) u (by simpa using hu)
                  go_wp2_with (first | (refine wpList_load_row rfl 55 (.tmp 15) rfl G rfl 55 XA (0, 0) _ H6.out.1 Tryd.underlying55 rfl (by rw [HXA.out.1]; kernel_rfl) ?_) | (refine wpList_bs1 rfl 41 (.tmp 74) rfl XA rfl _ (HBS.out _) ?_) | (at_builtin; refine wpList_append_src rfl _ _ 41 rfl (w1.heap.size) 55 i0 (.agg ((EV.zero 0).arr Sl.nil)) 8 80 hun hi0 hz0 hz1 hz2 rfl (by decide) _ _ _ rfl (HO.out.1.alloc _) _ 1 XA.toList rfl Src.one hxs hx1 (by unfold maxLen; omega) (by omega) (by first | (simp; done) | (simp; omega)) ?_))
                  intro v' we hown8 hgrow
                  obtain ⟨sn, rfl⟩ := own_sl' hown8
                  have HW : Hid (Fr [C] w1 we ∧ Blk we C (intsV c) 40 ∧ RRow 0 w1.heap.size sn (l ++ [x]) we) := Lib.hid (by
                    have ho9 := HO.out.1.alloc (.cells XA 55)
                    have fg : Fr [C] w1 we := ((H5.out.1.tr0 H6.out.2).alloc (.cells XA 55)).grown hgrow (fun k hk => .inr (ho9.lt k hk).1)
                    have fr8 : Fr sl.blk (w6.alloc (.cells XA 55)) we := Fr.grownL hgrow
                    have hC8 : Blk we C (intsV c) 40 := ((H5.out.2.1.fr H6.out.2 (by simp)).alloc _).ofTy fr8 (TyOut.own ho9 (by decide))
                    refine ⟨fg, hC8, ?_⟩
                    have hoff : ∀ y ∈ sl.blk, 0 ≤ y ∧ ∀ cs fz, (w6.alloc (.cells XA 55)).heap[y]? ≠ some (.cells cs 5 fz) := fun y hy => by
                      obtain ⟨h1, cs, h2⟩ := own_blk ho9 y hy
                      exact ⟨Nat.zero_le _, fun cs' fz e => by rw [h2] at e; cases e⟩
                    have f6 : Fr [] w5 (w6.alloc (.cells XA 55)) := H6.out.2.alloc _
                    refine RowG.push (w := w6) (xs := xs) (cs := XA.toList) HO.out.2.1 HO.out.2.2 hown8 (fun cs d ⟨sd, e1, hb1⟩ => ⟨sd, e1, (hb1.fr ((Fr.refl [] _).alloc _)).frL fr8 hoff⟩) (by rw [Array.length_toList, HXA.out.1]) ⟨se, by rw [HXA.out.2.2.1], (HXA.out.2.2.2.fr f6).frL fr8 hoff⟩)
                  clear hown8 hgrow hbw hxs hx1
                  have wqe : IntKind.i64.wrap ((q : Int) + 1) = (q : Int) + 1 := wq
                  have hbZ := H1.out.2.2.1.fr HW.out.1 (by simpa using hZC)
                  have hbR := H1.out.2.2.2.1.fr HW.out.1 (by simpa using hRC)
                  go_wp2_with (first | (refine wpList_load_row rfl 40 (.tmp 6) rfl Z rfl 40 (intsV zeros17) (0, 0) _ hbZ Tryd.underlying40 rfl (by kernel_rfl) ?_) | (refine wpList_store_row rfl 40 (.tmp 2) (.tmp 79) rfl R (intsV zeros17) rfl rfl 40 (intsV zeros17) hbR (by kernel_rfl) rfl (intsV_one _) ?_))
                  refine bodyPost_ret (v := .tuple #[.agg (intsV zeros17), .slice none 0 0, .int .i64 ((q : Int) + 1), .int .i64 12]) (results_cell3 Tryd.results9 _ _ R _ _ _ _ _ _ _ rfl rfl rfl rfl hbR.setRow Tryd.underlying40 rfl (by kernel_rfl)) rfl ?_
                  exact RParsePost.no HN.out ((H1.out.1.trans HW.out.1 (fun y hy => by simp at hy; subst hy; exact .inr hCw)).setRow _ (.inr hRw))
        · have hen : en = true := by
            have h1 := HL0.out.1.1
            cases en with
            | true => rfl
            | false => simp at h1; omega
          subst hen
          have hqn2 : q = n := by have h1 := HL0.out.1.1; simp at h1; omega
          have HZL := Lib.hid (HL0.out.1.2.2 rfl)
          have hd : Hid (goL q (Lm.drop q) c l = .ok (c, l)) := Lib.hid (by
            have : Lm.drop q = [] := List.drop_of_length_le (by rw [← HL0.out.2.2, List.length_take]; omega)
            rw [this]
            cases q <;> rfl)
          have hbZ := H1.out.2.2.1.fr hf (by simpa using hZC)
          have hbR := H1.out.2.2.2.1.fr hf (by simpa using hRC)
          have dl : ¬ (q : Int) < (Ln : Int) := by omega
          have HFr := Lib.hid (H1.out.1.trans hf (fun y hy => by simp at hy; subst hy; exact .inr hCw))
          have HRow := Lib.hid hrow
          clear hrow hf
          by_cases hn0 : n = 0
          · have d9 : ((Ln : Int) == 0) = true := by have h1 := HL0.out.1.1; simp at h1; rw [beq_iff_eq]; omega
            have HN : Hid (parseM s.bytes = .error (1, 12)) := Lib.hid (by
              rw [HP.out, HQ.out.1, hd.out]
              show (if n = 0 ∨ lastL s.bytes ≠ [] then _ else _) = _
              rw [if_pos (.inl hn0), hn0]; rfl)
            clear hn0
            go_wp2_with (first | (refine wpList_load_row rfl 40 (.tmp 6) rfl Z rfl 40 (intsV zeros17) (0, 0) _ hbZ Tryd.underlying40 rfl (by kernel_rfl) ?_) | (refine wpList_store_row rfl 40 (.tmp 2) (.tmp 85) rfl R (intsV zeros17) rfl rfl 40 (intsV zeros17) hbR (by kernel_rfl) rfl (intsV_one _) ?_))
            refine bodyPost_ret (v := .tuple #[.agg (intsV zeros17), .slice none 0 0, .int .i64 1, .int .i64 12]) (results_cell3 Tryd.results9 _ _ R _ _ _ _ _ _ _ rfl rfl rfl rfl hbR.setRow Tryd.underlying40 rfl (by kernel_rfl)) rfl ?_
            exact RParsePost.no HN.out (HFr.out.setRow _ (.inr hRw))
          · have d9 : ((Ln : Int) == 0) = false := by have h1 := HL0.out.1.1; simp at h1; rw [beq_eq_false_iff_ne]; omega
            have HN : Hid (parseM s.bytes = .ok (c, l)) := Lib.hid (by
              rw [HP.out, HQ.out.1, hd.out]
              show (if n = 0 ∨ lastL s.bytes ≠ [] then _ else _) = _
              rw [if_neg (fun h => by rcases h with h | h; exact hn0 h; exact h HZL.out)])
            have hss : (intsV c).size = 17 := by simp [intsV, HQ.out.2.1]
            have hbC := HQ.out.2.2.2.1
            clear hn0
            go_wp2_with (first | (refine wpList_load_row rfl 40 (.tmp 9) rfl C rfl 40 (intsV c) (0, 0) _ hbC Tryd.underlying40 rfl (by rw [hss]; kernel_rfl) ?_) | (refine wpList_store_row rfl 40 (.tmp 2) (.tmp 86) rfl R (intsV c) rfl rfl 40 (intsV zeros17) hbR (by rw [hss]; kernel_rfl) (by rw [hss]; rfl) (intsV_one _) ?_))
            refine bodyPost_ret (v := .tuple #[.agg (intsV c), .slice sl.A sl.n sl.c, .int .i64 0, .int .i64 0]) (results_cell3 Tryd.results9 _ _ R _ _ _ _ _ _ _ rfl rfl rfl rfl hbR.setRow Tryd.underlying40 rfl (by rw [hss]; kernel_rfl)) rfl ?_
            exact RParsePost.yes HN.out HQ.out.2.1 HQ.out.2.2.1 ((HRow.out.low H1.out.1.size).frC ((Fr.refl [R] _).setRow _ (.inl (by simp))) hbR) (HFr.out.setRow _ (.inr hRw))
end Go.Proofs.YtodlbajpcbdbaaaDoor
namespace Go.Proofs.YtodlbajpcbdbaaaDoor
open Go.RowKit Go.Shelf
set_option linter.unusedVariables false
set_option linter.unusedSimpArgs false
set_option maxRecDepth 100000
set_option maxRecDepth 100000 in
set_option maxHeartbeats 4000000 in
theorem r28_numbers17 (a0 a1 a2 a3 a4 a5 a6 a7 a8 a9 a10 a11 a12 a13 a14 a15 a16 : Int) (w : World) : Calls Tryd.prog 36 #[.agg #[.int .i64 a0, .int .i64 a1, .int .i64 a2, .int .i64 a3, .int .i64 a4, .int .i64 a5, .int .i64 a6, .int .i64 a7, .int .i64 a8, .int .i64 a9, .int .i64 a10, .int .i64 a11, .int .i64 a12, .int .i64 a13, .int .i64 a14, .int .i64 a15, .int .i64 a16]] w fun r w' => ∃ b, r = .returned (.slice (some ⟨b, 0, none⟩) 17 17) ∧ Blk w' b #[.int .i64 a0, .int .i64 a1, .int .i64 a2, .int .i64 a3, .int .i64 a4, .int .i64 a5, .int .i64 a6, .int .i64 a7, .int .i64 a8, .int .i64 a9, .int .i64 a10, .int .i64 a11, .int .i64 a12, .int .i64 a13, .int .i64 a14, .int .i64 a15, .int .i64 a16] 3 ∧ w.heap.size ≤ b ∧ Fr [] w w' := by
  go_enter Tryd.func36, Tryd.ntmps36
  go_wp2
  go_ret
  refine ⟨_, rfl, ?_, ?_, ?_⟩
  · have h := Blk.new ((w.alloc (.cells #[.int .i64 a0, .int .i64 a1, .int .i64 a2, .int .i64 a3, .int .i64 a4, .int .i64 a5, .int .i64 a6, .int .i64 a7, .int .i64 a8, .int .i64 a9, .int .i64 a10, .int .i64 a11, .int .i64 a12, .int .i64 a13, .int .i64 a14, .int .i64 a15, .int .i64 a16] 40)).alloc (.cells #[.int .i64 a4, .int .i64 a5, .int .i64 a6, .int .i64 a7, .int .i64 a8, .int .i64 a9, .int .i64 a10, .int .i64 a11, .int .i64 a12, .int .i64 a13, .int .i64 a14, .int .i64 a15, .int .i64 a16] 38)) #[.int .i64 a0, .int .i64 a1, .int .i64 a2, .int .i64 a3, .int .i64 a4, .int .i64 a5, .int .i64 a6, .int .i64 a7, .int .i64 a8, .int .i64 a9, .int .i64 a10, .int .i64 a11, .int .i64 a12, .int .i64 a13, .int .i64 a14, .int .i64 a15, .int .i64 a16] 3
    simpa using h
  · omega
  · exact (((Fr.refl [] w).alloc _).alloc _).alloc _
theorem r28_numbers (c : List Int) (hc : c.length = 17) (w : World) : Calls Tryd.prog 36 #[.agg (intsV c)] w fun r w' => ∃ b, r = .returned (.slice (some ⟨b, 0, none⟩) 17 17) ∧ Blk w' b (intsV c) 3 ∧ w.heap.size ≤ b ∧ Fr [] w w' := by
  match c, hc with
  | [a0, a1, a2, a3, a4, a5, a6, a7, a8, a9, a10, a11, a12, a13, a14, a15, a16], _ => exact r28_numbers17 a0 a1 a2 a3 a4 a5 a6 a7 a8 a9 a10 a11 a12 a13 a14 a15 a16 w
end Go.Proofs.YtodlbajpcbdbaaaDoor
namespace Go.Proofs.YtodlbajpcbdbaaaDoor
open Go.RowKit Go.Lib
set_option linter.unusedVariables false
set_option linter.unusedSimpArgs false
set_option maxRecDepth 100000

/-- One's own row, or a constant's row, full and marked. -/
def OwnC (w : World) (base : Nat) (e : TypeId) (v : Value) (n : Nat) (xs : List Value) : Prop :=
  w.ownsRow base e 1 v n xs ∨ ∃ g cur fz, v = .slice (some ⟨g, 0, none⟩) n n ∧ base ≤ g ∧ w.heap[g]? = some (.cells cur e fz) ∧ cur.toList = xs ∧ xs.length = n
theorem OwnC.fr {w w' : World} {base : Nat} {e : TypeId} {v : Value} {n : Nat} {xs : List Value} (h : OwnC w base e v n xs) (f : Fr [] w w') : OwnC w' base e v n xs := by
  rcases h with h | ⟨g, cur, fz, rfl, hb, hg, h1, h2⟩
  · refine .inl ⟨h.1, h.2.imp id ?_⟩
    rintro ⟨g, cap, cur, e, hg, hb', r⟩
    exact ⟨g, cap, cur, e, hg, f.keeps hb' (by simp), r⟩
  · exact .inr ⟨g, cur, fz, rfl, hb, f.keeps hg (by simp), h1, h2⟩
theorem OwnC.lt {w : World} {base : Nat} {e : TypeId} {v : Value} {n : Nat} {xs : List Value} (h : OwnC w base e v n xs) : ∀ k, v.ownBlock = some k → base ≤ k ∧ k < w.heap.size := by
  rcases h with h | ⟨g, cur, fz, rfl, hb, hg, h1, h2⟩
  · exact h.lt
  · intro k hk
    simp [Value.ownBlock] at hk
    subst hk
    exact ⟨hb, (Array.getElem?_eq_some_iff.1 hg).1⟩
theorem OwnC.ty {w : World} {base : Nat} {e t : TypeId} {v : Value} {n : Nat} {xs : List Value} (h : OwnC w base e v n xs) (ne : e ≠ t) : ∀ k, v.ownBlock = some k → ∀ cs f, w.heap[k]? ≠ some (.cells cs t f) := by
  rcases h with h | ⟨g, cur, fz, rfl, hb, hg, h1, h2⟩
  · rcases h.2 with ⟨rfl, _⟩ | ⟨g, cap, cur, rfl, _, hg, _⟩
    · intro k hk; simp [Value.ownBlock] at hk
    · intro k hk cs f e2
      simp [Value.ownBlock] at hk
      subst hk
      rw [hg] at e2
      cases e2
      exact ne rfl
  · intro k hk cs f e2
    simp [Value.ownBlock] at hk
    subst hk
    rw [hg] at e2
    cases e2
    exact ne rfl
theorem OwnC.const (w : World) (cur : Array Value) (e : TypeId) (fz : Nat × Nat) {base : Nat} (hb : base ≤ w.heap.size) : OwnC (w.alloc (.cells cur e fz)) base e (.slice (some ⟨w.heap.size, 0, none⟩) cur.size cur.size) cur.size cur.toList :=
  .inr ⟨_, cur, fz, rfl, hb, by show (w.heap.push _)[w.heap.size]? = _; simp, rfl, by simp⟩
theorem run_append_constC {P : Program} (w : World) (base : Nat) (t u ty e : TypeId) (i : TypeInfo) (ht : P.underlying t = some (.slice e)) (hu : P.underlying u = some .string) (hi : P.info? e = some i) (hz : i.zero = some (.int .u8 0))
    (hsize : i.size = 1) (hby : i.bytes = 1) (v : Value) (n : Nat) (xs : List Value) (hown : OwnC w base e v n xs) (s : ByteArray) (hs : 0 < s.size)
    (h63 : n + s.size ≤ maxLen) (hbytes : n + s.size ≤ 140737488355328) (hbase : base ≤ w.heap.size) :
    ∃ v' w', (Builtin.append_ #[t, u] ty #[v, .string s]).run P w = .ok v' w' ∧ w'.ownsRow base e 1 v' (n + s.size) (xs ++ strCells s) ∧ w.grownBy w' v.ownBlock := by
  rcases hown with hown | ⟨g, cur, fz, rfl, hb, hg, h1, hxl⟩
  · obtain ⟨v', w', h1, h2, h3, _⟩ := run_append_own_string (P := P) w base t u ty e i ht hu hi hz hsize hby v n xs hown s h63 hbytes hbase
    exact ⟨v', w', h1, h2, h3⟩
  · have hsmall : n + s.size ≤ 9223372036854775807 := by simp only [maxLen] at h63; omega
    have hlen : (xs ++ strCells s).length = (n + s.size) * 1 := by rw [List.length_append, hxl, strCells_length, Nat.mul_one]
    have holds : ∀ j u, xs[j]? = some u → w.cell? ((⟨g, 0, none⟩ : Addr).add j) = some u := fun j u hj => by
      rw [Go.WideShapes.add_plain, Nat.zero_add]
      rw [← h1] at hj
      simp [World.cell?, hg]
      simpa using hj
    have hr := run_append_grow_string (P := P) w t u ty e i (.int .u8 0) ht hu hi hz ⟨g, 0, none⟩ n n xs (by rw [hsize]; simpa using hxl) holds s (by omega) (by omega) (by rw [hby]; exact growslice_fits (by omega) (by omega))
    have hge := grownCap_ge w (n + s.size) n e
    have hcm : grownCap w (n + s.size) n e ≤ maxLen := grownCap_le_maxLen w (n + s.size) n e h63
    refine ⟨_, _, hr, ⟨hlen, .inr ⟨w.heap.size, _, _, rfl, hbase, heap_alloc_new w.drew _, hge, hcm, ?_, ?_⟩⟩, ⟨rfl, rfl, rfl, by simp, fun k hk _ => Below.heap_alloc w.drew _ k (by exact hk)⟩⟩
    · have hz1 : (Value.int IntKind.u8 0).cells.size = 1 := rfl
      simp only [Array.size_append, List.size_toArray, size_zeroCells, hz1, hxl, strCells_length]
      omega
    · simp only [Array.toList_append, List.append_assoc]
      rw [← List.append_assoc, ← hlen]
      exact List.take_left
theorem wpList_append_constC {P : Program} {w : World} {ops : Array Oper} {rest : List Oper} {o : Oper} {a : Act} {Q : Exit → Act → World → Prop} (hgd : o.guard = none) (sl x : Operand) (t u : TypeId)
    (ho : o.op = .call { callee := .builtin .append, args := #[sl, x], argTypes := #[t, u] })
    (base : Nat) (e : TypeId) (i : TypeInfo) (ht : P.underlying t = some (.slice e)) (hu : P.underlying u = some .string) (hi : P.info? e = some i) (hz : i.zero = some (.int .u8 0))
    (hsize : i.size = 1) (hby : i.bytes = 1)
    (v : Value) (n : Nat) (xs : List Value) (hs : a.eval sl = v) (hown : OwnC w base e v n xs) (s : ByteArray) (hx : a.eval x = .string s) (hpos : 0 < s.size)
    (h63 : n + s.size ≤ maxLen) (hbytes : n + s.size ≤ 140737488355328) (hbase : base ≤ w.heap.size)
    (h : ∀ v' w', w'.ownsRow base e 1 v' (n + s.size) (xs ++ strCells s) → w.grownBy w' v.ownBlock → wpList P ops Q rest (a.put o.dst v') w') : wpList P ops Q (o :: rest) a w := by
  refine wpList_plain hgd fun K hK => ?_
  obtain ⟨v', w', hr, h2, h3⟩ := run_append_constC (P := P) w base t u o.type e i ht hu hi hz hsize hby v n xs hown s hpos h63 hbytes hbase
  unfold Oper.wp execOp
  simp only [ho, resolve, invoke, builtin, Sem.run_bind, Sem.run_pure, Result.andThen_ok, List.map_toArray, List.map_cons, List.map_nil, hs, hx, hr]
  exact hK _ _ (h v' w' h2 h3)
end Go.Proofs.YtodlbajpcbdbaaaDoor
namespace Go.Proofs.YtodlbajpcbdbaaaDoor
open Go.RowKit Go.Shelf
set_option linter.unusedVariables false
set_option linter.unusedSimpArgs false
set_option maxRecDepth 100000

theorem TyOut.ownC {w : World} {N : Nat} {u t : TypeId} {n : Nat} {s : Sl} {xs : List Value} (h : OwnC w N u s.v n xs) (ne : u ≠ t) : TyOut w s.blk t := fun y hy => by
  obtain ⟨A, m, c⟩ := s
  cases A with
  | none => simp [Sl.blk] at hy
  | some a => exact h.ty ne y (by simp [Sl.blk] at hy; simp [Sl.v, Value.ownBlock, hy])
theorem word_none {d : Int} (h : findD d = none) : wordS d = ByteArray.empty := by unfold wordS; rw [h]
theorem word_some {d : Int} {s : SH} (h : findD d = some s) : (wordS d).toList.isEmpty = false := by
  have hs := shape_ok (List.mem_of_find?_eq_some h)
  unfold wordS
  rw [h, ByteArray.toList_eq, List.isEmpty_eq_false_iff]
  exact hs.2.2.2.1
/-- The head's first words. -/
def headQ (c : List Int) (q : Nat) : List UInt8 := [110, 101, 116] ++ (c.take q).flatMap fun x => 32 :: Lib.itoa x
theorem headQ_snoc {c : List Int} {q : Nat} (h : q < c.length) : headQ c (q + 1) = headQ c q ++ 32 :: Lib.itoa c[q] := by
  unfold headQ
  rw [List.take_succ_eq_append_getElem h, List.flatMap_append]
  simp
theorem headQ_all (c : List Int) : headQ c c.length ++ [10] = headM c := by
  unfold headQ headM
  rw [List.take_length, join_tail]
  simp only [List.flatMap_map]
theorem headQ_len (c : List Int) (h : ∀ x ∈ c, In64 x) : ∀ q, (headQ c q).length ≤ 3 + q * 22
  | 0 => by simp [headQ]
  | q + 1 => by
    have ih := headQ_len c h q
    by_cases hq : q < c.length
    · have h1 := Lib.itoa_length_le c[q] (h _ (List.getElem_mem hq)).1 (h _ (List.getElem_mem hq)).2
      rw [headQ_snoc hq, List.length_append, List.length_cons]
      omega
    · have e : headQ c (q + 1) = headQ c q := by unfold headQ; rw [List.take_of_length_le (by omega), List.take_of_length_le (by omega)]
      rw [e]; omega
theorem lineW_len (e : EV) (hl : e.b.length ≤ 1000000) (ho : e.Ok) : (lineW e).length ≤ 12000028 := by
  obtain ⟨h1, h2, _⟩ := shape_sizes e.d
  have h3 := tailM_len e hl ho (hasS e.d).bytes
  have h4 : (hasS e.d).bytes.length * 2000003 ≤ 6 * 2000003 := Nat.mul_le_mul_right _ h2
  have h5 : (wordS e.d).bytes.length = (wordS e.d).size := rfl
  unfold lineW
  rw [List.length_append]
  omega
set_option maxRecDepth 100000 in
set_option maxHeartbeats 8000000 in
theorem r28_Print (w : World) (A : Option Addr) (cap : Nat) (l : List EV) (ss : List Sl) (c : List Int) (h : EvA w A l ss) (hc : c.length = 17) (hci : ∀ x ∈ c, In64 x) (hl : l.length ≤ 1000000) (hb : ∀ e ∈ l, e.b.length ≤ 1000000) :
    Calls Tryd.prog 15 #[.agg (intsV c), .slice A l.length cap] w fun e w' => PrPost c l e ∧ Fr [] w w' := by
  obtain ⟨i0, hi0, hz0, hz1, hz2⟩ := info_parts (show (Tryd.prog.info? 5).map (fun i => (i.zero, i.size, i.bytes)) = some (some (.int .u8 0), 1, 1) by kernel_rfl)
  have hun : Tryd.prog.underlying 53 = some (.slice 5) := Tryd.underlying53
  have kc := fun (w : World) (C : Array Value) (n c : Nat) => Lib.run_convert_bytes_const (P := Tryd.prog) w 53 5 C n c Tryd.underlying53 Tryd.underlying5
  have hus : Tryd.prog.underlying 9 = some .string := Tryd.underlying9
  have H := Lib.hid (And.intro h (And.intro hc (And.intro hci hb)))
  have hb0 : Blk (w.alloc (.cells (intsV c) 40)) w.heap.size (intsV c) 40 := Blk.new _ _ _
  have HB := Lib.hid hb0
  clear h hc hci hb hb0
  go_enter Tryd.func15, Tryd.ntmps15
  go_wp2
  go_loopw [6] (fun i wr => ∃ q : Nat, i = .int .i64 (q : Int) ∧ q ≤ l.length ∧ (∀ j, j < q → ∀ e, l[j]? = some e → findD e.d ≠ none) ∧ Fr [] (w.alloc (.cells (intsV c) 40)) wr) (fun i _ => l.length - (intOf i).toNat)
  case atStart => exact ⟨0, rfl, by omega, fun j hj => by omega, Fr.refl _ _⟩
  case round =>
    obtain ⟨q, rfl, hq, hno, hf⟩ := hrel
    have HK := Lib.hid (And.intro hno hf)
    clear hno
    by_cases hlt : q < l.length
    · have d1 : (q : Int) < (l.length : Int) := by omega
      obtain ⟨ev, hev⟩ : ∃ ev, l[q]? = some ev := ⟨_, List.getElem?_eq_getElem hlt⟩
      obtain ⟨s, b, off, hs, hA, hcc, hi, -⟩ := H.out.1.at_ hev
      have c0 := (((Fr.refl [] w).alloc _).tr hf).cell (hcc 0 _ rfl) (by simp)
      rw [Nat.add_zero] at c0
      subst hA
      have wq : IntKind.i64.wrap ((q : Int) + 1) = (q : Int) + 1 := IntWalk.i64_in _ (by omega)
      have hsh := r28_shape wr ev.d
      have HQ := Lib.hid hev
      clear hf hcc hi hs hev
      go_wp2_with fail
      refine hsh.mono ?_
      rintro e w1 ⟨rfl, f1⟩
      have HF := Lib.hid (HK.out.2.tr f1)
      clear f1 hsh c0
      cases hfd : findD ev.d with
      | none =>
        have q2 : (wordS ev.d).toList.isEmpty = true := by rw [word_none hfd, ByteArray.toList_eq]; rfl
        have HP := Lib.hid (printM_no (c := c) HQ.out hfd)
        clear hfd
        go_wp2
        go_ret2
        exact ⟨PrPost.no HP.out, ((Fr.refl [] w).alloc _).tr HF.out⟩
      | some sh =>
        have q2 := word_some hfd
        have HP : Hid (∀ j, j < q + 1 → ∀ e, l[j]? = some e → findD e.d ≠ none) := Lib.hid (fun j hj e he => by
          by_cases hjq : j < q
          · exact HK.out.1 j hjq e he
          · have : j = q := by omega
            subst this
            rw [HQ.out] at he
            cases he
            rw [hfd]; simp)
        clear hfd
        go_wp2
        go_roundw
        case rel => exact ⟨q + 1, by go_num, by omega, HP.out, HF.out⟩
        case measure => simp [intOf]; omega
    · have hqe : q = l.length := by omega
      subst hqe
      have HN := Lib.hid (anyNo_no HK.out.1)
      clear hf hlt
      by_cases hbig : 2047 < l.length
      · have d1 : decide ((2047 : Int) < (l.length : Int)) = true := by simp; omega
        have HP := Lib.hid (printM_many (c := c) HN.out hbig)
        clear hbig
        go_wp2
        go_ret2
        exact ⟨PrPost.no HP.out, ((Fr.refl [] w).alloc _).tr HK.out.2⟩
      · have d1 : decide ((2047 : Int) < (l.length : Int)) = false := by simp; omega
        have HBG := Lib.hid hbig
        clear hbig
        have hl20 : l.length ≤ 2047 := by have := HBG.out; omega
        have hBc := HB.out.fr (HK.out.2.alloc (.cells #[.int .u8 110, .int .u8 101, .int .u8 116] 5 (3, 4))) (by simp)
        have HC := Lib.hid hBc
        have HS : Hid ((intsV c).size = 17) := Lib.hid (by simp [intsV, H.out.2.1])
        clear hBc
        have hnm := r28_numbers c H.out.2.1 (wr.alloc (.cells #[.int .u8 110, .int .u8 101, .int .u8 116] 5 (3, 4)))
        go_wp2_with (first | (refine wpList_load_row rfl 40 (.tmp 2) rfl w.heap.size rfl 40 (intsV c) (0, 0) _ HC.out Tryd.underlying40 rfl (by rw [HS.out]; kernel_rfl) ?_) | fail)
        refine hnm.mono ?_
        rintro e w3 ⟨B, rfl, hB, hBl, f3⟩
        obtain ⟨M, hM⟩ : ∃ M, wr.heap.size = M := ⟨_, rfl⟩
        have hM2 : M ≤ B := by rw [← hM]; simp at hBl; omega
        have hwM : w.heap.size ≤ M := by have := HK.out.2.size; simp at this; omega
        have H3 : Hid (Fr [] w w3 ∧ Blk w3 B (intsV c) 3 ∧ w3.heap[M]? = some (.cells #[.int .u8 110, .int .u8 101, .int .u8 116] 5 (3, 4)) ∧ M ≤ B ∧ w.heap.size ≤ M) := Lib.hid ⟨((Fr.refl [] w).alloc _).tr ((HK.out.2.alloc _).tr f3), hB, by rw [← hM]; exact f3.keeps (show (wr.heap.push _)[wr.heap.size]? = _ by simp) (by simp), hM2, hwM⟩
        rw [hM]
        clear hB hBl f3 hnm hM hM2 hwM
        go_wp2
        go_loopw [9, 11] (fun o i wr => ∃ (q : Nat) (sl : Sl), o = .slice sl.A sl.n sl.c ∧ i = .int .i64 (q : Int) ∧ q ≤ 17 ∧ OwnC wr w.heap.size 5 sl.v (headQ c q).length (Lib.byteCells (headQ c q)) ∧ (17 ≤ q → wr.ownsRow w.heap.size 5 1 sl.v (headQ c q).length (Lib.byteCells (headQ c q))) ∧ Blk wr B (intsV c) 3 ∧ Fr [] w wr) (fun _ i _ => 17 - (intOf i).toNat)
        case atStart => exact ⟨0, ⟨some ⟨M, 0, none⟩, 3, 3⟩, rfl, rfl, by omega, .inr ⟨M, _, _, rfl, H3.out.2.2.2.2, H3.out.2.2.1, rfl, rfl⟩, fun h => by omega, H3.out.2.1, H3.out.1⟩
        case round =>
          obtain ⟨q, sl, rfl, rfl, hq, hown, hfin, hB, hf⟩ := hrel
          have hll := headQ_len c H.out.2.2.1 q
          have HR := Lib.hid (And.intro hown (And.intro hB hf))
          have hc17 := H.out.2.1
          by_cases hlt : q < 17
          · have d1 : (q : Int) < 17 := by omega
            have wq : IntKind.i64.wrap ((q : Int) + 1) = (q : Int) + 1 := IntWalk.i64_in _ (by omega)
            have hqc : q < c.length := by omega
            obtain ⟨x, hx⟩ : ∃ x, c[q] = x := ⟨_, rfl⟩
            have cx := hB.cell q (v := .int .i64 x) (by rw [← hx]; simp [intsV, hqc])
            have hix : In64 x := by rw [← hx]; exact H.out.2.2.1 _ (List.getElem_mem hqc)
            have hzx : (Lib.itoa x).length ≤ 21 := Lib.itoa_length_le x hix.1 hix.2
            have hin := r28_Int wr x hix
            have HX : Hid (headQ c (q + 1) = headQ c q ++ 32 :: Lib.itoa x) := Lib.hid (by rw [headQ_snoc hqc, hx])
            clear hown hfin hB hf hix hx hqc hc17
            go_wp2_with fail
            refine hin.mono ?_
            rintro e w5 ⟨rfl, f5⟩
            have hsz5 := (HR.out.2.2.tr f5).size
            have ho5 := HR.out.1.fr f5
            have H5 := Lib.hid (And.intro f5 ho5)
            have he5 : (⟨#[32]⟩ : ByteArray) ++ ⟨(Lib.itoa x).toArray⟩ = ⟨(32 :: Lib.itoa x).toArray⟩ := str_app [32] _
            have hlen : ((⟨(32 :: Lib.itoa x).toArray⟩ : ByteArray)).size = (Lib.itoa x).length + 1 := by simp [ByteArray.size]
            clear cx f5 hin
            go_wp2_with (at_builtin; refine wpList_append_constC rfl _ _ 53 9 rfl (w.heap.size) 5 i0 hun hus hi0 hz0 hz1 hz2 _ _ _ rfl ho5 _ rfl (by rw [hlen]; omega) (by (try unfold maxLen); rw [hlen]; omega) (by rw [hlen]; omega) hsz5 ?_)
            intro v' w6 hown6 hgrow
            obtain ⟨sn, rfl⟩ := own_sl' hown6
            have H6 : Hid (w6.ownsRow w.heap.size 5 1 sn.v (headQ c (q + 1)).length (Lib.byteCells (headQ c (q + 1))) ∧ Blk w6 B (intsV c) 3 ∧ Fr [] w w6) := Lib.hid (by
              refine ⟨?_, ((HR.out.2.1.fr H5.out.1 (by simp)).ofTy (Fr.grownL hgrow) (TyOut.ownC H5.out.2 (by decide))), (HR.out.2.2.tr H5.out.1).grown hgrow (fun k hk => .inr (H5.out.2.lt k hk).1)⟩
              rw [HX.out, List.length_append, List.length_cons, ← byteCells_app]
              exact hown6)
            clear hown6 hgrow ho5 hsz5 he5 hlen
            go_wp2
            go_roundw
            case rel => exact ⟨q + 1, sn, rfl, by go_num, by omega, .inl H6.out.1, fun _ => H6.out.1, H6.out.2⟩
            case measure => simp [intOf]; omega
          · have hqe : q = 17 := by omega
            subst hqe
            have HH : Hid (headQ c 17 ++ [10] = headM c) := Lib.hid (by rw [← headQ_all c, hc17])
            have hbw : w.heap.size ≤ wr.heap.size := hf.size
            have ho := (hfin (Nat.le_refl _)).alloc (.cells #[.int .u8 10] 5)
            clear hown hfin hB hf hc17
            go_wp2_with (at_builtin; refine wpList_append_src rfl _ _ 53 rfl (w.heap.size) 5 i0 (.int .u8 0) 1 1 hun hi0 hz0 hz1 hz2 rfl (by decide) _ _ _ rfl ho _ 1 [.int .u8 10] rfl Src.one rfl (by intro u hu; simp at hu; subst hu; rfl) (by unfold maxLen; omega) (by omega) (by first | (simp; done) | (simp; omega)) ?_)
            intro v' w7 hown7 hgrow
            obtain ⟨sn, rfl⟩ := own_sl' hown7
            have H7 : Hid (w7.ownsRow w.heap.size 5 1 sn.v (accM c l 0).length (Lib.byteCells (accM c l 0)) ∧ Fr [] w w7) := Lib.hid (by
              refine ⟨?_, (HR.out.2.2.alloc _).grown hgrow (fun k hk => .inr (ho.lt k hk).1)⟩
              rw [accM_zero, ← HH.out, List.length_append, ← byteCells_app]
              exact hown7)
            have hl0 : (accM c l 0).length ≤ 1000 := by rw [accM_zero, ← HH.out, List.length_append]; simp; omega
            clear hown7 hgrow ho hbw
            go_wp2
            go_loopw [9, 12] (fun o i wr => ∃ (q : Nat) (sl : Sl), o = .slice sl.A sl.n sl.c ∧ i = .int .i64 (q : Int) ∧ q ≤ l.length ∧ (accM c l q).length ≤ 12100000 ∧ wr.ownsRow w.heap.size 5 1 sl.v (accM c l q).length (Lib.byteCells (accM c l q)) ∧ Fr [] w wr) (fun _ i _ => l.length - (intOf i).toNat)
            case atStart => exact ⟨0, sn, rfl, rfl, by omega, by omega, H7.out.1, H7.out.2⟩
            case round =>
              obtain ⟨q, sl, rfl, rfl, hq, hal, hown, hf⟩ := hrel
              have hsn := own_n hown
              obtain ⟨sA, n, sc⟩ := sl
              simp only at hsn
              have HR := Lib.hid (And.intro hown (And.intro hf hsn))
              have hs1 : n ≤ (accM c l q).length := by omega
              have hs2 : (accM c l q).length ≤ n := by omega
              clear hsn
              by_cases hlt : q < l.length
              · have d1 : (q : Int) < (l.length : Int) := by omega
                by_cases hbig : n ≤ 65536
                · have d2 : (n : Int) ≤ 65536 := by omega
                  have wq : IntKind.i64.wrap ((q : Int) + 1) = (q : Int) + 1 := IntWalk.i64_in _ (by omega)
                  obtain ⟨ev, hev⟩ : ∃ ev, l[q]? = some ev := ⟨_, List.getElem?_eq_getElem hlt⟩
                  obtain ⟨s, b, off, hs, hA, hcc, hi, hok⟩ := H.out.1.at_ hev
                  have hbl := H.out.2.2.2 ev (List.mem_of_getElem? hev)
                  have cz : ∀ j v, (ev.arr s)[j]? = some v → wr.cell? ⟨b, off + q * 8 + j, none⟩ = some v := fun j v hv => hf.cell (hcc j v hv) (by simp)
                  have c0 := cz 0 _ rfl
                  have c1 := cz 1 _ rfl
                  have c2 := cz 2 _ rfl
                  have c3 := cz 3 _ rfl
                  have c4 := cz 4 _ rfl
                  have c5 := cz 5 _ rfl
                  have c6 := cz 6 _ rfl
                  have c7 := cz 7 _ rfl
                  rw [Nat.add_zero] at c0
                  subst hA
                  have hli := r28_line wr ev s (hi.fr hf) hbl hok
                  have hwl := lineW_len ev hbl hok
                  obtain ⟨sh, hsh⟩ : ∃ sh, findD ev.d = some sh := by
                    cases hfd : findD ev.d with
                    | some sh => exact ⟨sh, rfl⟩
                    | none => exact absurd hfd (HK.out.1 q hlt ev hev)
                  have HX : Hid (accM c l (q + 1) = accM c l q ++ (lineW ev ++ [10])) := Lib.hid (by rw [accM_succ hev hsh, lineW_line hsh])
                  clear hown hf hcc hi hs hev cz hok hsh hbl
                  go_wp2_with fail
                  refine hli.mono ?_
                  rintro e w8 ⟨rfl, f8⟩
                  have hsz5 := (HR.out.2.1.tr f8).size
                  have ho5 := own_fr HR.out.1 f8
                  have H5 := Lib.hid (And.intro f8 ho5)
                  have he5 : (⟨(lineW ev).toArray⟩ : ByteArray) ++ ⟨#[10]⟩ = ⟨(lineW ev ++ [10]).toArray⟩ := str_app _ [10]
                  have hlen : ((⟨(lineW ev ++ [10]).toArray⟩ : ByteArray)).size = (lineW ev).length + 1 := by simp [ByteArray.size]
                  clear c0 c1 c2 c3 c4 c5 c6 c7 f8 hli
                  go_wp2_with (at_builtin; refine wpList_append_constC rfl _ _ 53 9 rfl (w.heap.size) 5 i0 hun hus hi0 hz0 hz1 hz2 _ _ _ rfl (.inl ho5) _ rfl (by rw [hlen]; omega) (by (try unfold maxLen); rw [hlen]; omega) (by rw [hlen]; omega) hsz5 ?_)
                  intro v' w9 hown9 hgrow
                  obtain ⟨sn2, rfl⟩ := own_sl' hown9
                  have H9 : Hid (w9.ownsRow w.heap.size 5 1 sn2.v (accM c l (q + 1)).length (Lib.byteCells (accM c l (q + 1))) ∧ Fr [] w w9 ∧ (accM c l (q + 1)).length ≤ 12100000) := Lib.hid (by
                    have he : (accM c l (q + 1)).length = (accM c l q).length + ((lineW ev).length + 1) := by rw [HX.out]; simp
                    refine ⟨?_, (HR.out.2.1.tr H5.out.1).grown hgrow (fun k hk => .inr (H5.out.2.lt k hk).1), by rw [he]; omega⟩
                    rw [he, HX.out, ← byteCells_app]
                    exact hown9)
                  clear hown9 hgrow ho5 hsz5 he5 hlen
                  go_wp2
                  go_roundw
                  case rel => exact ⟨q + 1, sn2, rfl, by go_num, by omega, H9.out.2.2, H9.out.1, H9.out.2.1⟩
                  case measure => simp [intOf]; omega
                · have d2 : ¬ (n : Int) ≤ 65536 := by omega
                  have d3 : decide ((65536 : Int) < (n : Int)) = true := by simp; omega
                  have HP := Lib.hid (printM_long (c := c) HN.out HBG.out (by have := accM_le c l q; omega))
                  clear hown hf hbig
                  go_wp2
                  go_ret2
                  exact ⟨PrPost.no HP.out, HR.out.2.1⟩
              · have hqe : q = l.length := by omega
                subst hqe
                rw [accM_all] at hs1 hs2 hal
                by_cases hbig : 65536 < n
                · have d3 : decide ((65536 : Int) < (n : Int)) = true := by simp; omega
                  have HP := Lib.hid (printM_long (c := c) HN.out HBG.out (by omega))
                  clear hown hf hbig
                  go_wp2
                  go_ret2
                  exact ⟨PrPost.no HP.out, HR.out.2.1⟩
                · have d3 : decide ((65536 : Int) < (n : Int)) = false := by simp; omega
                  have HP := Lib.hid (printM_ok (c := c) HN.out HBG.out (by omega))
                  have hbt : Bts 0 wr ⟨sA, n, sc⟩ (bytesI (textM c l)) := by
                    have ho := HR.out.1
                    rw [accM_all] at ho
                    refine Bts.own (N := w.heap.size) ?_ (bytesI_wf _) 0
                    rw [show (bytesI (textM c l)).length = (textM c l).length by simp [bytesI]]
                    have e : (bytesI (textM c l)).map (Value.int .u8) = Lib.byteCells (textM c l) := by simp [bytesI, Lib.byteCells]
                    rw [e]
                    exact ho
                  have hcv := conv_bts hbt
                  clear hown hf hbig hbt
                  go_wp2
                  go_ret2
                  exact ⟨PrPost.ok HP.out, HR.out.2.1⟩
end Go.Proofs.YtodlbajpcbdbaaaDoor
namespace Go.Proofs.YtodlbajpcbdbaaaDoor
open Go.RowKit Go.Shelf
set_option linter.unusedVariables false
set_option linter.unusedSimpArgs false
set_option maxRecDepth 100000

theorem wp_bin {P : Program} {o : Oper} {a : Act} {w : World} {K : Act → World → Prop} {Q : Exit → Act → World → Prop} (op : BinOp) (t : TypeId) (x y : Operand) (t2 : TypeId) (v : Value) (ho : o.op = .binOp op t x y t2)
    (hg : (eqGuard op t x y (a.eval x) (a.eval y)).run P w = .ok () w) (hr : (binOp op t (a.eval x) (a.eval y)).run P w = .ok v w) (h : K (a.put o.dst v) w) : o.wp P a w K Q := by
  unfold Oper.wp execOp
  simp only [ho, Sem.run_bind, Sem.run_pure, hg, hr, Result.andThen_ok]
  exact h
theorem cfg_guard (x y : Operand) (A B : Array Value) (w : World) : (eqGuard .eql 30 x y (.agg A) (.agg B)).run Tryd.prog w = .ok () w := by kernel_rfl
theorem printM_err {c : List Int} {l : List EV} {x : Int} (h : printM c l = .error x) : (x == 0) = false := by
  unfold printM at h
  split at h
  · cases h; rfl
  · split at h
    · cases h; rfl
    · split at h
      · cases h; rfl
      · cases h
set_option maxRecDepth 100000 in
set_option maxHeartbeats 16000000 in
theorem walk_ScriptPrints (w : World) (c : List Int) (A : Option Addr) (cap : Nat) (l : List EV) (ss : List Sl) (hE : Env w) (hc : c.length = 17) (hi : ∀ x ∈ c, In64 x) (h : EvA w A l ss) (hl : l.length ≤ 9223372036854775807) :
    Calls Tryd.prog 4 #[.agg (intsV c), .slice A l.length cap] w fun e w' => e = .returned (.bool true) ∧ Fr [] w w' := by
  obtain ⟨i0, hi0, hz0, hz1, hz2⟩ := info_parts (show (Tryd.prog.info? 55).map (fun i => (i.zero, i.size, i.bytes)) = some (some (.agg ((EV.zero 0).arr Sl.nil)), 8, 80) by kernel_rfl)
  have hun : Tryd.prog.underlying 41 = some (.slice 55) := Tryd.underlying41
  have hA := law28_awake (w.alloc (.cells (intsV c) 40)) (hE.fr0 ((Fr.refl [] w).alloc _))
  have HE := Lib.hid (And.intro hE (And.intro hi h))
  have HC17 := Lib.hid hc
  have hss0 : (intsV c).size = 17 := by simp [intsV, hc]
  have HSS := Lib.hid hss0
  have hb0 : Blk (w.alloc (.cells (intsV c) 40)) w.heap.size (intsV c) 40 := Blk.new _ _ _
  have HB := Lib.hid hb0
  clear hE hi h hb0 hc hss0
  go_enter Tryd.func4, Tryd.ntmps4
  go_wp2_with fail
  refine hA.mono ?_
  rintro e w1 ⟨rfl, f1⟩
  obtain ⟨R, hR⟩ : ∃ R, w.heap.size = R := ⟨_, rfl⟩
  have H1 : Hid (Blk w1 R (intsV c) 40 ∧ Fr [] w w1 ∧ EvA w1 A l ss) := Lib.hid ⟨by rw [← hR]; exact HB.out.fr f1 (by simp), ((Fr.refl [] w).alloc _).tr f1, (HE.out.2.2.fr ((Fr.refl [] w).alloc _)).fr f1⟩
  rw [hR]
  clear f1 hA hR
  have hrm := law25_Room w1 A cap l ss 200 H1.out.2.2 hl
  go_wp2_with fail
  refine hrm.mono ?_
  rintro e w2 ⟨rfl, f2⟩
  have H2 := Lib.hid (And.intro (H1.out.1.fr f2 (by simp)) (And.intro (H1.out.2.1.tr f2) (H1.out.2.2.fr f2)))
  clear f2 hrm
  cases hr : roomM l 200 with
  | false =>
    clear hr
    go_wp2
    go_ret
    exact ⟨rfl, H2.out.2.1⟩
  | true =>
    have hl200 : l.length ≤ 200 := by
      unfold roomM at hr
      simp at hr
      omega
    have hbl : ∀ e ∈ l, e.b.length ≤ 1100 := fun e he => by
      unfold roomM at hr
      rw [Bool.and_eq_true] at hr
      by_cases hbig : 1100 < e.b.length
      · rw [anyBig_mem he hbig] at hr; cases hr.2
      · omega
    have HBL := Lib.hid hbl
    clear hr hbl
    have hcf := fun w => law25_ConfigL c HC17.out w
    go_wp2_with (first | (refine wpList_load_row rfl 40 (.tmp 2) rfl R rfl 40 (intsV c) (0, 0) _ H2.out.1 Tryd.underlying40 rfl (by rw [HSS.out]; kernel_rfl) ?_) | fail)
    refine (hcf _).mono ?_
    rintro e w3 ⟨rfl, f3⟩
    have H3 := Lib.hid (And.intro (H2.out.1.fr f3 (by simp)) (And.intro (H2.out.2.1.tr f3) (H2.out.2.2.fr f3)))
    have hev := law28_Events w3 A cap l ss H3.out.2.2 (by omega)
    clear f3 hcf
    go_wp2_with fail
    refine hev.mono ?_
    rintro e w4 ⟨sv, rfl, hrow, f4⟩
    have H4 := Lib.hid (And.intro (H3.out.1.fr f4 (by simp)) (And.intro (H3.out.2.1.tr f4) (And.intro (H3.out.2.2.fr f4) hrow)))
    have hpr := scr_Print w4 w3.heap.size sv c l (HE.out.1.fr0 H4.out.2.1) HC17.out HE.out.2.1 (hrow.low (Nat.zero_le _)) f4.size (by omega) (fun e he => ⟨by have := HBL.out e he; omega, H4.out.2.2.1.ok e he⟩)
    clear hrow f4 hev
    go_wp2_with fail
    refine hpr.mono ?_
    rintro e w5 ⟨hp5, f5⟩
    have H5 := Lib.hid (And.intro (H4.out.1.fr f5 (by simp)) (And.intro (H4.out.2.1.tr f5) (H4.out.2.2.1.fr f5)))
    have hrp := r28_Print w5 A cap l ss c H5.out.2.2 HC17.out HE.out.2.1 (by omega) (fun e he => by have := HBL.out e he; omega)
    clear f5 hpr
    unfold PrPost at hp5 hrp
    cases hpm : printM c l with
    | error x =>
      have hx := printM_err hpm
      have hx2 : (x != 0) = true := by simp only [bne, hx]; rfl
      rw [hpm] at hp5 hrp
      dsimp only at hp5 hrp
      subst hp5
      clear hpm
      go_wp2_with (first | (refine wpList_load_row rfl 40 (.tmp 2) rfl R rfl 40 (intsV c) (0, 0) _ H5.out.1 Tryd.underlying40 rfl (by rw [HSS.out]; kernel_rfl) ?_) | fail)
      refine hrp.mono ?_
      rintro e w6 ⟨rfl, f6⟩
      have H6 := Lib.hid (H5.out.2.1.tr f6)
      clear f6 hrp
      go_wp2
      go_ret
      exact ⟨rfl, H6.out⟩
    | ok t =>
      rw [hpm] at hp5 hrp
      dsimp only at hp5 hrp
      subst hp5
      have hpp := parse_print HC17.out HE.out.2.1 H5.out.2.2.ok hpm
      have hinv := printM_inv hpm
      have HP := Lib.hid (And.intro hpm (And.intro hpp hinv))
      clear hpm hpp hinv
      go_wp2_with (first | (refine wpList_load_row rfl 40 (.tmp 2) rfl R rfl 40 (intsV c) (0, 0) _ H5.out.1 Tryd.underlying40 rfl (by rw [HSS.out]; kernel_rfl) ?_) | fail)
      refine hrp.mono ?_
      rintro e w6 ⟨rfl, f6⟩
      have H6 := Lib.hid (And.intro (H5.out.1.fr f6 (by simp)) (And.intro (H5.out.2.1.tr f6) (H5.out.2.2.fr f6)))
      clear f6 hrp
      have hts : (⟨t.toArray⟩ : ByteArray).size ≤ 2000000 := by
        have h1 := HP.out.2.2.2.2.1
        have h2 : (⟨t.toArray⟩ : ByteArray).size = t.length := by simp [ByteArray.size]
        omega
      have hps := scr_Parse w6 ⟨t.toArray⟩ (HE.out.1.fr0 H6.out.2.1) hts
      clear hts
      go_wp2_with fail
      refine hps.mono ?_
      rintro e w8 ⟨f8, hp8⟩
      rw [show (⟨t.toArray⟩ : ByteArray).bytes = t from rfl, HP.out.2.1] at hp8
      obtain ⟨hc17, sk, rfl, hrow⟩ := hp8
      have hb8 : Blk (w8.alloc (.cells (intsV zeros17) 30)) w8.heap.size (intsV zeros17) 30 := Blk.new _ _ _
      have H8 := Lib.hid (And.intro hb8 (And.intro (H6.out.2.1.tr f8) (And.intro (H6.out.1.fr f8 (by simp)) (And.intro (H6.out.2.2.fr f8) hrow))))
      clear hps hb8 f8 hc17 hrow
      go_wp2_with (first | (refine wpList_store_row rfl 30 (.tmp 9) (.tmp 47) rfl w8.heap.size (intsV c) rfl rfl 30 (intsV zeros17) H8.out.1 (by rw [HSS.out]; kernel_rfl) (by rw [HSS.out]; rfl) (intsV_one _) ?_) | fail)
      obtain ⟨w9, hw9⟩ : ∃ w9, (w8.alloc (.cells (intsV zeros17) 30)).setRow w8.heap.size (intsV c) = w9 := ⟨_, rfl⟩
      obtain ⟨D, hD⟩ : ∃ D, w8.heap.size = D := ⟨_, rfl⟩
      have H9 : Hid (Blk w9 D (intsV c) 30 ∧ Blk w9 R (intsV c) 40 ∧ Fr [] w w9 ∧ EvA w9 A l ss ∧ ERow 0 0 sk (l.map spareE) w9) := Lib.hid (by
        have f9 : Fr [] w8 w9 := by rw [← hw9]; exact ((Fr.refl [] w8).alloc _).setRow _ (.inr (Nat.le_refl _))
        exact ⟨by rw [← hw9, ← hD]; exact H8.out.1.setRow, H8.out.2.2.1.fr f9 (by simp), H8.out.2.1.tr f9, H8.out.2.2.2.1.fr f9, (ERow.fr f9 H8.out.2.2.2.2).low (Nat.zero_le _)⟩)
      rw [show (#[Value.int .i64 0, Value.int .i64 0, Value.int .i64 0, Value.int .i64 0, Value.int .i64 0, Value.int .i64 0, Value.int .i64 0, Value.int .i64 0, Value.int .i64 0, Value.int .i64 0, Value.int .i64 0, Value.int .i64 0, Value.int .i64 0, Value.int .i64 0, Value.int .i64 0, Value.int .i64 0, Value.int .i64 0] : Array Value) = intsV zeros17 from rfl, hw9, hD]
      clear hw9 hD
      go_loopw [13, 14] (fun o i wr => ∃ (q : Nat) (sn : Sl), o = .slice sn.A sn.n sn.c ∧ i = .int .i64 (q : Int) ∧ q ≤ l.length ∧ RRow w9.heap.size w9.heap.size sn ((l.take q).map spareE) wr ∧ Fr [] w9 wr) (fun _ i _ => l.length - (intOf i).toNat)
      case atStart => exact ⟨0, Sl.nil, rfl, rfl, by omega, RowG.nil, Fr.refl _ _⟩
      case round =>
        obtain ⟨q, sn, rfl, rfl, hq, hrow, hf⟩ := hrel
        have HK := Lib.hid (And.intro hrow hf)
        by_cases hlt : q < l.length
        · have d2 : (q : Int) < (l.length : Int) := by omega
          obtain ⟨ev, hev⟩ : ∃ ev, l[q]? = some ev := ⟨_, List.getElem?_eq_getElem hlt⟩
          obtain ⟨s, b, off, hs, hA, hcc, hi, -⟩ := (H9.out.2.2.2.1.fr hf).at_ hev
          have c0 := hcc 0 _ rfl
          have c1 := hcc 1 _ rfl
          have c2 := hcc 2 _ rfl
          have c3 := hcc 3 _ rfl
          have c4 := hcc 4 _ rfl
          have c5 := hcc 5 _ rfl
          have c6 := hcc 6 _ rfl
          have c7 := hcc 7 _ rfl
          rw [Nat.add_zero] at c0
          have HI9 : Hid (Ints .u8 w9 s.v (bytesI ev.b)) := Lib.hid (H9.out.2.2.2.1.bts q ev s hev hs)
          subst hA
          have wq : IntKind.i64.wrap ((q : Int) + 1) = (q : Int) + 1 := IntWalk.i64_in _ (by omega)
          have hfd : (findD ev.d).isSome = true := by
            have h1 := HP.out.2.2.1
            unfold anyNo at h1
            rw [List.any_eq_false] at h1
            have := h1 ev (List.mem_of_getElem? hev)
            cases hx : findD ev.d with
            | none => rw [hx] at this; simp at this
            | some _ => rfl
          have hsp := r28_Spare wr ev s hfd
          have HQ := Lib.hid hev
          clear hrow hf hcc hi hs hev hfd
          go_wp2_with fail
          refine hsp.mono ?_
          rintro e w10 ⟨⟨s', rfl, hs'⟩, f10⟩
          have HB10 : Hid (Bts w9.heap.size w10 s' (bytesI (spareE ev).b)) := Lib.hid (by
            rcases hs' with ⟨rfl, he⟩ | ⟨rfl, he⟩
            · rw [he]; exact ((Bts.arg HI9.out).fr HK.out.2).fr f10
            · rw [he]; exact Bts.nil _ _)
          have HF := Lib.hid (And.intro (HK.out.2.tr f10) (RRow.fr f10 HK.out.1))
          obtain ⟨xs, hown, hall, hlen⟩ := HF.out.2
          have hbw : w9.heap.size ≤ w10.heap.size := HF.out.1.size
          have hlq : ((l.take q).map spareE).length = q := by rw [List.length_map, List.length_take]; omega
          rw [hlq] at hown
          have HO := Lib.hid (And.intro hown (And.intro hall hlen))
          obtain ⟨z, hz⟩ : ∃ z, spareE ev = z := ⟨_, rfl⟩
          rw [hz] at HB10 ⊢
          clear f10 hsp c0 c1 c2 c3 c4 c5 c6 c7 hown hall hlen hs'
          go_wp2_with (at_builtin; refine wpList_append_src rfl _ _ 41 rfl (w9.heap.size) 55 i0 (.agg ((EV.zero 0).arr Sl.nil)) 8 80 hun hi0 hz0 hz1 hz2 rfl (by decide) _ _ _ rfl (HO.out.1.alloc _) _ 1 (z.arr s').toList rfl Src.one rfl (ev_list_one z s') (by unfold maxLen; omega) (by omega) (by first | (simp; done) | (simp; omega)) ?_)
          intro v' w11 hown11 hgrow
          obtain ⟨sm, rfl⟩ := own_sl' hown11
          have HN : Hid (RRow w9.heap.size w9.heap.size sm ((l.take (q + 1)).map spareE) w11 ∧ Fr [] w9 w11) := Lib.hid (by
            have fg : Fr [] w9 w11 := (HF.out.1.alloc (.cells (z.arr s') 55)).grown hgrow (fun k hk => .inr (HO.out.1.lt k hk).1)
            obtain ⟨hq2, he2⟩ := List.getElem?_eq_some_iff.1 HQ.out
            refine ⟨?_, fg⟩
            rw [List.take_succ_eq_append_getElem hq2, he2, List.map_append, List.map_cons, List.map_nil, hz]
            have fr8 : Fr sn.blk (w10.alloc (.cells (z.arr s') 55)) w11 := Fr.grownL hgrow
            have hoff : ∀ x ∈ sn.blk, w9.heap.size ≤ x ∧ ∀ cs fz, (w10.alloc (.cells (z.arr s') 55)).heap[x]? ≠ some (.cells cs 5 fz) := fun x hx => by
              obtain ⟨h1, cs, h2⟩ := own_blk (HO.out.1.alloc (.cells (z.arr s') 55)) x hx
              exact ⟨h1, fun cs' fz e => by rw [h2] at e; cases e⟩
            refine RowG.push (w := w10) (xs := xs) (cs := (z.arr s').toList) HO.out.2.1 HO.out.2.2 (by rw [hlq]; exact hown11) (fun cs d ⟨sd, e1, hb1⟩ => ⟨sd, e1, (hb1.fr ((Fr.refl [] _).alloc _)).frL fr8 hoff⟩) rfl ⟨s', rfl, (HB10.out.fr ((Fr.refl [] _).alloc _)).frL fr8 hoff⟩)
          clear hown11 hgrow
          go_wp2
          go_roundw
          case rel => exact ⟨q + 1, sm, rfl, by go_num, by omega, HN.out⟩
          case measure => simp [intOf]; omega
        · have hqe : q = l.length := by omega
          subst hqe
          have HR : Hid (RRow w9.heap.size w9.heap.size sn (l.map spareE) wr) := Lib.hid (by rw [List.take_length] at hrow; exact hrow)
          clear hrow hf
          have HBD : Hid (∀ wx, Fr [] wr wx → Blk wx D (intsV c) 30) := Lib.hid fun wx f => (H9.out.1.fr HK.out.2 (by simp)).fr f (by simp)
          have HBR : Hid (∀ wx, Fr [] wr wx → Blk wx R (intsV c) 40) := Lib.hid fun wx f => (H9.out.2.1.fr HK.out.2 (by simp)).fr f (by simp)
          have HSM : Hid (∀ wx, Fr [] wr wx → Calls Tryd.prog 11 #[.slice sk.A sk.n sk.c, .slice sn.A sn.n sn.c] wx fun r w' => r = .returned (.bool true) ∧ Fr [] wx w') := Lib.hid fun wx f => law28_same wx (l.map spareE) sk sn 0 0 w9.heap.size w9.heap.size (ERow.fr f (ERow.fr HK.out.2 H9.out.2.2.2.2)) (RRow.fr f HR.out) (by rw [List.length_map]; omega)
          have HEQ : Hid (∀ wx, (binOp .eql 30 (.agg (intsV c)) (.agg (intsV c))).run Tryd.prog wx = .ok (.bool true) wx) := Lib.hid fun wx => by have := cfg_eql c c HC17.out HE.out.2.1 HC17.out HE.out.2.1 wx; simpa using this
          go_upto_region 17 with fail
          refine wp_region_keepsU [] [Is (.int .i64 0), Is (.bool true), Is (.bool true), Is (.int .i64 0), Is (.bool true), Is (.bool true), Is (.bool true), Is (.agg (intsV c)), Is (.agg (intsV c)), Is (.agg (intsV c)), Is (.bool true), Is (.bool true), Is (.bool true), Is (.slice sk.A sk.n sk.c), Is (.slice sn.A sn.n sn.c), Is (.bool true), Is (.bool true), Is (.bool true)] 18 (by kernel_rfl) (by kernel_rfl) (by kernel_rfl) (by kernel_rfl) (by kernel_rfl) (by kernel_rfl) ?hV ?hS ?hD
          case hV =>
            repeat (first | exact trivial | exact Is.keeps _ | exact Any.keeps | exact IsSl.keeps _ _ _ | refine And.intro ?_ ?_)
          case hS =>
            (repeat' (first | exact trivial | refine And.intro ?_ ?_))
            rotate_right 8
            · as_aux_lemma =>
                intro ac wx hf hs hp K hK
                simp only [zA, Region.binds, Nat.reduceAdd] at hp
                (try simp only [getD_bool] at hp)
                have e2 := hs 2 (by kernel_rfl)
                have e9 := hs 9 (by kernel_rfl)
                have e10 := hs 10 (by kernel_rfl)
                have e11 := hs 11 (by kernel_rfl)
                have e12 := hs 12 (by kernel_rfl)
                have e13 := hs 13 (by kernel_rfl)
                simp only [Array.getD_eq_getD_getElem?, List.getElem?_toArray, List.getElem?_cons_succ, List.getElem?_cons_zero, Option.getD_some] at e2 e9 e10 e11 e12 e13
                clear hs
                obtain ⟨q7, q9, q6⟩ := hp
                refine Eq.mpr (if_pos (by simp [Region.wanted, yielded, q6])) ?_
                refine wp_bin .eql 30 (.tmp 72) (.tmp 74) _ (.bool true) rfl (by rw [show ac.eval (.tmp 72) = .agg (intsV c) by simpa [Act.eval] using q7, show ac.eval (.tmp 74) = .agg (intsV c) by simpa [Act.eval] using q9]; exact cfg_guard _ _ _ _ wx) (by rw [show ac.eval (.tmp 72) = .agg (intsV c) by simpa [Act.eval] using q7, show ac.eval (.tmp 74) = .agg (intsV c) by simpa [Act.eval] using q9]; exact HEQ.out wx) ?_
                refine hK.out _ _ (Fr.refl _ _) ?_
                simp only [nth]
                (unfold Is; rfl)
            rotate_right 2
            · as_aux_lemma =>
                intro ac wx hf hs hp K hK
                simp only [zA, Region.binds, Nat.reduceAdd] at hp
                (try simp only [getD_bool] at hp)
                have e2 := hs 2 (by kernel_rfl)
                have e9 := hs 9 (by kernel_rfl)
                have e10 := hs 10 (by kernel_rfl)
                have e11 := hs 11 (by kernel_rfl)
                have e12 := hs 12 (by kernel_rfl)
                have e13 := hs 13 (by kernel_rfl)
                simp only [Array.getD_eq_getD_getElem?, List.getElem?_toArray, List.getElem?_cons_succ, List.getElem?_cons_zero, Option.getD_some] at e2 e9 e10 e11 e12 e13
                clear hs
                refine Eq.mpr (if_pos (by simp [Region.wanted, yielded, hp])) ?_
                refine wp_load_row 40 (.tmp 2) rfl R (by simpa [Act.eval] using e2) 40 (intsV c) (0, 0) _ (HBR.out wx hf) Tryd.underlying40 rfl (by rw [HSS.out]; kernel_rfl) ?_
                refine hK.out _ _ (Fr.refl _ _) ?_
                simp only [nth]
                (unfold Is; rfl)
            rotate_right 1
            · as_aux_lemma =>
                intro ac wx hf hs hp K hK
                simp only [zA, Region.binds, Nat.reduceAdd] at hp
                (try simp only [getD_bool] at hp)
                have e2 := hs 2 (by kernel_rfl)
                have e9 := hs 9 (by kernel_rfl)
                have e10 := hs 10 (by kernel_rfl)
                have e11 := hs 11 (by kernel_rfl)
                have e12 := hs 12 (by kernel_rfl)
                have e13 := hs 13 (by kernel_rfl)
                simp only [Array.getD_eq_getD_getElem?, List.getElem?_toArray, List.getElem?_cons_succ, List.getElem?_cons_zero, Option.getD_some] at e2 e9 e10 e11 e12 e13
                clear hs
                refine Eq.mpr (if_pos (by simp [Region.wanted, yielded, hp])) ?_
                refine wp_load_row 30 (.tmp 9) rfl D (by simpa [Act.eval] using e9) 30 (intsV c) (0, 0) _ (HBD.out wx hf) Tryd.underlying30 rfl (by rw [HSS.out]; kernel_rfl) ?_
                refine hK.out _ _ (Fr.refl _ _) ?_
                simp only [nth]
                (unfold Is; rfl)
            all_goals (as_aux_lemma =>
              intro ac wx hf hs hp K hK
              simp only [zA, Region.binds, Nat.reduceAdd] at hp
              (try simp only [getD_bool] at hp)
              have e2 := hs 2 (by kernel_rfl)
              have e9 := hs 9 (by kernel_rfl)
              have e10 := hs 10 (by kernel_rfl)
              have e11 := hs 11 (by kernel_rfl)
              have e12 := hs 12 (by kernel_rfl)
              have e13 := hs 13 (by kernel_rfl)
              simp only [Array.getD_eq_getD_getElem?, List.getElem?_toArray, List.getElem?_cons_succ, List.getElem?_cons_zero, Option.getD_some] at e2 e9 e10 e11 e12 e13
              clear hs
              have hsm := HSM.out wx hf
              have heq := HEQ.out wx
              clear hf
              (try simp only [hp])
              go_simp
              try dsimp only
              first | (refine hK.out _ _ ?_ ?_; (first | exact Fr.refl _ _ | exact (Fr.refl _ _).alloc _); (simp only [nth]; (first | (unfold Is; rfl) | (unfold Any; exact trivial) | exact IsSl.new _ _ _ _))) | (go_at_call 10; refine (law25_ConfigL c HC17.out _).mono ?_; rintro e w' ⟨rfl, f⟩; refine hK.out _ _ f ?_; simp only [nth]; (unfold Is; rfl)) | (go_at_call 11; refine (hsm).mono ?_; rintro e w' ⟨rfl, f⟩; refine hK.out _ _ f ?_; simp only [nth]; (unfold Is; rfl)))
          case hD =>
            as_aux_lemma =>
            intro xv wx hf hp
            simp only [List.take_succ_cons, List.take_zero, List.drop_succ_cons, List.drop_zero, fill, List.setIfInBounds_toArray, List.set_cons_zero, List.set_cons_succ, Nat.reduceAdd, Act.put]
            simp only [List.range_eq_range', List.range'_succ, List.range'_zero, Nat.zero_add, Nat.add_zero, Nat.reduceAdd, holds, nth, Is, Any, true_and, and_true] at hp
            obtain ⟨-, -, -, -, -, -, -, -, -, -, -, -, -, -, -, -, -, p17⟩ := hp
            simp only [p17]
            have HF9 := Lib.hid (H9.out.2.2.1.tr (HK.out.2.tr hf))
            clear p17 hf
            go_wp2
            go_ret
            exact ⟨rfl, HF9.out⟩
end Go.Proofs.YtodlbajpcbdbaaaDoor
namespace Go.Proofs.YtodlbajpcbdbaaaDoor
open Go.RowKit Go.Shelf
set_option linter.unusedVariables false
set_option linter.unusedSimpArgs false
set_option maxRecDepth 100000

theorem parse_long {t : List UInt8} (h : 65536 < t.length) : parseM t = .error (0, 3) := by
  unfold parseM
  rw [if_pos]
  unfold longB
  simp [h]
/-- What a text says. -/
def Said (t : List UInt8) (c : List Int) (l : List EV) (x y : Int) : Prop := (parseM t = .ok (c, l) ∧ x = 0 ∧ y = 0) ∨ (parseM t = .error (x, y) ∧ c = zeros17 ∧ l = [])
theorem scr_form {w w' : World} {t : List UInt8} {e : Ending} (h : ParsePost w t e w') : Fr [] w w' ∧ ∃ (c : List Int) (l : List EV) (sk : Sl) (x y : Int), Said t c l x y ∧ c.length = 17 ∧ (∀ z ∈ c, In64 z) ∧ l.length ≤ 2047 ∧ e = .returned (.tuple #[.agg (intsV c), .slice sk.A sk.n sk.c, .int .i64 x, .int .i64 y]) ∧ ERow 0 0 sk l w' := by
  unfold ParsePost at h
  refine ⟨h.1, ?_⟩
  cases hm : parseM t with
  | ok cl =>
    obtain ⟨c, l⟩ := cl
    rw [hm] at h
    obtain ⟨_, hc, sk, rfl, hr⟩ := h
    obtain ⟨hpr, _, hci, _⟩ := print_parse hm
    exact ⟨c, l, sk, 0, 0, .inl ⟨hm, rfl, rfl⟩, hc, hci, (printM_inv hpr).2.1, rfl, hr.low (Nat.zero_le _)⟩
  | error ab =>
    obtain ⟨a, b⟩ := ab
    rw [hm] at h
    obtain ⟨_, rfl⟩ := h
    exact ⟨zeros17, [], Sl.nil, a, b, .inr ⟨hm, rfl, rfl⟩, rfl, zeros_in, by simp, rfl, RowG.nil⟩
theorem ref_form {w w' : World} {t : List UInt8} {e : Ending} {c : List Int} {l : List EV} {x y : Int} (h : RParsePost w t e w') (hs : Said t c l x y) : Fr [] w w' ∧ ∃ sn : Sl, e = .returned (.tuple #[.agg (intsV c), .slice sn.A sn.n sn.c, .int .i64 x, .int .i64 y]) ∧ RRow 0 0 sn l w' := by
  unfold RParsePost at h
  refine ⟨h.2, ?_⟩
  rcases hs with ⟨hm, rfl, rfl⟩ | ⟨hm, rfl, rfl⟩
  · rw [hm] at h
    obtain ⟨⟨_, _, sn, rfl, hr⟩, _⟩ := h
    exact ⟨sn, rfl, hr.low (Nat.zero_le _)⟩
  · rw [hm] at h
    obtain ⟨rfl, _⟩ := h
    exact ⟨Sl.nil, rfl, RowG.nil⟩
set_option maxRecDepth 100000 in
set_option maxHeartbeats 16000000 in
theorem walk_ScriptParses (w : World) (s : ByteArray) (hE : Env w) (hs : s.size ≤ 1048576) : Calls Tryd.prog 3 #[.string s] w fun e w' => e = .returned (.bool true) ∧ Fr [] w w' := by
  have hA := law28_awake w hE
  have HE := Lib.hid hE
  clear hE
  go_enter Tryd.func3, Tryd.ntmps3
  go_wp2_with fail
  refine hA.mono ?_
  rintro e w1 ⟨rfl, f1⟩
  have H1 := Lib.hid f1
  have hps := scr_Parse w1 s (HE.out.fr0 f1) (by omega)
  clear f1 hA
  by_cases hlong : 70000 < s.size
  · have d1 : decide ((70000 : Int) < (s.size : Int)) = true := by simp; omega
    go_wp2_with fail
    refine hps.mono ?_
    rintro e w6 ⟨f6, hp6⟩
    rw [parse_long (t := s.bytes) (by show 65536 < s.size; omega)] at hp6
    dsimp only at hp6
    subst hp6
    have hb6 : Blk (w6.alloc (.cells (intsV zeros17) 30)) w6.heap.size (intsV zeros17) 30 := Blk.new _ _ _
    have H6 := Lib.hid (And.intro hb6 (H1.out.tr f6))
    clear hps f6 hb6 hlong
    go_wp2_with (first | (refine wpList_store_row rfl 30 (.tmp 3) (.tmp 23) rfl w6.heap.size (intsV zeros17) rfl rfl 30 (intsV zeros17) H6.out.1 (by kernel_rfl) rfl (intsV_one _) ?_) | fail)
    go_ret
    exact ⟨rfl, (H6.out.2.alloc _).setRow _ (.inr H6.out.2.size)⟩
  · have d1 : decide ((70000 : Int) < (s.size : Int)) = false := by simp; omega
    have HL := Lib.hid hlong
    clear hlong
    go_wp2_with fail
    refine hps.mono ?_
    rintro e w6 hp6
    obtain ⟨f6, c, l, sk, y, x, hsd, hc, hci, hll, rfl, hrow⟩ := scr_form hp6
    have HC17 := Lib.hid hc
    have HSS : Hid ((intsV c).size = 17) := Lib.hid (by simp [intsV, hc])
    have HS := Lib.hid (And.intro hsd hci)
    have hb6 : Blk (w6.alloc (.cells (intsV zeros17) 30)) w6.heap.size (intsV zeros17) 30 := Blk.new _ _ _
    have H6 := Lib.hid (And.intro hb6 (And.intro (H1.out.tr f6) hrow))
    clear hps hp6 f6 hb6 hrow hsd hc hci
    go_upto_region 7 with (refine wpList_store_row rfl 30 (.tmp 7) (.tmp 36) rfl w6.heap.size (intsV c) rfl rfl 30 (intsV zeros17) H6.out.1 (by rw [HSS.out]; kernel_rfl) (by rw [HSS.out]; rfl) (intsV_one _) ?_)
    obtain ⟨w7, hw7⟩ : ∃ w7, (w6.alloc (.cells (intsV zeros17) 30)).setRow w6.heap.size (intsV c) = w7 := ⟨_, rfl⟩
    obtain ⟨D, hD⟩ : ∃ D, w6.heap.size = D := ⟨_, rfl⟩
    have H7 : Hid (Blk w7 D (intsV c) 30 ∧ Fr [] w w7 ∧ ERow 0 0 sk l w7) := Lib.hid (by
      have f7 : Fr [] w6 w7 := by rw [← hw7]; exact ((Fr.refl [] w6).alloc _).setRow _ (.inr (Nat.le_refl _))
      exact ⟨by rw [← hw7, ← hD]; exact H6.out.1.setRow, H6.out.2.1.tr f7, ERow.fr f7 H6.out.2.2⟩)
    rw [show (#[Value.int .i64 0, Value.int .i64 0, Value.int .i64 0, Value.int .i64 0, Value.int .i64 0, Value.int .i64 0, Value.int .i64 0, Value.int .i64 0, Value.int .i64 0, Value.int .i64 0, Value.int .i64 0, Value.int .i64 0, Value.int .i64 0, Value.int .i64 0, Value.int .i64 0, Value.int .i64 0, Value.int .i64 0] : Array Value) = intsV zeros17 from rfl, hw7, hD]
    have hrp := r28_Parse w7 s (by have := HL.out; omega)
    clear hw7 hD
    go_wp2_with fail
    refine hrp.mono ?_
    rintro e w8 hp8
    obtain ⟨f8, sn, rfl, hrow⟩ := ref_form hp8 HS.out.1
    have hb8 : Blk (w8.alloc (.cells (intsV zeros17) 40)) w8.heap.size (intsV zeros17) 40 := Blk.new _ _ _
    have H8 := Lib.hid (And.intro hb8 (And.intro (H7.out.2.1.tr f8) (And.intro hrow (And.intro (H7.out.1.fr f8 (by simp)) (ERow.fr f8 H7.out.2.2)))))
    clear hrp hp8 f8 hb8 hrow
    go_upto_region 8 with (refine wpList_store_row rfl 40 (.tmp 11) (.tmp 43) rfl w8.heap.size (intsV c) rfl rfl 40 (intsV zeros17) H8.out.1 (by rw [HSS.out]; kernel_rfl) (by rw [HSS.out]; rfl) (intsV_one _) ?_)
    obtain ⟨wr, hwr⟩ : ∃ wr, (w8.alloc (.cells (intsV zeros17) 40)).setRow w8.heap.size (intsV c) = wr := ⟨_, rfl⟩
    obtain ⟨R, hR⟩ : ∃ R, w8.heap.size = R := ⟨_, rfl⟩
    have H9 : Hid (Blk wr R (intsV c) 40 ∧ Fr [] w wr ∧ RRow 0 0 sn l wr ∧ Blk wr D (intsV c) 30 ∧ ERow 0 0 sk l wr) := Lib.hid (by
      have f9 : Fr [] w8 wr := by rw [← hwr]; exact ((Fr.refl [] w8).alloc _).setRow _ (.inr (Nat.le_refl _))
      exact ⟨by rw [← hwr, ← hR]; exact H8.out.1.setRow, H8.out.2.1.tr f9, RRow.fr f9 H8.out.2.2.1, H8.out.2.2.2.1.fr f9 (by simp), ERow.fr f9 H8.out.2.2.2.2⟩)
    rw [show (#[Value.int .i64 0, Value.int .i64 0, Value.int .i64 0, Value.int .i64 0, Value.int .i64 0, Value.int .i64 0, Value.int .i64 0, Value.int .i64 0, Value.int .i64 0, Value.int .i64 0, Value.int .i64 0, Value.int .i64 0, Value.int .i64 0, Value.int .i64 0, Value.int .i64 0, Value.int .i64 0, Value.int .i64 0] : Array Value) = intsV zeros17 from rfl, hwr, hR]
    clear hwr hR
    have HBD : Hid (∀ wx, Fr [] wr wx → Blk wx D (intsV c) 30) := Lib.hid fun wx f => H9.out.2.2.2.1.fr f (by simp)
    have HBR : Hid (∀ wx, Fr [] wr wx → Blk wx R (intsV c) 40) := Lib.hid fun wx f => H9.out.1.fr f (by simp)
    have HSM : Hid (∀ wx, Fr [] wr wx → Calls Tryd.prog 11 #[.slice sk.A sk.n sk.c, .slice sn.A sn.n sn.c] wx fun r w' => r = .returned (.bool true) ∧ Fr [] wx w') := Lib.hid fun wx f => law28_same wx l sk sn 0 0 0 0 (ERow.fr f H9.out.2.2.2.2) (RRow.fr f H9.out.2.2.1) (by omega)
    have HEQ : Hid (∀ wx, (binOp .eql 30 (.agg (intsV c)) (.agg (intsV c))).run Tryd.prog wx = .ok (.bool true) wx) := Lib.hid fun wx => by have := cfg_eql c c HC17.out HS.out.2 HC17.out HS.out.2 wx; simpa using this
    refine wp_region_keepsU [] [Is (.int .i64 x), Is (.int .i64 x), Is (.bool true), Is (.bool true), Is (.int .i64 y), Is (.int .i64 y), Is (.bool true), Is (.bool true), Is (.bool true), Is (.agg (intsV c)), Is (.agg (intsV c)), Is (.agg (intsV c)), Is (.bool true), Is (.bool true), Is (.bool true), Is (.slice sk.A sk.n sk.c), Is (.slice sn.A sn.n sn.c), Is (.bool true), Is (.bool true)] 19 (by kernel_rfl) (by kernel_rfl) (by kernel_rfl) (by kernel_rfl) (by kernel_rfl) (by kernel_rfl) ?hV ?hS ?hD
    case hV =>
      repeat (first | exact trivial | exact Is.keeps _ | exact Any.keeps | exact IsSl.keeps _ _ _ | refine And.intro ?_ ?_)
    case hS =>
      (repeat' (first | exact trivial | refine And.intro ?_ ?_))
      rotate_right 7
      · as_aux_lemma =>
          intro ac wx hf hs hp K hK
          simp only [zA, Region.binds, Nat.reduceAdd] at hp
          (try simp only [getD_bool] at hp)
          have e7 := hs 7 (by kernel_rfl)
          have e8 := hs 8 (by kernel_rfl)
          have e9 := hs 9 (by kernel_rfl)
          have e10 := hs 10 (by kernel_rfl)
          have e11 := hs 11 (by kernel_rfl)
          have e12 := hs 12 (by kernel_rfl)
          have e13 := hs 13 (by kernel_rfl)
          have e14 := hs 14 (by kernel_rfl)
          simp only [Array.getD_eq_getD_getElem?, List.getElem?_toArray, List.getElem?_cons_succ, List.getElem?_cons_zero, Option.getD_some] at e7 e8 e9 e10 e11 e12 e13 e14
          clear hs
          obtain ⟨q9, q11, q8⟩ := hp
          refine Eq.mpr (if_pos (by simp [Region.wanted, yielded, q8])) ?_
          refine wp_bin .eql 30 (.tmp 56) (.tmp 58) _ (.bool true) rfl (by rw [show ac.eval (.tmp 56) = .agg (intsV c) by simpa [Act.eval] using q9, show ac.eval (.tmp 58) = .agg (intsV c) by simpa [Act.eval] using q11]; exact cfg_guard _ _ _ _ wx) (by rw [show ac.eval (.tmp 56) = .agg (intsV c) by simpa [Act.eval] using q9, show ac.eval (.tmp 58) = .agg (intsV c) by simpa [Act.eval] using q11]; exact HEQ.out wx) ?_
          refine hK.out _ _ (Fr.refl _ _) ?_
          simp only [nth]
          (unfold Is; rfl)
      rotate_right 2
      · as_aux_lemma =>
          intro ac wx hf hs hp K hK
          simp only [zA, Region.binds, Nat.reduceAdd] at hp
          (try simp only [getD_bool] at hp)
          have e7 := hs 7 (by kernel_rfl)
          have e8 := hs 8 (by kernel_rfl)
          have e9 := hs 9 (by kernel_rfl)
          have e10 := hs 10 (by kernel_rfl)
          have e11 := hs 11 (by kernel_rfl)
          have e12 := hs 12 (by kernel_rfl)
          have e13 := hs 13 (by kernel_rfl)
          have e14 := hs 14 (by kernel_rfl)
          simp only [Array.getD_eq_getD_getElem?, List.getElem?_toArray, List.getElem?_cons_succ, List.getElem?_cons_zero, Option.getD_some] at e7 e8 e9 e10 e11 e12 e13 e14
          clear hs
          refine Eq.mpr (if_pos (by simp [Region.wanted, yielded, hp])) ?_
          refine wp_load_row 40 (.tmp 11) rfl R (by simpa [Act.eval] using e11) 40 (intsV c) (0, 0) _ (HBR.out wx hf) Tryd.underlying40 rfl (by rw [HSS.out]; kernel_rfl) ?_
          refine hK.out _ _ (Fr.refl _ _) ?_
          simp only [nth]
          (unfold Is; rfl)
      rotate_right 1
      · as_aux_lemma =>
          intro ac wx hf hs hp K hK
          simp only [zA, Region.binds, Nat.reduceAdd] at hp
          (try simp only [getD_bool] at hp)
          have e7 := hs 7 (by kernel_rfl)
          have e8 := hs 8 (by kernel_rfl)
          have e9 := hs 9 (by kernel_rfl)
          have e10 := hs 10 (by kernel_rfl)
          have e11 := hs 11 (by kernel_rfl)
          have e12 := hs 12 (by kernel_rfl)
          have e13 := hs 13 (by kernel_rfl)
          have e14 := hs 14 (by kernel_rfl)
          simp only [Array.getD_eq_getD_getElem?, List.getElem?_toArray, List.getElem?_cons_succ, List.getElem?_cons_zero, Option.getD_some] at e7 e8 e9 e10 e11 e12 e13 e14
          clear hs
          refine Eq.mpr (if_pos (by simp [Region.wanted, yielded, hp])) ?_
          refine wp_load_row 30 (.tmp 7) rfl D (by simpa [Act.eval] using e7) 30 (intsV c) (0, 0) _ (HBD.out wx hf) Tryd.underlying30 rfl (by rw [HSS.out]; kernel_rfl) ?_
          refine hK.out _ _ (Fr.refl _ _) ?_
          simp only [nth]
          (unfold Is; rfl)
      all_goals (as_aux_lemma =>
        intro ac wx hf hs hp K hK
        simp only [zA, Region.binds, Nat.reduceAdd] at hp
        (try simp only [getD_bool] at hp)
        have e7 := hs 7 (by kernel_rfl)
        have e8 := hs 8 (by kernel_rfl)
        have e9 := hs 9 (by kernel_rfl)
        have e10 := hs 10 (by kernel_rfl)
        have e11 := hs 11 (by kernel_rfl)
        have e12 := hs 12 (by kernel_rfl)
        have e13 := hs 13 (by kernel_rfl)
        have e14 := hs 14 (by kernel_rfl)
        simp only [Array.getD_eq_getD_getElem?, List.getElem?_toArray, List.getElem?_cons_succ, List.getElem?_cons_zero, Option.getD_some] at e7 e8 e9 e10 e11 e12 e13 e14
        clear hs
        have hsm := HSM.out wx hf
        have heq := HEQ.out wx
        clear hf
        (try simp only [hp])
        go_simp
        try dsimp only
        first | (refine hK.out _ _ ?_ ?_; (first | exact Fr.refl _ _ | exact (Fr.refl _ _).alloc _); (simp only [nth]; (first | (unfold Is; rfl) | (unfold Any; exact trivial) | exact IsSl.new _ _ _ _))) | (go_at_call 10; refine (law25_ConfigL c HC17.out _).mono ?_; rintro e w' ⟨rfl, f⟩; refine hK.out _ _ f ?_; simp only [nth]; (unfold Is; rfl)) | (go_at_call 11; refine (hsm).mono ?_; rintro e w' ⟨rfl, f⟩; refine hK.out _ _ f ?_; simp only [nth]; (unfold Is; rfl)))
    case hD =>
      as_aux_lemma =>
      intro xv wx hf hp
      simp only [List.take_succ_cons, List.take_zero, List.drop_succ_cons, List.drop_zero, fill, List.setIfInBounds_toArray, List.set_cons_zero, List.set_cons_succ, Nat.reduceAdd, Act.put]
      simp only [List.range_eq_range', List.range'_succ, List.range'_zero, Nat.zero_add, Nat.add_zero, Nat.reduceAdd, holds, nth, Is, Any, true_and, and_true] at hp
      obtain ⟨-, -, -, -, -, -, -, -, -, -, -, -, -, -, -, -, -, -, p18⟩ := hp
      simp only [p18]
      have HF9 := Lib.hid (H9.out.2.1.tr hf)
      clear p18 hf
      go_wp2
      go_ret
      exact ⟨rfl, HF9.out⟩
end Go.Proofs.YtodlbajpcbdbaaaDoor
