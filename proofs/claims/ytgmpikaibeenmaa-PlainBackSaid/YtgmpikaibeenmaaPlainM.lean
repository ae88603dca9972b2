
/- Any datagram, test, exchange: the PDU, or what may not be. -/
import Derived.Test.YtgmpikaibeenmaaPlainL
namespace Go.Proofs.Ytgmpikaibeenmaa
open Go.RowKit Go.Shelf Go.ChangeMaps Go.ChangeShapes Go.WideShapes Go.ChangeAt
set_option linter.unusedVariables false
set_option linter.unusedSimpArgs false
set_option maxRecDepth 100000

/-- A slice argument that may be nil. -/
theorem Ints.open_ {H : Type} {enc : TypeId × Value → H} {P : Program} {w : World} {base : Nat} {spare : Nat → Bool} {held : Bool} {t e : TypeId} {k : IntKind} {A : Option Addr} {len cap : Nat} {d : DataW H} {p : List MemPlace}
    (ht : P.underlying t = some (.slice e)) (he : P.underlying e = some (.int k)) (hc : P.cellsOf e = 1) (h : DataW.Trod enc P w base spare held t (.slice A len cap) d p) :
    ∃ l : List Int, l.length = len ∧ len ≤ 9223372036854775807 ∧ Ints k w (.slice A len cap) l := by
  obtain ⟨fuel, hf⟩ := h
  rcases open_ints ht he hc hf with ⟨hcs, _⟩ | ⟨x, l, c, zs, hcs, _, hl, hm, hz, _, hcell, hwz⟩
  · simp [Value.cells] at hcs
    obtain ⟨rfl, rfl, rfl⟩ := hcs
    exact ⟨[], rfl, by omega, .inl ⟨rfl, rfl⟩⟩
  · simp [Value.cells] at hcs
    obtain ⟨rfl, rfl, rfl⟩ := hcs
    unfold maxLen at hm
    have hle : len ≤ zs.length := by rw [hz]; split <;> omega
    have hlen : (zs.take len).length = len := by simp; omega
    exact ⟨zs.take len, hlen, by omega, .inr ⟨_, _, by rw [hlen], ArgInts.of len hle hcell hwz⟩⟩
theorem Bts.argN {w : World} {s : Sl} {l : List Int} (h : Ints .u8 w s.v l) : Bts w.heap.size w s l := by
  refine ⟨h, fun hne b hb => .inl ?_⟩
  obtain ⟨A, hA, rfl⟩ := mem_blk hb
  rcases h with ⟨_, e⟩ | ⟨A', cap, e, hi⟩
  · exact absurd e hne
  · cases s
    simp only [Sl.v, Value.slice.injEq] at e
    simp only at hA
    rw [e.1] at hA
    cases hA
    obtain ⟨b, off, x, hA2, hc, _⟩ := hi.at_ 0 (List.length_pos_iff.2 hne)
    cases hA2
    exact World.block_lt_of_cell? _ _ hc
theorem Blk.pd {w : World} {b : Nat} {d : PD} {s : Sl} (h : Blk w b (d.arr s) 29) : w.cell? ⟨b, 0, none⟩ = some (.int .i64 d.to) ∧ w.cell? ⟨b, 1, none⟩ = some (.int .i64 d.fr) ∧ w.cell? ⟨b, 2, none⟩ = some (.bool d.rs) ∧ w.cell? ⟨b, 3, none⟩ = some (.int .i64 d.fm) ∧ w.cell? ⟨b, 4, none⟩ = some (.int .i64 d.kd) ∧ w.cell? ⟨b, 5, none⟩ = some (.int .i64 d.ns) ∧ w.cell? ⟨b, 6, none⟩ = some (.int .i64 d.nr) ∧ w.cell? ⟨b, 7, none⟩ = some (.bool d.po) ∧ w.cell? ⟨b, 8, none⟩ = some (.slice s.A s.n s.c) :=
  ⟨h.cell 0 rfl, h.cell 1 rfl, h.cell 2 rfl, h.cell 3 rfl, h.cell 4 rfl, h.cell 5 rfl, h.cell 6 rfl, h.cell 7 rfl, h.cell 8 rfl⟩
theorem makeP_len {k fr to l : Int} {p : Bool} {b : List Int} (h : b.length ≤ 100000) : (makeP k fr to l p b).1.info.length ≤ 100000 := by
  unfold makeP
  split
  · simp [PD.none]
  · split
    · simp [PD.none]
    · exact h
theorem xidP_len {fr to n : Int} : (xidP fr to n).1.info.length ≤ 100000 := by
  unfold xidP
  split
  · simp [PD.none]
  · refine makeP_len ?_
    unfold classB
    split <;> simp

set_option maxHeartbeats 4000000 in
theorem walk_PlainAsks (w : World) (fr : Int) (wfr : (Lit.int .i64 fr).wf = true) (to : Int) (wto : (Lit.int .i64 to).wf = true) (s : Sl) (l : List Int) (hm : l.length ≤ 9223372036854775807) (ha : Ints .u8 w s.v l) :
    Calls Try.prog 4 #[.int .i64 fr, .int .i64 to, .slice s.A s.n s.c] w fun e w' => e = .returned (.bool true) ∧ Fr [] w w' := by
  have hb := Bts.argN ha
  have hn := hb.n
  obtain ⟨A, n, c⟩ := s
  simp only at hn
  subst hn
  by_cases hl : 1200 < l.length
  · have d1 : decide ((1200 : Int) < (l.length : Int)) = true := by simp; omega
    go_enter Try.func4, Try.ntmps4
    go_wp2_with fail
    refine (plain_awake _).mono ?_
    rintro e w1 ⟨rfl, f1⟩
    go_wp2
    go_ret
    exact ⟨rfl, f1⟩
  · have d1 : decide ((1200 : Int) < (l.length : Int)) = false := by simp; omega
    have hl5 : l.length ≤ 100000 := by omega
    obtain ⟨r1, hr1⟩ : ∃ r, makeP 0 fr to 1 false l = r := ⟨_, rfl⟩
    obtain ⟨r2, hr2⟩ : ∃ r, makeP 2 fr to 0 true l = r := ⟨_, rfl⟩
    obtain ⟨r3, hr3⟩ : ∃ r, xidP fr to (l.length : Int) = r := ⟨_, rfl⟩
    have z1 : r1.1.info.length ≤ 100000 := by rw [← hr1]; exact makeP_len hl5
    have z2 : r2.1.info.length ≤ 100000 := by rw [← hr2]; exact makeP_len hl5
    have z3 : r3.1.info.length ≤ 100000 := by rw [← hr3]; exact xidP_len
    have c1 := fun (w2 : World) (f : Fr [] w w2) => plain_Unit fr to ⟨A, l.length, c⟩ l w.heap.size w2 (hb.fr f) f.size hl5
    have c2 := fun (w2 : World) (f : Fr [] w w2) => r_Unit fr to ⟨A, l.length, c⟩ l w.heap.size w2 (hb.fr f) f.size hl5
    have c3 := fun (w2 : World) (f : Fr [] w w2) => plain_AskTest fr to ⟨A, l.length, c⟩ l w.heap.size w2 (hb.fr f) f.size hl5
    have c4 := fun (w2 : World) (f : Fr [] w w2) => r_AskTest fr to ⟨A, l.length, c⟩ l w.heap.size w2 (hb.fr f) f.size hl5
    have c5 := fun (w2 : World) (f : Fr [] w w2) => plain_AskXid fr to (l.length : Int) w.heap.size w2 f.size
    have c6 := fun (w2 : World) (f : Fr [] w w2) => r_AskXid fr to (l.length : Int) w.heap.size w2 f.size
    rw [hr1] at c1 c2
    rw [hr2] at c3 c4
    rw [hr3] at c5 c6
    clear hr1 hr2 hr3 hb ha
    go_enter Try.func4, Try.ntmps4
    go_wp2_with fail
    refine (plain_awake _).mono ?_
    rintro e w1 ⟨rfl, f1⟩
    go_wp2_with fail
    refine (c1 _ f1).mono ?_
    rintro e w2 ⟨s1, rfl, hB1, f2⟩
    have F2 := f1.tr f2
    clear f1 f2
    go_wp2_with fail
    refine (c2 _ (F2.alloc _)).mono ?_
    rintro e w3 ⟨s2, rfl, hB2, f3⟩
    have F3 := (F2.alloc (.cells (PD.arr r1.1 s1) 29)).tr f3
    have b1 := (Blk.new w2 (PD.arr r1.1 s1) 29).fr f3 (by simp)
    have hB1 := (hB1.fr ((Fr.refl [] w2).alloc (.cells (PD.arr r1.1 s1) 29))).fr f3
    clear f3 F2
    go_wp2_with fail
    refine (c3 _ (F3.alloc _)).mono ?_
    rintro e w4 ⟨s3, rfl, hB3, f4⟩
    have F4 := (F3.alloc (.cells (PD.arr r1.1 s2) 29)).tr f4
    have b2 := (Blk.new w3 (PD.arr r1.1 s2) 29).fr f4 (by simp)
    have b1 := (b1.alloc (.cells (PD.arr r1.1 s2) 29)).fr f4 (by simp)
    have hB1 := (hB1.fr ((Fr.refl [] w3).alloc (.cells (PD.arr r1.1 s2) 29))).fr f4
    have hB2 := (hB2.fr ((Fr.refl [] w3).alloc (.cells (PD.arr r1.1 s2) 29))).fr f4
    clear f4 F3
    go_wp2_with fail
    refine (c4 _ (F4.alloc _)).mono ?_
    rintro e w5 ⟨s4, rfl, hB4, f5⟩
    have F5 := (F4.alloc (.cells (PD.arr r2.1 s3) 29)).tr f5
    have b3 := (Blk.new w4 (PD.arr r2.1 s3) 29).fr f5 (by simp)
    have b1 := (b1.alloc (.cells (PD.arr r2.1 s3) 29)).fr f5 (by simp)
    have b2 := (b2.alloc (.cells (PD.arr r2.1 s3) 29)).fr f5 (by simp)
    have hB1 := (hB1.fr ((Fr.refl [] w4).alloc (.cells (PD.arr r2.1 s3) 29))).fr f5
    have hB2 := (hB2.fr ((Fr.refl [] w4).alloc (.cells (PD.arr r2.1 s3) 29))).fr f5
    have hB3 := (hB3.fr ((Fr.refl [] w4).alloc (.cells (PD.arr r2.1 s3) 29))).fr f5
    clear f5 F4
    go_wp2_with fail
    refine (c5 _ (F5.alloc _)).mono ?_
    rintro e w6 ⟨s5, rfl, hB5, f6⟩
    have F6 := (F5.alloc (.cells (PD.arr r2.1 s4) 29)).tr f6
    have b4 := (Blk.new w5 (PD.arr r2.1 s4) 29).fr f6 (by simp)
    have b1 := (b1.alloc (.cells (PD.arr r2.1 s4) 29)).fr f6 (by simp)
    have b2 := (b2.alloc (.cells (PD.arr r2.1 s4) 29)).fr f6 (by simp)
    have b3 := (b3.alloc (.cells (PD.arr r2.1 s4) 29)).fr f6 (by simp)
    have hB1 := (hB1.fr ((Fr.refl [] w5).alloc (.cells (PD.arr r2.1 s4) 29))).fr f6
    have hB2 := (hB2.fr ((Fr.refl [] w5).alloc (.cells (PD.arr r2.1 s4) 29))).fr f6
    have hB3 := (hB3.fr ((Fr.refl [] w5).alloc (.cells (PD.arr r2.1 s4) 29))).fr f6
    have hB4 := (hB4.fr ((Fr.refl [] w5).alloc (.cells (PD.arr r2.1 s4) 29))).fr f6
    clear f6 F5
    go_wp2_with fail
    refine (c6 _ (F6.alloc _)).mono ?_
    rintro e w7 ⟨s6, rfl, hB6, f7⟩
    have F7 := (F6.alloc (.cells (PD.arr r3.1 s5) 29)).tr f7
    have b5 := (Blk.new w6 (PD.arr r3.1 s5) 29).fr f7 (by simp)
    have b1 := (b1.alloc (.cells (PD.arr r3.1 s5) 29)).fr f7 (by simp)
    have b2 := (b2.alloc (.cells (PD.arr r3.1 s5) 29)).fr f7 (by simp)
    have b3 := (b3.alloc (.cells (PD.arr r3.1 s5) 29)).fr f7 (by simp)
    have b4 := (b4.alloc (.cells (PD.arr r3.1 s5) 29)).fr f7 (by simp)
    have hB1 := (hB1.fr ((Fr.refl [] w6).alloc (.cells (PD.arr r3.1 s5) 29))).fr f7
    have hB2 := (hB2.fr ((Fr.refl [] w6).alloc (.cells (PD.arr r3.1 s5) 29))).fr f7
    have hB3 := (hB3.fr ((Fr.refl [] w6).alloc (.cells (PD.arr r3.1 s5) 29))).fr f7
    have hB4 := (hB4.fr ((Fr.refl [] w6).alloc (.cells (PD.arr r3.1 s5) 29))).fr f7
    have hB5 := (hB5.fr ((Fr.refl [] w6).alloc (.cells (PD.arr r3.1 s5) 29))).fr f7
    clear f7 F6
    clear c1 c2 c3 c4 c5 c6
    have b1 := b1.alloc (.cells (PD.arr r3.1 s6) 29)
    have b2 := b2.alloc (.cells (PD.arr r3.1 s6) 29)
    have b3 := b3.alloc (.cells (PD.arr r3.1 s6) 29)
    have b4 := b4.alloc (.cells (PD.arr r3.1 s6) 29)
    have b5 := b5.alloc (.cells (PD.arr r3.1 s6) 29)
    have b6 := Blk.new w7 (PD.arr r3.1 s6) 29
    have hB1 := hB1.fr ((Fr.refl [] w7).alloc (.cells (PD.arr r3.1 s6) 29))
    have hB2 := hB2.fr ((Fr.refl [] w7).alloc (.cells (PD.arr r3.1 s6) 29))
    have hB3 := hB3.fr ((Fr.refl [] w7).alloc (.cells (PD.arr r3.1 s6) 29))
    have hB4 := hB4.fr ((Fr.refl [] w7).alloc (.cells (PD.arr r3.1 s6) 29))
    have hB5 := hB5.fr ((Fr.refl [] w7).alloc (.cells (PD.arr r3.1 s6) 29))
    have hB6 := hB6.fr ((Fr.refl [] w7).alloc (.cells (PD.arr r3.1 s6) 29))
    have F8 := F7.alloc (.cells (PD.arr r3.1 s6) 29)
    clear F7
    have q1 := b1.pd
    have q2 := b2.pd
    go_wp2_with fail
    refine (r_SameP r1.1 s1 s2 w.heap.size _ hB1 hB2 z1).mono ?_
    rintro e w8 ⟨rfl, f8⟩
    have q3 := (b3.fr f8 (by simp)).pd
    have q4 := (b4.fr f8 (by simp)).pd
    have F9 := F8.tr f8
    have b5 := b5.fr f8 (by simp)
    have b6 := b6.fr f8 (by simp)
    have hB3 := hB3.fr f8
    have hB4 := hB4.fr f8
    have hB5 := hB5.fr f8
    have hB6 := hB6.fr f8
    clear q1 q2 F8 f8 b1 b2 b3 b4
    go_wp2_with fail
    refine (r_SameP r2.1 s3 s4 w.heap.size _ hB3 hB4 z2).mono ?_
    rintro e w9 ⟨rfl, f9⟩
    have q5 := (b5.fr f9 (by simp)).pd
    have q6 := (b6.fr f9 (by simp)).pd
    have F10 := F9.tr f9
    have hB5 := hB5.fr f9
    have hB6 := hB6.fr f9
    clear q3 q4 F9 f9 b5 b6
    go_wp2_with fail
    refine (r_SameP r3.1 s5 s6 w.heap.size _ hB5 hB6 z3).mono ?_
    rintro e w10 ⟨rfl, f10⟩
    have F11 := F10.tr f10
    clear q5 q6 F10 f10
    go_wp2
    go_ret
    exact ⟨rfl, F11⟩

end Go.Proofs.Ytgmpikaibeenmaa
