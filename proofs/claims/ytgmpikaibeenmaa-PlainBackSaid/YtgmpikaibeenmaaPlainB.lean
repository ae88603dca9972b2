
/- The references: copies of bytes, whether they are the same, the PDUs that are asked. -/
import Derived.Test.YtgmpikaibeenmaaPlainA
namespace Go.Proofs.Ytgmpikaibeenmaa
open Go.RowKit
set_option linter.unusedVariables false
set_option linter.unusedSimpArgs false
set_option maxRecDepth 100000

theorem r_Same (w : World) (a b : Sl) (la lb : List Int) (ha : Ints .u8 w a.v la) (hb : Ints .u8 w b.v lb) (hn : la.length ≤ 100000) :
    Calls Try.prog 15 #[.slice a.A a.n a.c, .slice b.A b.n b.c] w fun e w' => e = .returned (.bool (la == lb)) ∧ Fr [] w w' := by
  have na := ha.n_
  have nb := hb.n_
  by_cases hl : la.length = lb.length
  · have d1 : ((la.length : Int) != (lb.length : Int)) = false := by simp [hl]
    rw [na, nb]
    go_enter Try.func15, Try.ntmps15
    clear na nb
    have HL := Lib.hid hl
    clear hl
    go_wp2
    go_loopw [5] (fun i wr => ∃ k : Nat, i = .int .i64 k ∧ k ≤ la.length ∧ la.take k = lb.take k ∧ Fr [] w wr) (fun i _ => la.length - (intOf i).toNat)
    case atStart => exact ⟨0, rfl, by omega, rfl, Fr.refl _ _⟩
    case round =>
      obtain ⟨k, rfl, hk, ht, hf⟩ := hrel
      have HT := Lib.hid ht
      clear ht
      by_cases hlt : k < la.length
      · have d2 : decide ((k : Int) < (la.length : Int)) = true := by simp; omega
        have hlb : k < lb.length := by rw [← HL.out]; exact hlt
        obtain ⟨b1, o1, e1, c1⟩ := (ha.fr hf).at_ k hlt
        obtain ⟨b2, o2, e2, c2⟩ := (hb.fr hf).at_ k hlb
        have i1 : decide ((k : Int) < (lb.length : Int)) = true := by simp; omega
        obtain ⟨x, hx⟩ : ∃ x, la[k] = x := ⟨_, rfl⟩
        obtain ⟨y, hy⟩ : ∃ y, lb[k] = y := ⟨_, rfl⟩
        rw [hx] at c1
        rw [hy] at c2
        have HX := Lib.hid hx
        have HY := Lib.hid hy
        clear hx hy
        by_cases hxy : x = y
        · subst hxy
          go_wp2
          go_quiet (fail)
          go_wp2
          go_roundw
          case rel => exact ⟨k + 1, by simp, by omega, by rw [← List.take_append_getElem hlt, ← List.take_append_getElem hlb, HT.out, HX.out, HY.out], hf.drewN _⟩
          case measure => simp [intOf]; omega
        · have d3 : (x != y) = true := by simpa using hxy
          go_wp2
          go_quiet (fail)
          go_wp2
          go_ret
          have : (la == lb) = false := by
            rw [beq_eq_false_iff_ne]
            intro e
            apply hxy
            have h1 : la[k]? = lb[k]? := by rw [e]
            rw [List.getElem?_eq_getElem hlt, List.getElem?_eq_getElem hlb] at h1
            simpa [HX.out, HY.out] using h1
          rw [this]
          exact ⟨rfl, hf.drewN _⟩
      · have d2 : decide ((k : Int) < (la.length : Int)) = false := by simp; omega
        go_wp2
        go_ret
        have : la = lb := by
          have h1 := HT.out
          rwa [List.take_of_length_le (by omega), List.take_of_length_le (by rw [← HL.out]; omega)] at h1
        rw [this]
        exact ⟨by simp, hf⟩
  · have d1 : ((la.length : Int) != (lb.length : Int)) = true := by simp; omega
    have hne : (la == lb) = false := by rw [beq_eq_false_iff_ne]; intro e; exact hl (by rw [e])
    rw [na, nb, hne]
    clear na nb hl hne
    go_enter Try.func15, Try.ntmps15
    go_wp2
    go_ret
    exact ⟨rfl, Fr.refl _ _⟩


set_option maxHeartbeats 1000000 in
theorem r_Copy (w : World) (N : Nat) (s : Sl) (l : List Int) (h : Bts N w s l) (hl : l.length ≤ 100000) :
    Calls Try.prog 48 #[.slice s.A s.n s.c] w fun e w' => ∃ s' : Sl, e = .returned (.slice s'.A s'.n s'.c) ∧ Bts N w' s' l ∧ Fr [] w w' := by
  rw [h.n]
  have hw := h.wf
  have HW := Lib.hid hw
  clear hw
  obtain ⟨ji, j0, j1, j2, j3⟩ := info_parts (show (Try.prog.info? 5).map (fun i => (i.zero, i.size, i.bytes)) = some (some (.int .u8 0), 1, 1) by kernel_rfl)
  have ju : Try.prog.underlying 27 = some (.slice 5) := Try.underlying27
  go_enter Try.func48, Try.ntmps48
  go_wp2
  go_loopw [3, 4] (fun v i wr => ∃ k : Nat, i = .int .i64 k ∧ k ≤ l.length ∧ Fr [] w wr ∧ wr.ownsRow w.heap.size 5 1 v k ((l.take k).map (Value.int .u8))) (fun _ i _ => l.length - (intOf i).toNat)
  case atStart => exact ⟨0, rfl, by omega, Fr.refl _ _, by simpa using World.ownsRow_nil _ _ _ _⟩
  case round =>
    obtain ⟨k, rfl, hk, hf, hown⟩ := hrel
    have hsz := hf.size
    by_cases hlt : k < l.length
    · obtain ⟨b, o, hA, c1⟩ := (h.1.fr hf).at' k hlt
      rw [hA]
      obtain ⟨x, hx⟩ : ∃ x, l[k] = x := ⟨_, rfl⟩
      have htk : l.take (k + 1) = l.take k ++ [x] := by rw [List.take_succ_eq_append_getElem hlt, hx]
      rw [hx] at c1
      have HT := Lib.hid htk
      clear hx htk hA
      go_wp2_with (at_builtin; refine wpList_append_src rfl _ _ 27 rfl (w.heap.size) 5 ji (.int .u8 0) 1 1 ju j0 j1 j2 j3 rfl (by decide) _ _ _ rfl (hown.alloc _) _ 1 [.int .u8 x] rfl Src.one rfl (by intro u hu; simp at hu; subst hu; rfl) (by unfold maxLen; omega) (by omega) (by first | (simp; done) | (simp; omega)) ?_)
      intro v' w4 hown4 hgrow
      have f4 : Fr [] w w4 := (hf.alloc _).grown hgrow (fun k hk => .inr (hown.lt k hk).1)
      have hown5 : w4.ownsRow w.heap.size 5 1 v' (k + 1) ((l.take (k + 1)).map (Value.int .u8)) := by rw [HT.out]; simpa using hown4
      go_wp2
      go_roundw
      case rel => exact ⟨k + 1, by go_num, by omega, f4, hown5⟩
      case measure => simp [intOf]; omega
    · have hk2 : k = l.length := by omega
      subst hk2
      rw [List.take_of_length_le (Nat.le_refl _)] at hown
      obtain ⟨s2, rfl⟩ := own_sl' hown
      go_wp2
      go_ret
      exact ⟨s2, rfl, Bts.own hown HW.out N, hf⟩

theorem r_SameP (d : PD) (s1 s2 : Sl) (N : Nat) (w : World) (h1 : Bts N w s1 d.info) (h2 : Bts N w s2 d.info) (hl : d.info.length ≤ 100000) :
    Calls Try.prog 19 #[d.val s1, d.val s2] w fun e w' => e = .returned (.bool true) ∧ Fr [] w w' := by
  obtain ⟨to, fr, rs, fm, kd, ns, nr, po, info⟩ := d
  simp only [PD.val] at *
  have f2 : Fr [] w ((w.alloc (.cells #[.int .i64 to, .int .i64 fr, .bool rs, .int .i64 fm, .int .i64 kd, .int .i64 ns, .int .i64 nr, .bool po, .slice s1.A s1.n s1.c] 29)).alloc (.cells #[.int .i64 to, .int .i64 fr, .bool rs, .int .i64 fm, .int .i64 kd, .int .i64 ns, .int .i64 nr, .bool po, .slice s2.A s2.n s2.c] 29)) := ((Fr.refl _ _).alloc _).alloc _
  go_enter Try.func19, Try.ntmps19
  go_wp2_with fail
  refine (r_Same _ s1 s2 info info (h1.1.fr f2) (h2.1.fr f2) hl).mono ?_
  rintro e w4 ⟨rfl, f4⟩
  rw [beq_self_eq_true]
  go_wp2
  go_ret
  exact ⟨rfl, f2.tr f4⟩

def RetP1 (d : PD) (N : Nat) (w : World) (e : Ending) (w' : World) : Prop := ∃ s : Sl, e = .returned (d.val s) ∧ Bts N w' s d.info ∧ Fr [] w w'
def cmdP (fr to kind : Int) (poll : Bool) (b : List Int) : PD := ⟨to, fr, false, 2, kind, 0, 0, poll, b⟩
set_option maxHeartbeats 1000000 in
theorem r_command (fr to kind : Int) (poll : Bool) (s : Sl) (b : List Int) (N : Nat) (w : World) (h : Bts N w s b) (hN : N ≤ w.heap.size) (hl : b.length ≤ 100000) :
    Calls Try.prog 36 #[.int .i64 fr, .int .i64 to, .int .i64 kind, .bool poll, .slice s.A s.n s.c] w (RetP1 (cmdP fr to kind poll b) N w) := by
  go_enter Try.func36, Try.ntmps36
  go_wp2_with fail
  refine (r_Copy _ N s b (h.fr ((Fr.refl _ _).alloc _)) hl).mono ?_
  rintro e w4 ⟨s2, rfl, hB, f4⟩
  have hb4 := (Blk.new w ZP 29).fr f4 (by simp)
  have hbz := hb4.zp
  have hfz := hb4.frz9
  have F4 : Fr [] w w4 := ((Fr.refl _ _).alloc _).tr f4
  obtain ⟨B, hBe⟩ : ∃ B, w.heap.size = B := ⟨_, rfl⟩
  have hBw : w.heap.size ≤ B := by omega
  rw [hBe] at hb4 hbz hfz hN
  simp only [hBe]
  clear hBe f4 h
  go_wp2
  refine bodyPost_ret (v := (cmdP fr to kind poll b).val s2) (by simp [results, Try.results36, go_sem, hbz, cmdP]) rfl ⟨s2, rfl, hB.put hb4 (by decide) hN ?_, ?_⟩
  · ((repeat (first | (with_reducible exact Fr.refl _ _) | (with_reducible assumption) | (with_reducible refine Fr.drew ?_) | (with_reducible refine Fr.drewN ?_ _) | (with_reducible refine Fr.alloc ?_ _) | (with_reducible refine Fr.setL ?_ _ _ _ ?_) | (focus (refine Or.inl ?_; simp; done)) | (focus (refine Or.inr ?_; simp; done)) | (focus (refine Or.inr ?_; simp; omega)) | (focus (refine Or.inr ?_; omega)))); done)
  · ((repeat (first | (with_reducible exact Fr.refl _ _) | (with_reducible assumption) | (with_reducible refine Fr.drew ?_) | (with_reducible refine Fr.drewN ?_ _) | (with_reducible refine Fr.alloc ?_ _) | (with_reducible refine Fr.setL ?_ _ _ _ ?_) | (focus (refine Or.inl ?_; simp; done)) | (focus (refine Or.inr ?_; simp; done)) | (focus (refine Or.inr ?_; simp; omega)) | (focus (refine Or.inr ?_; omega)))); done)
set_option maxHeartbeats 2000000 in
theorem r_Unit (fr to : Int) (s : Sl) (b : List Int) (N : Nat) (w : World) (h : Bts N w s b) (hN : N ≤ w.heap.size) (hl : b.length ≤ 100000) :
    Calls Try.prog 16 #[.int .i64 fr, .int .i64 to, .slice s.A s.n s.c] w (RetP (makeP 0 fr to 1 false b) N w) := by
  unfold makeP
  have hn := h.n
  obtain ⟨A, n, c⟩ := s
  simp only at hn
  subst hn
  cases hs : sapB fr with
  | false =>
    have HS := Lib.hid hs
    simp only [true_or, if_true]
    clear hs
    go_enter Try.func16, Try.ntmps16
    go_wp2_with fail
    refine (r_Sap fr _).mono ?_
    rintro e w' ⟨rfl, rfl⟩
    rw [HS.out]
    go_wp2
    exact bodyPost_ret (v := .tuple #[PD.none.val Sl.nil, .int .i64 1]) (by simp [results, Try.results16, go_sem, PD.none, Sl.nil]) rfl ⟨Sl.nil, rfl, Bts.nil _ _, by ((repeat (first | (with_reducible exact Fr.refl _ _) | (with_reducible assumption) | (with_reducible refine Fr.drew ?_) | (with_reducible refine Fr.drewN ?_ _) | (with_reducible refine Fr.alloc ?_ _) | (with_reducible refine Fr.setL ?_ _ _ _ ?_) | (focus (refine Or.inl ?_; simp; done)) | (focus (refine Or.inr ?_; simp; done)) | (focus (refine Or.inr ?_; simp; omega)) | (focus (refine Or.inr ?_; omega)))); done)⟩
  | true =>
    have HS := Lib.hid hs
    clear hs
    by_cases h1 : to < 1
    · have d1 : decide (to < 1) = true := by simp; omega
      simp only [h1, true_or, or_true, if_true]
      go_enter Try.func16, Try.ntmps16
      go_wp2_with fail
      refine (r_Sap fr _).mono ?_
      rintro e w' ⟨rfl, rfl⟩
      rw [HS.out]
      go_wp2
      exact bodyPost_ret (v := .tuple #[PD.none.val Sl.nil, .int .i64 1]) (by simp [results, Try.results16, go_sem, PD.none, Sl.nil]) rfl ⟨Sl.nil, rfl, Bts.nil _ _, by ((repeat (first | (with_reducible exact Fr.refl _ _) | (with_reducible assumption) | (with_reducible refine Fr.drew ?_) | (with_reducible refine Fr.drewN ?_ _) | (with_reducible refine Fr.alloc ?_ _) | (with_reducible refine Fr.setL ?_ _ _ _ ?_) | (focus (refine Or.inl ?_; simp; done)) | (focus (refine Or.inr ?_; simp; done)) | (focus (refine Or.inr ?_; simp; omega)) | (focus (refine Or.inr ?_; omega)))); done)⟩
    · have d1 : decide (to < 1) = false := by simp; omega
      by_cases h2 : 255 < to
      · have d2 : decide (255 < to) = true := by simp; omega
        simp only [h2, true_or, or_true, if_true]
        go_enter Try.func16, Try.ntmps16
        go_wp2_with fail
        refine (r_Sap fr _).mono ?_
        rintro e w' ⟨rfl, rfl⟩
        rw [HS.out]
        go_wp2
        exact bodyPost_ret (v := .tuple #[PD.none.val Sl.nil, .int .i64 1]) (by simp [results, Try.results16, go_sem, PD.none, Sl.nil]) rfl ⟨Sl.nil, rfl, Bts.nil _ _, by ((repeat (first | (with_reducible exact Fr.refl _ _) | (with_reducible assumption) | (with_reducible refine Fr.drew ?_) | (with_reducible refine Fr.drewN ?_ _) | (with_reducible refine Fr.alloc ?_ _) | (with_reducible refine Fr.setL ?_ _ _ _ ?_) | (focus (refine Or.inl ?_; simp; done)) | (focus (refine Or.inr ?_; simp; done)) | (focus (refine Or.inr ?_; simp; omega)) | (focus (refine Or.inr ?_; omega)))); done)⟩
      · have d2 : decide (255 < to) = false := by simp; omega
        simp only [h1, h2, Bool.true_eq_false, or_false, if_false]
        by_cases h3 : 1024 < b.length
        · have d3 : decide ((1024 : Int) < (b.length : Int)) = true := by simp; omega
          rw [if_pos h3]
          go_enter Try.func16, Try.ntmps16
          go_wp2_with fail
          refine (r_Sap fr _).mono ?_
          rintro e w' ⟨rfl, rfl⟩
          rw [HS.out]
          go_wp2
          exact bodyPost_ret (v := .tuple #[PD.none.val Sl.nil, .int .i64 3]) (by simp [results, Try.results16, go_sem, PD.none, Sl.nil]) rfl ⟨Sl.nil, rfl, Bts.nil _ _, by ((repeat (first | (with_reducible exact Fr.refl _ _) | (with_reducible assumption) | (with_reducible refine Fr.drew ?_) | (with_reducible refine Fr.drewN ?_ _) | (with_reducible refine Fr.alloc ?_ _) | (with_reducible refine Fr.setL ?_ _ _ _ ?_) | (focus (refine Or.inl ?_; simp; done)) | (focus (refine Or.inr ?_; simp; done)) | (focus (refine Or.inr ?_; simp; omega)) | (focus (refine Or.inr ?_; omega)))); done)⟩
        · have d3 : decide ((1024 : Int) < (b.length : Int)) = false := by simp; omega
          rw [if_neg h3]
          obtain ⟨r, hr⟩ : ∃ r, cmdP fr to 0 false b = r := ⟨_, rfl⟩
          have hc := r_command fr to 0 false ⟨A, b.length, c⟩ b N (w.alloc (.cells ZP 29)) (h.fr ((Fr.refl _ _).alloc _)) (by simp; omega) (by omega)
          rw [show (⟨to, fr, false, 2, 0, 0, 0, false, b⟩ : PD) = r from hr]
          rw [hr] at hc
          clear hr
          go_enter Try.func16, Try.ntmps16
          go_wp2_with fail
          refine (r_Sap fr _).mono ?_
          rintro e w' ⟨rfl, rfl⟩
          rw [HS.out]
          go_wp2_with fail
          refine hc.mono ?_
          rintro e w4 ⟨s2, rfl, hB, f4⟩
          have hb4 := (Blk.new w ZP 29).fr f4 (by simp)
          have hbz := hb4.zp
          have hfz := hb4.frz9
          have F4 : Fr [] w w4 := ((Fr.refl _ _).alloc _).tr f4
          obtain ⟨B, hBe⟩ : ∃ B, w.heap.size = B := ⟨_, rfl⟩
          have hBw : w.heap.size ≤ B := by omega
          rw [hBe] at hb4 hbz hfz hN
          simp only [hBe]
          clear hBe f4 h
          go_wp2
          refine bodyPost_ret (v := .tuple #[r.val s2, .int .i64 0]) (by simp [results, Try.results16, go_sem, hbz, cmdP]) rfl ⟨s2, rfl, hB.put hb4 (by decide) hN ?_, ?_⟩
          · ((repeat (first | (with_reducible exact Fr.refl _ _) | (with_reducible assumption) | (with_reducible refine Fr.drew ?_) | (with_reducible refine Fr.drewN ?_ _) | (with_reducible refine Fr.alloc ?_ _) | (with_reducible refine Fr.setL ?_ _ _ _ ?_) | (focus (refine Or.inl ?_; simp; done)) | (focus (refine Or.inr ?_; simp; done)) | (focus (refine Or.inr ?_; simp; omega)) | (focus (refine Or.inr ?_; omega)))); done)
          · ((repeat (first | (with_reducible exact Fr.refl _ _) | (with_reducible assumption) | (with_reducible refine Fr.drew ?_) | (with_reducible refine Fr.drewN ?_ _) | (with_reducible refine Fr.alloc ?_ _) | (with_reducible refine Fr.setL ?_ _ _ _ ?_) | (focus (refine Or.inl ?_; simp; done)) | (focus (refine Or.inr ?_; simp; done)) | (focus (refine Or.inr ?_; simp; omega)) | (focus (refine Or.inr ?_; omega)))); done)

set_option maxHeartbeats 2000000 in
theorem r_AskTest (fr to : Int) (s : Sl) (b : List Int) (N : Nat) (w : World) (h : Bts N w s b) (hN : N ≤ w.heap.size) (hl : b.length ≤ 100000) :
    Calls Try.prog 17 #[.int .i64 fr, .int .i64 to, .slice s.A s.n s.c] w (RetP (makeP 2 fr to 0 true b) N w) := by
  unfold makeP
  have hn := h.n
  obtain ⟨A, n, c⟩ := s
  simp only at hn
  subst hn
  cases hs : sapB fr with
  | false =>
    have HS := Lib.hid hs
    simp only [true_or, if_true]
    clear hs
    go_enter Try.func17, Try.ntmps17
    go_wp2_with fail
    refine (r_Sap fr _).mono ?_
    rintro e w' ⟨rfl, rfl⟩
    rw [HS.out]
    go_wp2
    exact bodyPost_ret (v := .tuple #[PD.none.val Sl.nil, .int .i64 1]) (by simp [results, Try.results17, go_sem, PD.none, Sl.nil]) rfl ⟨Sl.nil, rfl, Bts.nil _ _, by ((repeat (first | (with_reducible exact Fr.refl _ _) | (with_reducible assumption) | (with_reducible refine Fr.drew ?_) | (with_reducible refine Fr.drewN ?_ _) | (with_reducible refine Fr.alloc ?_ _) | (with_reducible refine Fr.setL ?_ _ _ _ ?_) | (focus (refine Or.inl ?_; simp; done)) | (focus (refine Or.inr ?_; simp; done)) | (focus (refine Or.inr ?_; simp; omega)) | (focus (refine Or.inr ?_; omega)))); done)⟩
  | true =>
    have HS := Lib.hid hs
    clear hs
    by_cases h1 : to < 0
    · have d1 : decide (to < 0) = true := by simp; omega
      simp only [h1, true_or, or_true, if_true]
      go_enter Try.func17, Try.ntmps17
      go_wp2_with fail
      refine (r_Sap fr _).mono ?_
      rintro e w' ⟨rfl, rfl⟩
      rw [HS.out]
      go_wp2
      exact bodyPost_ret (v := .tuple #[PD.none.val Sl.nil, .int .i64 1]) (by simp [results, Try.results17, go_sem, PD.none, Sl.nil]) rfl ⟨Sl.nil, rfl, Bts.nil _ _, by ((repeat (first | (with_reducible exact Fr.refl _ _) | (with_reducible assumption) | (with_reducible refine Fr.drew ?_) | (with_reducible refine Fr.drewN ?_ _) | (with_reducible refine Fr.alloc ?_ _) | (with_reducible refine Fr.setL ?_ _ _ _ ?_) | (focus (refine Or.inl ?_; simp; done)) | (focus (refine Or.inr ?_; simp; done)) | (focus (refine Or.inr ?_; simp; omega)) | (focus (refine Or.inr ?_; omega)))); done)⟩
    · have d1 : decide (to < 0) = false := by simp; omega
      by_cases h2 : 255 < to
      · have d2 : decide (255 < to) = true := by simp; omega
        simp only [h2, true_or, or_true, if_true]
        go_enter Try.func17, Try.ntmps17
        go_wp2_with fail
        refine (r_Sap fr _).mono ?_
        rintro e w' ⟨rfl, rfl⟩
        rw [HS.out]
        go_wp2
        exact bodyPost_ret (v := .tuple #[PD.none.val Sl.nil, .int .i64 1]) (by simp [results, Try.results17, go_sem, PD.none, Sl.nil]) rfl ⟨Sl.nil, rfl, Bts.nil _ _, by ((repeat (first | (with_reducible exact Fr.refl _ _) | (with_reducible assumption) | (with_reducible refine Fr.drew ?_) | (with_reducible refine Fr.drewN ?_ _) | (with_reducible refine Fr.alloc ?_ _) | (with_reducible refine Fr.setL ?_ _ _ _ ?_) | (focus (refine Or.inl ?_; simp; done)) | (focus (refine Or.inr ?_; simp; done)) | (focus (refine Or.inr ?_; simp; omega)) | (focus (refine Or.inr ?_; omega)))); done)⟩
      · have d2 : decide (255 < to) = false := by simp; omega
        simp only [h1, h2, Bool.true_eq_false, or_false, if_false]
        by_cases h3 : 1024 < b.length
        · have d3 : decide ((1024 : Int) < (b.length : Int)) = true := by simp; omega
          rw [if_pos h3]
          go_enter Try.func17, Try.ntmps17
          go_wp2_with fail
          refine (r_Sap fr _).mono ?_
          rintro e w' ⟨rfl, rfl⟩
          rw [HS.out]
          go_wp2
          exact bodyPost_ret (v := .tuple #[PD.none.val Sl.nil, .int .i64 3]) (by simp [results, Try.results17, go_sem, PD.none, Sl.nil]) rfl ⟨Sl.nil, rfl, Bts.nil _ _, by ((repeat (first | (with_reducible exact Fr.refl _ _) | (with_reducible assumption) | (with_reducible refine Fr.drew ?_) | (with_reducible refine Fr.drewN ?_ _) | (with_reducible refine Fr.alloc ?_ _) | (with_reducible refine Fr.setL ?_ _ _ _ ?_) | (focus (refine Or.inl ?_; simp; done)) | (focus (refine Or.inr ?_; simp; done)) | (focus (refine Or.inr ?_; simp; omega)) | (focus (refine Or.inr ?_; omega)))); done)⟩
        · have d3 : decide ((1024 : Int) < (b.length : Int)) = false := by simp; omega
          rw [if_neg h3]
          obtain ⟨r, hr⟩ : ∃ r, cmdP fr to 2 true b = r := ⟨_, rfl⟩
          have hc := r_command fr to 2 true ⟨A, b.length, c⟩ b N (w.alloc (.cells ZP 29)) (h.fr ((Fr.refl _ _).alloc _)) (by simp; omega) (by omega)
          rw [show (⟨to, fr, false, 2, 2, 0, 0, true, b⟩ : PD) = r from hr]
          rw [hr] at hc
          clear hr
          go_enter Try.func17, Try.ntmps17
          go_wp2_with fail
          refine (r_Sap fr _).mono ?_
          rintro e w' ⟨rfl, rfl⟩
          rw [HS.out]
          go_wp2_with fail
          refine hc.mono ?_
          rintro e w4 ⟨s2, rfl, hB, f4⟩
          have hb4 := (Blk.new w ZP 29).fr f4 (by simp)
          have hbz := hb4.zp
          have hfz := hb4.frz9
          have F4 : Fr [] w w4 := ((Fr.refl _ _).alloc _).tr f4
          obtain ⟨B, hBe⟩ : ∃ B, w.heap.size = B := ⟨_, rfl⟩
          have hBw : w.heap.size ≤ B := by omega
          rw [hBe] at hb4 hbz hfz hN
          simp only [hBe]
          clear hBe f4 h
          go_wp2
          refine bodyPost_ret (v := .tuple #[r.val s2, .int .i64 0]) (by simp [results, Try.results17, go_sem, hbz, cmdP]) rfl ⟨s2, rfl, hB.put hb4 (by decide) hN ?_, ?_⟩
          · ((repeat (first | (with_reducible exact Fr.refl _ _) | (with_reducible assumption) | (with_reducible refine Fr.drew ?_) | (with_reducible refine Fr.drewN ?_ _) | (with_reducible refine Fr.alloc ?_ _) | (with_reducible refine Fr.setL ?_ _ _ _ ?_) | (focus (refine Or.inl ?_; simp; done)) | (focus (refine Or.inr ?_; simp; done)) | (focus (refine Or.inr ?_; simp; omega)) | (focus (refine Or.inr ?_; omega)))); done)
          · ((repeat (first | (with_reducible exact Fr.refl _ _) | (with_reducible assumption) | (with_reducible refine Fr.drew ?_) | (with_reducible refine Fr.drewN ?_ _) | (with_reducible refine Fr.alloc ?_ _) | (with_reducible refine Fr.setL ?_ _ _ _ ?_) | (focus (refine Or.inl ?_; simp; done)) | (focus (refine Or.inr ?_; simp; done)) | (focus (refine Or.inr ?_; simp; omega)) | (focus (refine Or.inr ?_; omega)))); done)

end Go.Proofs.Ytgmpikaibeenmaa
