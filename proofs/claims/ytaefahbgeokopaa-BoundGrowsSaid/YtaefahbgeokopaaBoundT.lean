/- One tick of the asking side, and the law of what is not answered. -/
import Derived.Test.YtaefahbgeokopaaBoundO
import Derived.BigQuiet
namespace Go.Proofs.Ytaefahbgeokopaa
open Go.RowKit Go.Shelf
set_option linter.unusedVariables false
set_option linter.unusedSimpArgs false

/-- What lies in memory, cell by cell. -/
structure RM where
  over : Bool
  status : Int
  b : Sl
def RM.cells (o : RM) : Array Value :=
  #[.bool o.over, .int .i64 o.status, .slice o.b.A o.b.n o.b.c]
abbrev RM.val (o : RM) : Value := .agg #[.bool o.over, .int .i64 o.status, .slice o.b.A o.b.n o.b.c]
def IsRM (w : World) (b : Nat) (o : RM) : Prop := Blk w b o.cells 38
theorem IsRM.all {w : World} {b : Nat} {o : RM} (h : IsRM w b o) : w.cell? ⟨b, 0, none⟩ = some (.bool o.over) ∧ w.cell? ⟨b, 1, none⟩ = some (.int .i64 o.status) ∧ w.cell? ⟨b, 2, none⟩ = some (.slice o.b.A o.b.n o.b.c) :=
  ⟨Blk.cell h 0 rfl, Blk.cell h 1 rfl, Blk.cell h 2 rfl⟩
theorem IsRM.frz {w : World} {b : Nat} {o : RM} (h : IsRM w b o) : w.frozen? ⟨b, 0, none⟩ = false ∧ w.frozen? ⟨b, 1, none⟩ = false ∧ w.frozen? ⟨b, 2, none⟩ = false :=
  ⟨Blk.free h 0, Blk.free h 1, Blk.free h 2⟩
theorem IsRM.new {w : World} {b : Nat} (o : RM) (h : b = w.heap.size) : IsRM (w.alloc (.cells #[.bool o.over, .int .i64 o.status, .slice o.b.A o.b.n o.b.c] 38)) b o := Blk.newAt _ _ _ _ h
theorem IsRM.fr {w w' : World} {b : Nat} {o : RM} (h : IsRM w b o) {L : List Nat} (k : Fr L w w') (hn : b ∉ L) : IsRM w' b o := Blk.fr h k hn
theorem IsRM.lt {w : World} {b : Nat} {o : RM} (h : IsRM w b o) : b < w.heap.size := Blk.lt h
theorem IsRM.f {w : World} {b : Nat} {o : RM} (h : IsRM w b o) (i : Nat) : w.frozen? ⟨b, i, none⟩ = false := Blk.free h i
theorem IsRM.al {w : World} {b : Nat} {o : RM} (h : IsRM w b o) (x : Obj) : IsRM (w.alloc x) b o := Blk.alloc h x
theorem IsRM.far {w : World} {b : Nat} {o : RM} (h : IsRM w b o) {p : Addr} (hp : b ≠ p.block) (v : Value) : IsRM (w.setCell p v) b o := Blk.far h hp v
theorem IsRM.drewN {w : World} {b : Nat} {o : RM} (h : IsRM w b o) (n : Nat) : IsRM (w.drewN n) b o := h
theorem IsRM.s_over {w : World} {b : Nat} {o : RM} (h : IsRM w b o) (x : Bool) : IsRM (w.setCell ⟨b, 0, none⟩ (.bool x)) b { o with over := x } := Blk.set h 0 _ rfl
theorem IsRM.s_status {w : World} {b : Nat} {o : RM} (h : IsRM w b o) (x : Int) : IsRM (w.setCell ⟨b, 1, none⟩ (.int .i64 x)) b { o with status := x } := Blk.set h 1 _ rfl
theorem IsRM.s_b {w : World} {b : Nat} {o : RM} (h : IsRM w b o) (x : Sl) : IsRM (w.setCell ⟨b, 2, none⟩ (.slice x.A x.n x.c)) b { o with b := x } := Blk.set h 2 _ rfl
def RM.nil : RM := ⟨false, 0, Sl.nil⟩

theorem once_Tick_more (b : Nat) (o : OM) (w : World) (h : IsO w b o) (hk : o.asks = true) (hl : 1 < o.left) (hm : o.left ≤ 1000000) :
    Calls Try.prog 12 #[.pointer (some ⟨b, 0, none⟩)] w fun e w' =>
      e = .returned (.tuple #[PM.nil.val, .bool false, RM.nil.val]) ∧ IsO w' b { o with left := o.left - 1 } ∧ Fr [b] w w' := by
  have hw : IntKind.i64.wrap (o.left - 1) = o.left - 1 := IntWalk.i64_in _ (by omega)
  have d1 : decide (0 < o.left - 1) = true := by simp; omega
  obtain ⟨-, -, -, -, -, -, c6, -, -, -, -, -, -, -, -, -, -, c17, -⟩ := h.all
  rw [hk] at c6
  have f17 := h.f 17
  have hlt := h.lt
  go_enter Try.func12, Try.ntmps12
  go_wp2_with fail
  refine bodyPost_ret (v := .tuple #[PM.nil.val, .bool false, RM.nil.val]) (by simp [results, Try.results12, go_sem, *, PM.nil, RM.nil, Sl.nil]) rfl ⟨rfl, ?_, ?_⟩
  · exact ((h.s_left (o.left - 1)).al _).al _
  · exact (by ((repeat (first | (with_reducible exact Fr.refl _ _) | (with_reducible assumption) | (with_reducible refine Fr.drew ?_) | (with_reducible refine Fr.drewN ?_ _) | (with_reducible refine Fr.alloc ?_ _) | (with_reducible refine Fr.setL ?_ _ _ _ ?_) | (focus (refine Or.inl ?_; simp; done)) | (focus (refine Or.inr ?_; simp; done)) | (focus (refine Or.inr ?_; simp; omega)) | (focus (refine Or.inr ?_; omega)))); done))

theorem once_Tick_over (b : Nat) (o : OM) (w : World) (h : IsO w b o) (hk : o.asks = true) (hl : o.left = 1) (hm : o.t ≤ o.sent) :
    Calls Try.prog 12 #[.pointer (some ⟨b, 0, none⟩)] w fun e w' =>
      e = .returned (.tuple #[PM.nil.val, .bool false, (⟨true, 1, Sl.nil⟩ : RM).val]) ∧ IsO w' b { o with left := 0, asks := false, wait := o.q, bit := 0 } ∧ Fr [b] w w' := by
  obtain ⟨c0, c1, c2, c3, c4, c5, c6, -, -, -, -, -, -, -, -, -, c16, c17, c18⟩ := h.all
  rw [hk] at c6
  rw [hl] at c17
  have f5 := h.f 5
  have f6 := h.f 6
  have f17 := h.f 17
  have f18 := h.f 18
  have hlt := h.lt
  have d1 : decide (o.t ≤ o.sent) = true := by simpa using hm
  clear hl
  go_enter Try.func12, Try.ntmps12
  go_wp2_with fail
  go_quiet (fail)
  go_wp2_with fail
  refine bodyPost_ret (v := .tuple #[PM.nil.val, .bool false, (⟨true, 1, Sl.nil⟩ : RM).val]) (by simp [results, Try.results12, go_sem, *, PM.nil, RM.nil, Sl.nil]) rfl ⟨rfl, ?_, ?_⟩
  · have hO : IsO _ b { o with left := 0, asks := false, wait := o.q, bit := 0 } := ((((((h.s_left 0).al (.cells PM.nil.cells 34)).al (.cells RM.nil.cells 38)).drewN nq).s_asks false).s_wait o.q).s_bit 0
    iterate 12 refine IsOM.far ?_ (by simp; omega) _
    exact hO
  · exact (by ((repeat (first | (with_reducible exact Fr.refl _ _) | (with_reducible assumption) | (with_reducible refine Fr.drew ?_) | (with_reducible refine Fr.drewN ?_ _) | (with_reducible refine Fr.alloc ?_ _) | (with_reducible refine Fr.setL ?_ _ _ _ ?_) | (focus (refine Or.inl ?_; simp; done)) | (focus (refine Or.inr ?_; simp; done)) | (focus (refine Or.inr ?_; simp; omega)) | (focus (refine Or.inr ?_; omega)))); done))

set_option maxHeartbeats 400000 in
theorem once_Tick_send (b : Nat) (o : OM) (w : World) (l : List Int) (h : IsO w b o) (hi : Ints .u8 w o.p.info.v l) (ha : Apart b o.p.info.v) (hn : l.length ≤ 140737488355328) (h0 : 0 ≤ o.sent) (h1 : o.sent ≤ 100000) (hk : o.asks = true) (hl : o.left = 1) (hm : o.sent < o.t) :
    Calls Try.prog 12 #[.pointer (some ⟨b, 0, none⟩)] w fun e w' =>
      ∃ s : Sl, e = .returned (.tuple #[({ o.p with info := s } : PM).val, .bool true, RM.nil.val]) ∧ Ints .u8 w' s.v l ∧ IsO w' b { o with sent := o.sent + 1, left := o.a } ∧ Fr [b] w w' := by
  obtain ⟨c0, c1, c2, c3, c4, c5, c6, -, -, -, -, -, -, -, -, -, c16, c17, c18⟩ := h.all
  rw [hk] at c6
  rw [hl] at c17
  have f17 := h.f 17
  have hlt := h.lt
  have d1 : decide (o.t ≤ o.sent) = false := by simp; omega
  clear hl
  go_enter Try.func12, Try.ntmps12
  go_wp2_with fail
  go_quiet (fail)
  go_wp2_with fail
  have hO : IsO ((((w.setCell ⟨b, 17, none⟩ (.int .i64 0)).alloc (.cells PM.nil.cells 34)).alloc (.cells RM.nil.cells 38)).drewN nq) b { o with left := 0 } := (((h.s_left 0).al _).al _).drewN nq
  have hF : Fr [b] w ((((w.setCell ⟨b, 17, none⟩ (.int .i64 0)).alloc (.cells PM.nil.cells 34)).alloc (.cells RM.nil.cells 38)).drewN nq) := by ((repeat (first | (with_reducible exact Fr.refl _ _) | (with_reducible assumption) | (with_reducible refine Fr.drew ?_) | (with_reducible refine Fr.drewN ?_ _) | (with_reducible refine Fr.alloc ?_ _) | (with_reducible refine Fr.setL ?_ _ _ _ ?_) | (focus (refine Or.inl ?_; simp; done)) | (focus (refine Or.inr ?_; simp; done)) | (focus (refine Or.inr ?_; simp; omega)) | (focus (refine Or.inr ?_; omega)))); done)
  have hP : IsPM ((((w.setCell ⟨b, 17, none⟩ (.int .i64 0)).alloc (.cells PM.nil.cells 34)).alloc (.cells RM.nil.cells 38)).drewN nq) w.heap.size PM.nil := ((IsPM.new PM.nil (by simp)).al _).drewN nq
  have hR : IsRM ((((w.setCell ⟨b, 17, none⟩ (.int .i64 0)).alloc (.cells PM.nil.cells 34)).alloc (.cells RM.nil.cells 38)).drewN nq) (w.heap.size + 1) RM.nil := (IsRM.new RM.nil (by simp)).drewN nq
  have hs0 : ((((w.setCell ⟨b, 17, none⟩ (.int .i64 0)).alloc (.cells PM.nil.cells 34)).alloc (.cells RM.nil.cells 38)).drewN nq).heap.size = w.heap.size + 2 := by simp [World.drewN]
  have hi1 := hi.frL hF ha.not
  refine (once_send _ _ _ l hO hi1 ha hn h0 (by simp; omega)).mono ?_
  clear hO
  rintro e w1 ⟨s, rfl, hv, hy, hO, f1⟩
  have hO' : IsO w1 b { o with sent := o.sent + 1, left := o.a } := hO
  clear hO
  rw [hs0] at hy
  have hs1 := f1.size
  rw [hs0] at hs1
  have hP1 := hP.fr f1 (by simp; omega)
  have hR1 := hR.fr f1 (by simp; omega)
  have hF1 := hF.tr f1
  clear hs0 f1 hF hP hR hi1 c0 c1 c2 c3 c4 c5 c6 c16 c17 c18 f17
  obtain ⟨d0, d1, d2, d3, d4, d5, d6, d7, d8⟩ := hP1.all
  obtain ⟨e0, e1, e2, e3, e4, e5, e6, e7, e8⟩ := hP1.frz
  obtain ⟨g0, g1, g2⟩ := hR1.all
  obtain ⟨i0, i1, i2⟩ := hR1.frz
  dsimp only
  go_wp2
  refine bodyPost_ret (v := .tuple #[({ o.p with info := s } : PM).val, .bool true, RM.nil.val]) (by simp [results, Try.results12, go_sem, *, RM.nil, Sl.nil]) rfl ⟨s, rfl, ?_, ?_, ?_⟩
  · exact hv.frL (L := [w.heap.size, w.heap.size + 1]) (by ((repeat (first | (with_reducible exact Fr.refl _ _) | (with_reducible assumption) | (with_reducible refine Fr.drew ?_) | (with_reducible refine Fr.drewN ?_ _) | (with_reducible refine Fr.alloc ?_ _) | (with_reducible refine Fr.setL ?_ _ _ _ ?_) | (focus (refine Or.inl ?_; simp; done)) | (focus (refine Or.inr ?_; simp; done)) | (focus (refine Or.inr ?_; simp; omega)) | (focus (refine Or.inr ?_; omega)))); done)) (fun A n c e => by have := hy A n c e; simp; omega)
  · refine IsOM.fr hO' (L := [w.heap.size, w.heap.size + 1]) ?_ ?_
    · exact (by ((repeat (first | (with_reducible exact Fr.refl _ _) | (with_reducible assumption) | (with_reducible refine Fr.drew ?_) | (with_reducible refine Fr.drewN ?_ _) | (with_reducible refine Fr.alloc ?_ _) | (with_reducible refine Fr.setL ?_ _ _ _ ?_) | (focus (refine Or.inl ?_; simp; done)) | (focus (refine Or.inr ?_; simp; done)) | (focus (refine Or.inr ?_; simp; omega)) | (focus (refine Or.inr ?_; omega)))); done))
    · simp; omega
  · exact hF1.trans (M := [w.heap.size, w.heap.size + 1]) (by ((repeat (first | (with_reducible exact Fr.refl _ _) | (with_reducible assumption) | (with_reducible refine Fr.drew ?_) | (with_reducible refine Fr.drewN ?_ _) | (with_reducible refine Fr.alloc ?_ _) | (with_reducible refine Fr.setL ?_ _ _ _ ?_) | (focus (refine Or.inl ?_; simp; done)) | (focus (refine Or.inr ?_; simp; done)) | (focus (refine Or.inr ?_; simp; omega)) | (focus (refine Or.inr ?_; omega)))); done)) (fun x hx => by simp at hx; omega)
end Go.Proofs.Ytaefahbgeokopaa
