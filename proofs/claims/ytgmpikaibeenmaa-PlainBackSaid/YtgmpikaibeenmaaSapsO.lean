
/- Package saps: opening, closing, joining, leaving. -/
import Derived.Test.YtgmpikaibeenmaaSapsW
namespace Go.Proofs.Ytgmpikaibeenmaa
open Go.RowKit Go.Shelf Go.ChangeMaps
set_option linter.unusedVariables false
set_option linter.unusedSimpArgs false
set_option maxRecDepth 100000
attribute [local go_sem] fld0 fld1

theorem mapnil (b : Nat) (w : World) : (binOp BinOp.eql 60 (Value.map (some b)) (Value.map none)).run Try.prog w = .ok (.bool false) w := by kernel_rfl
attribute [local go_sem] mapnil

def argB (n c : Int) : Bool := sapB n && decide (1 ≤ c) && decide (c ≤ 4)

theorem Open_arg (w : World) (p b k : Nat) (l : List SE) (n c : Int) (h : argB n c = false) :
    Calls Try.prog 10 #[.pointer (some ⟨p, 0, none⟩), .int .i64 n, .int .i64 c] w fun e w' => e = .returned (.int .i64 1) ∧ w = w' := by
  cases hs : sapB n with
  | false =>
    have HS := Lib.hid hs
    clear hs h
    go_enter Try.func10, Try.ntmps10
    go_wp2_with fail
    refine (saps_sap n _).mono ?_
    rintro e w' ⟨rfl, rfl⟩
    rw [HS.out]
    go_wp2
    go_ret
    exact ⟨rfl, rfl⟩
  | true =>
    have HS := Lib.hid hs
    unfold argB at h
    rw [hs] at h
    clear hs
    by_cases h1 : c < 1
    · have d1 : decide (c < 1) = true := by simpa using h1
      clear h
      go_enter Try.func10, Try.ntmps10
      go_wp2_with fail
      refine (saps_sap n _).mono ?_
      rintro e w' ⟨rfl, rfl⟩
      rw [HS.out]
      go_wp2
      go_ret
      exact ⟨rfl, rfl⟩
    · have d1 : decide (c < 1) = false := by simpa using h1
      have d2 : decide (4 < c) = true := by simp at h ⊢; omega
      clear h
      go_enter Try.func10, Try.ntmps10
      go_wp2_with fail
      refine (saps_sap n _).mono ?_
      rintro e w' ⟨rfl, rfl⟩
      rw [HS.out]
      go_wp2
      go_ret
      exact ⟨rfl, rfl⟩

theorem Open_there (w : World) (p b k : Nat) (l : List SE) (n c : Int) (hS : IsS w p b l k) (h : argB n c = true) (hc : 0 < clsOf l n) :
    Calls Try.prog 10 #[.pointer (some ⟨p, 0, none⟩), .int .i64 n, .int .i64 c] w fun e w' => e = .returned (.int .i64 8) ∧ w = w' := by
  simp only [argB, Bool.and_eq_true, decide_eq_true_eq] at h
  have HS := Lib.hid h.1.1
  have d1 : decide (c < 1) = false := by simp; omega
  have d2 : decide (4 < c) = false := by simp; omega
  have d3 : decide (0 < clsOf l n) = true := by simpa using hc
  clear h
  go_enter Try.func10, Try.ntmps10
  go_wp2_with fail
  refine (saps_sap n _).mono ?_
  rintro e w' ⟨rfl, rfl⟩
  rw [HS.out]
  go_wp2_with fail
  refine (saps_Class _ p b k l n hS).mono ?_
  rintro e w' ⟨rfl, rfl⟩
  go_wp2
  go_ret
  exact ⟨rfl, rfl⟩

theorem clsOf_zero {w : World} {p b k : Nat} {l : List SE} {n : Int} (hS : IsS w p b l k) (h : clsOf l n = 0) : look l n = none := by
  unfold clsOf at h
  cases hl : look l n with
  | none => rfl
  | some x =>
    rw [hl] at h
    have := (hS.pos x (look_mem hl).1).1
    dsimp only at h
    omega

theorem Open_full (w : World) (p b k : Nat) (l : List SE) (n c : Int) (hS : IsS w p b l k) (h : argB n c = true) (hc : clsOf l n = 0) (hf : 16 ≤ l.length) :
    Calls Try.prog 10 #[.pointer (some ⟨p, 0, none⟩), .int .i64 n, .int .i64 c] w fun e w' => e = .returned (.int .i64 6) ∧ w = w' := by
  simp only [argB, Bool.and_eq_true, decide_eq_true_eq] at h
  have HS := Lib.hid h.1.1
  have HC := Lib.hid hc
  have d1 : decide (c < 1) = false := by simp; omega
  have d2 : decide (4 < c) = false := by simp; omega
  have c0 : w.cell? ⟨p, 0, none⟩ = some (.map (some b)) := hS.blk.cell 0 rfl
  have hlen := im_len (P := Try.prog) hS.map Try.underlying60 3
  have d3 : decide (16 ≤ ((l.map SE.ie).length : Int)) = true := by simp; omega
  clear h hc
  go_enter Try.func10, Try.ntmps10
  go_wp2_with fail
  refine (saps_sap n _).mono ?_
  rintro e w' ⟨rfl, rfl⟩
  rw [HS.out]
  go_wp2_with fail
  refine (saps_Class _ p b k l n hS).mono ?_
  rintro e w' ⟨rfl, rfl⟩
  rw [HC.out]
  go_wp2
  go_ret
  exact ⟨rfl, rfl⟩

theorem IsG.new (w : World) : IsG (w.alloc (.map #[] 0)) w.heap.size [] := ⟨[], 0, (MapKept.heap_alloc w _).1, rfl, by simp, by simp⟩

theorem look_none_mem {l : List SE} {n : Int} (h : look l n = none) : n ∉ l.map (·.k) := by
  intro hm
  obtain ⟨x, hx, e⟩ := List.mem_map.1 hm
  have := (List.find?_eq_none.1 h) x hx
  simp [e] at this

/-- What a SAP that was opened adds. -/
theorem IsS.push {w : World} {p b k : Nat} {l : List SE} (hS : IsS w p b l k) {n c : Int} (hl : look l n = none) (hc : 1 ≤ c ∧ c ≤ 4) (hf : l.length < 16) :
    IsS (setBlock (w.alloc (.map #[] 0)) b (.map (ents ((l.map SE.ie) ++ [⟨n, plV c w.heap.size, k⟩])) (k + 1))) p b (l ++ [⟨n, c, w.heap.size, [], k⟩]) (k + 1) := by
  have f0 : Fr [] w (w.alloc (.map #[] 0)) := (Fr.refl _ _).alloc _
  have h1 := hS.fr0 f0
  have hlt := hS.lt
  have hb : b < w.heap.size := hlt b (by simp [foot])
  have hp : p ≠ b := fun e => by have h1 := hS.blk; have h2 := hS.map; rw [Blk, e, h2] at h1; cases h1
  have gne : ∀ x ∈ l, x.gb ≠ b := fun x hx e => hS.off (e ▸ List.mem_map_of_mem hx)
  refine ⟨?_, ?_, ?_, ?_, ?_, ?_, ?_, ?_, ?_, ?_⟩
  · rw [Blk, setBlock_far hp]; exact h1.blk
  · rw [setBlock_same h1.map]; simp [SE.ie]
  · rw [List.map_append, List.nodup_append]
    exact ⟨hS.nod, by simp, fun a ha b' hb' => by simp at hb'; subst hb'; exact fun e => look_none_mem hl (e ▸ ha)⟩
  · rw [List.map_append, List.nodup_append]
    refine ⟨hS.born, by simp, fun a ha b' hb' => ?_⟩
    simp at hb'; subst hb'
    obtain ⟨x, hx, rfl⟩ := List.mem_map.1 ha
    have := hS.old x hx
    omega
  · intro x hx
    rcases List.mem_append.1 hx with hx | hx
    · have := hS.old x hx; omega
    · simp at hx; subst hx; dsimp only; omega
  · intro x hx
    have key : ∀ g gs, g ≠ b → IsG (w.alloc (.map #[] 0)) g gs → IsG (setBlock (w.alloc (.map #[] 0)) b (.map (ents ((l.map SE.ie) ++ [⟨n, plV c w.heap.size, k⟩])) (k + 1))) g gs := fun g gs hg ⟨l', c', h2, h3⟩ => ⟨l', c', by rw [setBlock_far hg]; exact h2, h3⟩
    rcases List.mem_append.1 hx with hx | hx
    · exact key _ _ (gne x hx) (h1.grp x hx)
    · simp at hx; subst hx
      exact key _ _ (show w.heap.size ≠ b by omega) (IsG.new w)
  · rw [List.map_append, List.nodup_append]
    refine ⟨hS.gbs, by simp, fun a ha b' hb' => ?_⟩
    simp at hb'; subst hb'
    obtain ⟨x, hx, rfl⟩ := List.mem_map.1 ha
    have := (hS.grp x hx).lt
    omega
  · rw [List.map_append, List.mem_append]
    rintro (hm | hm)
    · exact hS.off hm
    · simp at hm; omega
  · intro x hx
    rcases List.mem_append.1 hx with hx | hx
    · exact hS.pos x hx
    · simp at hx; subst hx; exact hc
  · simp; omega

theorem Open_ok (w : World) (p b k : Nat) (l : List SE) (n c : Int) (hS : IsS w p b l k) (h : argB n c = true) (hc : clsOf l n = 0) (hf : l.length < 16) :
    Calls Try.prog 10 #[.pointer (some ⟨p, 0, none⟩), .int .i64 n, .int .i64 c] w fun e w' => e = .returned (.int .i64 0) ∧ IsS w' p b (l ++ [⟨n, c, w.heap.size, [], k⟩]) (k + 1) ∧ Fr (foot p b l) w w' := by
  simp only [argB, Bool.and_eq_true, decide_eq_true_eq] at h
  have HS := Lib.hid h.1.1
  have HC := Lib.hid hc
  have hln := clsOf_zero hS hc
  have hc4 : 1 ≤ c ∧ c ≤ 4 := ⟨h.1.2, h.2⟩
  have d1 : decide (c < 1) = false := by simp; omega
  have d2 : decide (4 < c) = false := by simp; omega
  have c0 : w.cell? ⟨p, 0, none⟩ = some (.map (some b)) := hS.blk.cell 0 rfl
  have hlen := im_len (P := Try.prog) hS.map Try.underlying60 3
  have d3 : decide (16 ≤ (l.length : Int)) = false := by simp; omega
  have d3' : decide (16 ≤ ((l.map SE.ie).length : Int)) = false := by simp; omega
  have hmm := @run_makeMap Try.prog
  have hup := im_push (P := Try.prog) (hS.fr0 ((Fr.refl _ _).alloc (.map #[] 0))).map Try.underlying60 Try.underlying3 n (plV c w.heap.size) (by rw [get_ie, hln]; rfl)
  have hfin := hS.push (n := n) (c := c) hln hc4 hf
  have HF := Lib.hid hfin
  clear h hc hln hfin
  go_enter Try.func10, Try.ntmps10
  go_wp2_with fail
  refine (saps_sap n _).mono ?_
  rintro e w' ⟨rfl, rfl⟩
  rw [HS.out]
  go_wp2_with fail
  refine (saps_Class _ p b k l n hS).mono ?_
  rintro e w' ⟨rfl, rfl⟩
  rw [HC.out]
  go_wp2
  go_ret
  exact ⟨rfl, HF.out, ((Fr.refl _ _).alloc _).setBlock _ (.inl (by simp [foot]))⟩

theorem Close_none (w : World) (p b k : Nat) (l : List SE) (n : Int) (hS : IsS w p b l k) (hc : clsOf l n = 0) :
    Calls Try.prog 50 #[.pointer (some ⟨p, 0, none⟩), .int .i64 n] w fun e w' => e = .returned (.int .i64 7) ∧ w = w' := by
  have HC := Lib.hid hc
  clear hc
  go_enter Try.func50, Try.ntmps50
  go_wp2_with fail
  refine (saps_Class _ p b k l n hS).mono ?_
  rintro e w' ⟨rfl, rfl⟩
  rw [HC.out]
  go_wp2
  go_ret
  exact ⟨rfl, rfl⟩

abbrev off_ (l : List SE) (n : Int) : List SE := l.filter (·.k != n)
theorem IsS.drop {w : World} {p b k : Nat} {l : List SE} (hS : IsS w p b l k) (n : Int) : IsS (setBlock w b (.map (ents ((l.map SE.ie).filter (·.k != n))) k)) p b (off_ l n) k := by
  have hp : p ≠ b := fun e => by have h1 := hS.blk; have h2 := hS.map; rw [Blk, e, h2] at h1; cases h1
  have gne : ∀ x ∈ l, x.gb ≠ b := fun x hx e => hS.off (e ▸ List.mem_map_of_mem hx)
  have sub : (off_ l n).Sublist l := List.filter_sublist
  have hm : (l.map SE.ie).filter (·.k != n) = (off_ l n).map SE.ie := by rw [List.filter_map]; rfl
  refine ⟨?_, ?_, hS.nod.sublist (sub.map _), hS.born.sublist (sub.map _), fun x hx => hS.old x (sub.subset hx), fun x hx => ?_, hS.gbs.sublist (sub.map _), fun h => hS.off ((sub.map _).subset h), fun x hx => hS.pos x (sub.subset hx), Nat.le_trans sub.length_le hS.small⟩
  · rw [Blk, setBlock_far hp]; exact hS.blk
  · rw [setBlock_same hS.map, hm]
  · obtain ⟨l', c', h2, h3⟩ := hS.grp x (sub.subset hx)
    exact ⟨l', c', by rw [setBlock_far (gne x (sub.subset hx))]; exact h2, h3⟩

theorem nod_ie {l : List SE} (h : (l.map (·.k)).Nodup) : ((l.map SE.ie).map (·.k)).Nodup := by rw [List.map_map]; exact h

theorem Close_ok (w : World) (p b k : Nat) (l : List SE) (n : Int) (hS : IsS w p b l k) (hc : 0 < clsOf l n) :
    Calls Try.prog 50 #[.pointer (some ⟨p, 0, none⟩), .int .i64 n] w fun e w' => e = .returned (.int .i64 0) ∧ IsS w' p b (off_ l n) k ∧ Fr (foot p b l) w w' := by
  have d1 : (clsOf l n == 0) = false := by simp; omega
  have c0 : w.cell? ⟨p, 0, none⟩ = some (.map (some b)) := hS.blk.cell 0 rfl
  have hde := fun ty => im_delete (P := Try.prog) hS.map Try.underlying60 Try.underlying3 (nod_ie hS.nod) n ty
  have HF := Lib.hid (hS.drop n)
  clear hc
  go_enter Try.func50, Try.ntmps50
  go_wp2_with fail
  refine (saps_Class _ p b k l n hS).mono ?_
  rintro e w' ⟨rfl, rfl⟩
  go_wp2
  go_ret
  exact ⟨rfl, HF.out, (Fr.refl _ _).setBlock _ (.inl (by simp [foot]))⟩
end Go.Proofs.Ytgmpikaibeenmaa
