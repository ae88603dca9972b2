
/- A table by deeds and the reference's; types of a class; a station's address. -/
import Derived.Test.YtgmpikaibeenmaaPlainM
import Derived.Test.YtgmpikaibeenmaaSapsZ
namespace Go.Proofs.Ytgmpikaibeenmaa
open Go.RowKit Go.Shelf Go.ChangeMaps
set_option linter.unusedVariables false
set_option linter.unusedSimpArgs false
set_option maxRecDepth 100000

theorem Both.footF {w0 w : World} {p q : Nat} {s : Sl} {R : List RE} {m : List AE} {k : Nat} (h : Both w0 w p q s R m k) : ∃ F, AtF w0 w p m F ∧ ∀ x ∈ F, w0.heap.size ≤ x := by
  obtain ⟨b, c, l, hh⟩ := h.at_
  exact ⟨_, ⟨b, c, l, hh, rfl⟩, hh.new⟩
set_option maxHeartbeats 4000000 in
theorem plain_deeds (w : World) (A : Option Addr) (n cap : Nat) (g : Nat → Nat → Int) (hn : n ≤ 1000) (ha : ArgRec [.i64, .i64, .i64] w A n g) :
    Calls Try.prog 20 #[.slice A n cap] w fun e w' => ∃ p q m, e = .returned (.tuple #[.pointer (some ⟨p, 0, none⟩), .pointer (some ⟨q, 0, none⟩)]) ∧ BothM w p q m n w' := by
  go_enter Try.func20, Try.ntmps20
  go_wp2_with fail
  refine (saps_New _).mono ?_
  rintro e w2 ⟨p, b, rfl, hS, hp, hb, f2⟩
  have h0 : AtM w w2 p [] := AtM.start hS hp hb (Fr.refl _ _) f2
  have hpl : p < w2.heap.size := hS.blk.lt
  have hsz2 := f2.size
  have h00 : BothM w p w2.heap.size [] 0 (w2.alloc (.cells #[.slice none 0 0] 84)) := by
    refine ⟨Sl.nil, [], h0.on ((Fr.refl _ _).alloc _), (fun _ h => by cases h), ⟨Blk.new _ _ _, World.ownsRow_nil _ _ _ _, (fun _ h => by cases h), (fun _ h => by cases h), by simp [Sl.blk, Sl.nil], (fun _ h => by cases h)⟩, fun b hb => ?_, ⟨List.Perm.refl _, List.Pairwise.nil⟩, (fun _ h => by cases h)⟩
    simp [rfoot, Sl.blk, Sl.nil] at hb
    subst hb
    exact ⟨by omega, by omega⟩
  generalize hq : w2.heap.size = q at h00
  clear hS hp hb f2 h0 hpl hsz2
  go_wp2
  clear hq
  go_loopw [6] (fun i wr => ∃ (k : Nat) (m : List AE), i = .int .i64 k ∧ k ≤ n ∧ BothM w p q m k wr) (fun i _ => n - (intOf i).toNat)
  case atStart => exact ⟨0, [], rfl, by omega, h00⟩
  case round =>
    obtain ⟨k, m, rfl, hk, s, R, hB⟩ := hrel
    clear h00
    by_cases hlt : k < n
    · have d2 : decide ((k : Int) < (n : Int)) = true := by simp; omega
      obtain ⟨b', off, rfl, hc⟩ := ha.at_ k hlt
      obtain ⟨F, hF, hFn⟩ := hB.footF
      have hfr := hB.at_.fr
      have c0 := hfr.cell (hc 0 (by decide)).1 (by simp)
      have c1 := hfr.cell (hc 1 (by decide)).1 (by simp)
      have c2 := hfr.cell (hc 2 (by decide)).1 (by simp)
      simp only [List.length_cons, List.length_nil, Nat.zero_add, Nat.reduceAdd, Nat.add_zero, List.getElem_cons_zero, List.getElem_cons_succ] at c0 c1 c2
      have hdo := Do_full w wr p q s R m F k (g k 0) (g k 1) (g k 2) hB hF (by omega)
      clear hc hfr hB hF
      generalize g k 0 = D at *
      generalize g k 1 = N at *
      generalize g k 2 = C at *
      obtain ⟨m', hm'⟩ : ∃ m', (stepA m D N C).2 = m' := ⟨_, rfl⟩
      rw [hm'] at hdo
      clear hm'
      go_wp2_with fail
      refine hdo.mono ?_
      rintro e w4 ⟨rfl, hB4, _⟩
      clear hdo c0 c1 c2
      go_wp2
      go_roundw
      case rel => exact ⟨k + 1, m', by go_num, by omega, hB4⟩
      case measure => simp [intOf]; omega
    · have d2 : decide ((k : Int) < (n : Int)) = false := by simp; omega
      have hk2 : k = n := by omega
      have hBM : BothM w p q m n wr := by rw [← hk2]; exact ⟨s, R, hB⟩
      have HBM := Lib.hid hBM
      clear hBM hB hk2
      go_wp2
      go_ret2
      exact ⟨p, q, m, rfl, HBM.out⟩

set_option maxHeartbeats 1000000 in
theorem r_Types (c : Int) (h1 : 1 ≤ c) (h4 : c ≤ 4) (w : World) : Calls Try.prog 24 #[.int .i64 c] w fun e w' => e = .returned (.int .i64 (canM c)) ∧ Fr [] w w' := by
  have f : Fr [] w (w.alloc (.cells #[.int .i64 0, .int .i64 1, .int .i64 3, .int .i64 5, .int .i64 7] 3)) := (Fr.refl _ _).alloc _
  obtain rfl | rfl | rfl | rfl : c = 1 ∨ c = 2 ∨ c = 3 ∨ c = 4 := by omega
  all_goals
    go_enter Try.func24, Try.ntmps24
    go_wp2
    go_ret
    exact ⟨rfl, f⟩

set_option maxHeartbeats 1000000 in
theorem r_Station (n : Int) (h0 : 0 ≤ n) (h1 : n ≤ 255) (w : World) : Calls Try.prog 22 #[.int .i64 n] w fun e w' => e = .returned (Ad.val ⟨2, 0, 0, 0, 0, n⟩) ∧ Fr [] w w' := by
  have d1 : decide (n < 0) = false := by simp; omega
  have d2 : decide (255 < n) = false := by simp; omega
  have hw : IntKind.u8.wrap n = n := by simp [IntKind.wrap, IntKind.signed, IntKind.bits]; omega
  go_enter Try.func22, Try.ntmps22
  go_wp2
  exact bodyPost_ret (v := Ad.val ⟨2, 0, 0, 0, 0, n⟩) (by simp [results, Try.results22, go_sem]) rfl ⟨rfl, by ((repeat (first | (with_reducible exact Fr.refl _ _) | (with_reducible assumption) | (with_reducible refine Fr.drew ?_) | (with_reducible refine Fr.drewN ?_ _) | (with_reducible refine Fr.alloc ?_ _) | (with_reducible refine Fr.setL ?_ _ _ _ ?_) | (focus (refine Or.inl ?_; simp; done)) | (focus (refine Or.inr ?_; simp; done)) | (focus (refine Or.inr ?_; simp; omega)) | (focus (refine Or.inr ?_; omega)))); done)⟩

end Go.Proofs.Ytgmpikaibeenmaa
