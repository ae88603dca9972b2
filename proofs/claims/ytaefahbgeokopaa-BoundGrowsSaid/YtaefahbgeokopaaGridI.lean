/- Package grid: the rows that are laid, part by part. -/
import Derived.Test.YtaefahbgeokopaaGridG
namespace Go.Proofs.Ytaefahbgeokopaa
open Go.RowKit Go.Shelf
set_option linter.unusedVariables false
set_option linter.unusedSimpArgs false

def infosA (T : Tb) : Tb :=
  let T := layI 10 31 (13) [29, 14, 32] T
  let T := layI 8 13 (-1) ([[19, 18], [23], [31]].flatten) T
  let T := layI 8 (13 + 1) (-1) ([[19, 18], [24], [31]].flatten) T
  let T := layI 8 16 (10) ([[19], [27], [15, 31]].flatten) T
  let T := layI 8 (16 + 1) (10) ([[19], [28], [15, 31]].flatten) T
  let T := layI 10 13 (8) ([[19, 18, 16], [23], [31]].flatten) T
  let T := layI 10 (13 + 1) (8) ([[19, 18, 16], [24], [31]].flatten) T
  let T := layI 10 16 (-1) [19, 31] T
  let T := layI 10 17 (-1) [19, 24, 31] T
  T
def infosL1 (T : Tb) : Tb :=
  let T := layI 9 13 (-1) ([[19], [25], [31]].flatten) T
  let T := layI 9 (13 + 1) (-1) ([[19], [26], [31]].flatten) T
  let T := layI 12 13 (-1) ([[19], [25], []].flatten) T
  let T := layI 12 (13 + 1) (-1) ([[19], [26], []].flatten) T
  T
def infosL2 (T : Tb) : Tb :=
  let T := layI 9 16 (-1) ([[19], [25], [31]].flatten) T
  let T := layI 9 (16 + 1) (-1) ([[19], [26], [31]].flatten) T
  let T := layI 12 16 (-1) ([[19], [25], []].flatten) T
  let T := layI 12 (16 + 1) (-1) ([[19], [26], []].flatten) T
  T
def infosL (j : Nat) (T : Tb) : Tb := match j with | 0 => T | 1 => infosL1 T | _ => infosL2 (infosL1 T)
def infosB (T : Tb) : Tb :=
  let T := layI 11 13 (-1) ([[19, 18], [23], []].flatten) T
  let T := layI 11 (13 + 1) (-1) ([[19, 18], [24], []].flatten) T
  let T := layI 11 16 (13) ([[19], [27], [15]].flatten) T
  let T := layI 11 (16 + 1) (13) ([[19], [28], [15]].flatten) T
  let T := layI 13 13 (11) ([[19, 18, 16], [23], []].flatten) T
  let T := layI 13 (13 + 1) (11) ([[19, 18, 16], [24], []].flatten) T
  let T := layI 13 16 (-1) [19] T
  let T := layI 13 17 (-1) [19, 24] T
  let T := layI 11 15 (8) [20, 19, 18, 22, 33, 23, 31] T
  let T := layI 11 18 (10) [20, 19, 22, 33, 27, 15, 31] T
  let T := layI 13 15 (8) [20, 19, 18, 16, 22, 33, 23, 31] T
  let T := layI 13 18 (10) [20, 19, 22, 33, 31] T
  let T := eachM [12] [15, 18] (9) [20, 19, 22, 33, 25, 31] T
  T
def infosM (T : Tb) : Tb := infosB (infosL 2 (infosA T))
theorem keepsT0 (L : List Nat) (cs : Array Value) (t n : Nat) : Keeps [] (IsSl L cs t n) := fun _ _ _ hf ⟨b, e, h, hn⟩ => ⟨b, e, h.fr hf (by simp), hn⟩
set_option maxHeartbeats 8000000 in
set_option maxRecDepth 100000 in
theorem grid_infos (w0 w1 : World) (g cap : Nat) (bs : Nat → Nat) (T : Tb) (h1 : Tab w0 w1 g bs T) :
    Calls Try.prog 42 #[.slice (some ⟨g, 0, none⟩) 14 cap] w1 fun r w' => r = .returned (.tuple #[]) ∧ Tab w0 w' g bs (infosM T) := by
  go_enter Try.func42, Try.ntmps42
  go_wp2_with fail
  refine (grid_some _ _).mono ?_
  rintro e w' ⟨rfl, rfl⟩
  have h2 : Blk ((w1.alloc (.cells #[.slice (some ⟨g, 0, none⟩) 14 cap] 91)).alloc (.cells #[.int .i64 31] 3)) w1.heap.size #[.slice (some ⟨g, 0, none⟩) 14 cap] 91 := ((Blk.new w1 _ _).alloc _)
  have h5 : Blk ((w1.alloc (.cells #[.slice (some ⟨g, 0, none⟩) 14 cap] 91)).alloc (.cells #[.int .i64 31] 3)) (w1.heap.size + 1) (arr [31]) 3 := Blk.newAt _ _ _ _ (by simp)
  have h2n : w1.heap.size ∉ tbL bs := fun hm => by have h9 : w1.heap.size < _ := h1.is.lt _ hm; omega
  have h5n : w1.heap.size + 1 ∉ tbL bs := fun hm => by have h9 : w1.heap.size + 1 < _ := h1.is.lt _ hm; omega
  have c2 : World.cell? ((w1.alloc (.cells #[.slice (some ⟨g, 0, none⟩) 14 cap] 91)).alloc (.cells #[.int .i64 31] 3)) ⟨w1.heap.size, 0, none⟩ = some (.slice (some ⟨g, 0, none⟩) 14 cap) := h2.cell 0 rfl
  have hT2 : Tab w0 ((w1.alloc (.cells #[.slice (some ⟨g, 0, none⟩) 14 cap] 91)).alloc (.cells #[.int .i64 31] 3)) g bs T := ⟨h1.is.fr ((((Fr.refl _ _).alloc _).alloc _)), ((h1.fr.alloc _).alloc _)⟩
  clear h1
  generalize hb2 : w1.heap.size + 1 = b5 at *
  generalize hb1 : w1.heap.size = b2 at *
  generalize ((w1.alloc (.cells #[.slice (some ⟨g, 0, none⟩) 14 cap] 91)).alloc (.cells #[.int .i64 31] 3)) = w2 at *
  clear hb1 hb2
  go_wp2_with fail
  refine (lay_new (w := w2) [29, 14, 32] hT2 ((Fr.refl _ _).alloc _) (by decide) (by decide) (by decide) (by decide) (Blk.newAt _ _ _ _ (by simp)) (by simp) (by decide) rfl).mono ?_
  rintro r w3 ⟨rfl, hT3, f3⟩
  clear c2
  have h2 := (h2.fr ((Fr.refl [] _).alloc _) (by simp)).fr f3 h2n
  have h5 := (h5.fr ((Fr.refl [] _).alloc _) (by simp)).fr f3 h5n
  have c2 : w3.cell? ⟨b2, 0, none⟩ = some (.slice (some ⟨g, 0, none⟩) 14 cap) := h2.cell 0 rfl
  clear hT2
  clear f3
  go_wp2_with (go_at_call 46; refine (grid_some _ _).mono ?_; rintro e w' ⟨rfl, rfl⟩)
  refine (grid_infos1 w0 _ g cap bs _ b2 23 24 8 13 (-1) ⟨some ⟨w3.heap.size, 0, none⟩, 2, 2⟩ ⟨some ⟨b5, 0, none⟩, 1, 1⟩ [19, 18] [31] ⟨hT3.is.fr ((Fr.refl _ _).alloc _), hT3.fr.tr0 ((Fr.refl _ _).alloc _)⟩ (h2.fr ((Fr.refl [] _).alloc _) (by simp)) h2n (by decide) (by decide) (by decide) (by decide) (Ints.newAt (l := [19, 18]) (Blk.newAt _ _ (arr [19, 18]) 3 (by simp)) (by decide) rfl (Fr.refl _ _)) (Ints.newAt (l := [31]) (h5.fr ((Fr.refl [] _).alloc _) (by simp)) (by decide) rfl (Fr.refl _ _)) (fun A n c e hm => by cases e; have h9 : w3.heap.size < _ := hT3.is.lt _ hm; omega) (fun A n c e => by cases e; exact h5n) (by decide) (by decide) (by decide) (by decide)).mono ?_
  rintro r w4 ⟨rfl, hT4, f4⟩
  clear c2
  have h2 := (h2.fr ((Fr.refl [] _).alloc _) (by simp)).fr f4 h2n
  have h5 := (h5.fr ((Fr.refl [] _).alloc _) (by simp)).fr f4 h5n
  have c2 : w4.cell? ⟨b2, 0, none⟩ = some (.slice (some ⟨g, 0, none⟩) 14 cap) := h2.cell 0 rfl
  clear hT3
  clear f4
  go_wp2_with (go_at_call 46; refine (grid_some _ _).mono ?_; rintro e w' ⟨rfl, rfl⟩)
  refine (grid_infos1 w0 _ g cap bs _ b2 27 28 8 16 (10) ⟨some ⟨w4.heap.size, 0, none⟩, 1, 1⟩ ⟨some ⟨w4.heap.size + 1, 0, none⟩, 2, 2⟩ [19] [15, 31] ⟨hT4.is.fr (((Fr.refl _ _).alloc _).alloc _), hT4.fr.tr0 (((Fr.refl _ _).alloc _).alloc _)⟩ (h2.fr (((Fr.refl [] _).alloc _).alloc _) (by simp)) h2n (by decide) (by decide) (by decide) (by decide) (Ints.newAt (l := [19]) ((Blk.newAt _ _ (arr [19]) 3 (by simp)).alloc _) (by decide) rfl (Fr.refl _ _)) (Ints.newAt (l := [15, 31]) (Blk.newAt _ _ (arr [15, 31]) 3 (by simp)) (by decide) rfl (Fr.refl _ _)) (fun A n c e hm => by cases e; have h9 : w4.heap.size < _ := hT4.is.lt _ hm; omega) (fun A n c e hm => by cases e; have h9 : w4.heap.size + 1 < _ := hT4.is.lt _ hm; omega) (by decide) (by decide) (by decide) (by decide)).mono ?_
  rintro r w5 ⟨rfl, hT5, f5⟩
  clear c2
  have h2 := (h2.fr (((Fr.refl [] _).alloc _).alloc _) (by simp)).fr f5 h2n
  have h5 := (h5.fr (((Fr.refl [] _).alloc _).alloc _) (by simp)).fr f5 h5n
  have c2 : w5.cell? ⟨b2, 0, none⟩ = some (.slice (some ⟨g, 0, none⟩) 14 cap) := h2.cell 0 rfl
  clear hT4
  clear f5
  go_wp2_with (go_at_call 46; refine (grid_some _ _).mono ?_; rintro e w' ⟨rfl, rfl⟩)
  refine (grid_infos1 w0 _ g cap bs _ b2 23 24 10 13 (8) ⟨some ⟨w5.heap.size, 0, none⟩, 3, 3⟩ ⟨some ⟨b5, 0, none⟩, 1, 1⟩ [19, 18, 16] [31] ⟨hT5.is.fr ((Fr.refl _ _).alloc _), hT5.fr.tr0 ((Fr.refl _ _).alloc _)⟩ (h2.fr ((Fr.refl [] _).alloc _) (by simp)) h2n (by decide) (by decide) (by decide) (by decide) (Ints.newAt (l := [19, 18, 16]) (Blk.newAt _ _ (arr [19, 18, 16]) 3 (by simp)) (by decide) rfl (Fr.refl _ _)) (Ints.newAt (l := [31]) (h5.fr ((Fr.refl [] _).alloc _) (by simp)) (by decide) rfl (Fr.refl _ _)) (fun A n c e hm => by cases e; have h9 : w5.heap.size < _ := hT5.is.lt _ hm; omega) (fun A n c e => by cases e; exact h5n) (by decide) (by decide) (by decide) (by decide)).mono ?_
  rintro r w6 ⟨rfl, hT6, f6⟩
  clear c2
  have h2 := (h2.fr ((Fr.refl [] _).alloc _) (by simp)).fr f6 h2n
  have h5 := (h5.fr ((Fr.refl [] _).alloc _) (by simp)).fr f6 h5n
  have c2 : w6.cell? ⟨b2, 0, none⟩ = some (.slice (some ⟨g, 0, none⟩) 14 cap) := h2.cell 0 rfl
  clear hT5
  clear f6
  go_wp2_with (go_at_call 46; refine (grid_some _ _).mono ?_; rintro e w' ⟨rfl, rfl⟩)
  refine (lay_new (w := w6) [19, 31] hT6 ((Fr.refl _ _).alloc _) (by decide) (by decide) (by decide) (by decide) (Blk.newAt _ _ _ _ (by simp)) (by simp) (by decide) rfl).mono ?_
  rintro r w7 ⟨rfl, hT7, f7⟩
  clear c2
  have h2 := (h2.fr ((Fr.refl [] _).alloc _) (by simp)).fr f7 h2n
  have h5 := (h5.fr ((Fr.refl [] _).alloc _) (by simp)).fr f7 h5n
  have c2 : w7.cell? ⟨b2, 0, none⟩ = some (.slice (some ⟨g, 0, none⟩) 14 cap) := h2.cell 0 rfl
  clear hT6
  clear f7
  go_wp2_with (go_at_call 46; refine (grid_some _ _).mono ?_; rintro e w' ⟨rfl, rfl⟩)
  refine (lay_new (w := w7) [19, 24, 31] hT7 ((Fr.refl _ _).alloc _) (by decide) (by decide) (by decide) (by decide) (Blk.newAt _ _ _ _ (by simp)) (by simp) (by decide) rfl).mono ?_
  rintro r w8 ⟨rfl, hT8, f8⟩
  clear c2
  have h2 := (h2.fr ((Fr.refl [] _).alloc _) (by simp)).fr f8 h2n
  have h5 := (h5.fr ((Fr.refl [] _).alloc _) (by simp)).fr f8 h5n
  have c2 : w8.cell? ⟨b2, 0, none⟩ = some (.slice (some ⟨g, 0, none⟩) 14 cap) := h2.cell 0 rfl
  clear hT7
  clear f8
  go_wp2_with (go_at_call 46; refine (grid_some _ _).mono ?_; rintro e w' ⟨rfl, rfl⟩)
  have hl : Blk (w8.alloc (.cells #[.int .i64 13, .int .i64 16] 3)) w8.heap.size (arr [13, 16]) 3 := Blk.new _ _ _
  have hln : w8.heap.size ∉ tbL bs := fun hm => by have h9 : w8.heap.size < _ := hT8.is.lt _ hm; omega
  go_loopw [37] (fun i wr => ∃ j : Nat, i = .int .i64 j ∧ j ≤ 2 ∧ Tab w0 wr g bs (infosL j (infosA T)) ∧ Fr (tbL bs) (w8.alloc (.cells #[.int .i64 13, .int .i64 16] 3)) wr) (fun i _ => 2 - (intOf i).toNat)
  case atStart => exact ⟨0, rfl, by omega, ⟨hT8.is.fr ((Fr.refl _ _).alloc _), hT8.fr.tr0 ((Fr.refl _ _).alloc _)⟩, Fr.refl _ _⟩
  case round =>
    obtain ⟨j, rfl, hj, hTj, fj⟩ := hrel
    obtain ⟨w9, rfl⟩ : ∃ wo, wo = wr := ⟨_, rfl⟩
    have h2 := ((h2.alloc _).fr fj h2n)
    have h5 := ((h5.alloc _).fr fj h5n)
    have hl := hl.fr fj hln
    clear c2
    have c2 : w9.cell? ⟨b2, 0, none⟩ = some (.slice (some ⟨g, 0, none⟩) 14 cap) := h2.cell 0 rfl
    by_cases e0 : j = 0
    · subst e0
      have hT9 := hTj
      have cl : w9.cell? ⟨w8.heap.size, 0, none⟩ = some (.int .i64 13) := hl.cell 0 rfl
      go_wp2_with (go_at_call 46; refine (grid_some _ _).mono ?_; rintro e w' ⟨rfl, rfl⟩)
      clear cl
      refine (grid_infos1 w0 _ g cap bs _ b2 25 26 9 13 (-1) ⟨some ⟨w9.heap.size, 0, none⟩, 1, 1⟩ ⟨some ⟨b5, 0, none⟩, 1, 1⟩ [19] [31] ⟨hT9.is.fr ((Fr.refl _ _).alloc _), hT9.fr.tr0 ((Fr.refl _ _).alloc _)⟩ (h2.fr ((Fr.refl [] _).alloc _) (by simp)) h2n (by decide) (by decide) (by decide) (by decide) (Ints.newAt (l := [19]) (Blk.newAt _ _ (arr [19]) 3 (by simp)) (by decide) rfl (Fr.refl _ _)) (Ints.newAt (l := [31]) (h5.fr ((Fr.refl [] _).alloc _) (by simp)) (by decide) rfl (Fr.refl _ _)) (fun A n c e hm => by cases e; have h9 : w9.heap.size < _ := hT9.is.lt _ hm; omega) (fun A n c e => by cases e; exact h5n) (by decide) (by decide) (by decide) (by decide)).mono ?_
      rintro r w10 ⟨rfl, hT10, f10⟩
      clear c2
      have h2 := (h2.fr ((Fr.refl [] _).alloc _) (by simp)).fr f10 h2n
      have h5 := (h5.fr ((Fr.refl [] _).alloc _) (by simp)).fr f10 h5n
      have c2 : w10.cell? ⟨b2, 0, none⟩ = some (.slice (some ⟨g, 0, none⟩) 14 cap) := h2.cell 0 rfl
      have fj := (fj.tr0 ((Fr.refl _ _).alloc _)).tr f10
      clear f10
      go_wp2_with (go_at_call 46; refine (grid_some _ _).mono ?_; rintro e w' ⟨rfl, rfl⟩)
      refine (grid_infos1 w0 _ g cap bs _ b2 25 26 12 13 (-1) ⟨some ⟨w10.heap.size, 0, none⟩, 1, 1⟩ Sl.nil [19] [] ⟨hT10.is.fr ((Fr.refl _ _).alloc _), hT10.fr.tr0 ((Fr.refl _ _).alloc _)⟩ (h2.fr ((Fr.refl [] _).alloc _) (by simp)) h2n (by decide) (by decide) (by decide) (by decide) (Ints.newAt (l := [19]) (Blk.newAt _ _ (arr [19]) 3 (by simp)) (by decide) rfl (Fr.refl _ _)) (Ints.nil _ _) (fun A n c e hm => by cases e; have h9 : w10.heap.size < _ := hT10.is.lt _ hm; omega) (fun A n c e => by cases e) (by decide) (by decide) (by decide) (by decide)).mono ?_
      rintro r w11 ⟨rfl, hT11, f11⟩
      clear c2
      have h2 := (h2.fr ((Fr.refl [] _).alloc _) (by simp)).fr f11 h2n
      have h5 := (h5.fr ((Fr.refl [] _).alloc _) (by simp)).fr f11 h5n
      have c2 : w11.cell? ⟨b2, 0, none⟩ = some (.slice (some ⟨g, 0, none⟩) 14 cap) := h2.cell 0 rfl
      have fj := (fj.tr0 ((Fr.refl _ _).alloc _)).tr f11
      clear f11
      go_wp2
      go_roundw
      case rel => exact ⟨1, by simp, by omega, hT11, fj⟩
      case measure => simp [intOf]
    by_cases e1 : j = 1
    · subst e1
      have hT9 := hTj
      have cl : w9.cell? ⟨w8.heap.size, 1, none⟩ = some (.int .i64 16) := hl.cell 1 rfl
      go_wp2_with (go_at_call 46; refine (grid_some _ _).mono ?_; rintro e w' ⟨rfl, rfl⟩)
      clear cl
      refine (grid_infos1 w0 _ g cap bs _ b2 25 26 9 16 (-1) ⟨some ⟨w9.heap.size, 0, none⟩, 1, 1⟩ ⟨some ⟨b5, 0, none⟩, 1, 1⟩ [19] [31] ⟨hT9.is.fr ((Fr.refl _ _).alloc _), hT9.fr.tr0 ((Fr.refl _ _).alloc _)⟩ (h2.fr ((Fr.refl [] _).alloc _) (by simp)) h2n (by decide) (by decide) (by decide) (by decide) (Ints.newAt (l := [19]) (Blk.newAt _ _ (arr [19]) 3 (by simp)) (by decide) rfl (Fr.refl _ _)) (Ints.newAt (l := [31]) (h5.fr ((Fr.refl [] _).alloc _) (by simp)) (by decide) rfl (Fr.refl _ _)) (fun A n c e hm => by cases e; have h9 : w9.heap.size < _ := hT9.is.lt _ hm; omega) (fun A n c e => by cases e; exact h5n) (by decide) (by decide) (by decide) (by decide)).mono ?_
      rintro r w10 ⟨rfl, hT10, f10⟩
      clear c2
      have h2 := (h2.fr ((Fr.refl [] _).alloc _) (by simp)).fr f10 h2n
      have h5 := (h5.fr ((Fr.refl [] _).alloc _) (by simp)).fr f10 h5n
      have c2 : w10.cell? ⟨b2, 0, none⟩ = some (.slice (some ⟨g, 0, none⟩) 14 cap) := h2.cell 0 rfl
      have fj := (fj.tr0 ((Fr.refl _ _).alloc _)).tr f10
      clear f10
      go_wp2_with (go_at_call 46; refine (grid_some _ _).mono ?_; rintro e w' ⟨rfl, rfl⟩)
      refine (grid_infos1 w0 _ g cap bs _ b2 25 26 12 16 (-1) ⟨some ⟨w10.heap.size, 0, none⟩, 1, 1⟩ Sl.nil [19] [] ⟨hT10.is.fr ((Fr.refl _ _).alloc _), hT10.fr.tr0 ((Fr.refl _ _).alloc _)⟩ (h2.fr ((Fr.refl [] _).alloc _) (by simp)) h2n (by decide) (by decide) (by decide) (by decide) (Ints.newAt (l := [19]) (Blk.newAt _ _ (arr [19]) 3 (by simp)) (by decide) rfl (Fr.refl _ _)) (Ints.nil _ _) (fun A n c e hm => by cases e; have h9 : w10.heap.size < _ := hT10.is.lt _ hm; omega) (fun A n c e => by cases e) (by decide) (by decide) (by decide) (by decide)).mono ?_
      rintro r w11 ⟨rfl, hT11, f11⟩
      clear c2
      have h2 := (h2.fr ((Fr.refl [] _).alloc _) (by simp)).fr f11 h2n
      have h5 := (h5.fr ((Fr.refl [] _).alloc _) (by simp)).fr f11 h5n
      have c2 : w11.cell? ⟨b2, 0, none⟩ = some (.slice (some ⟨g, 0, none⟩) 14 cap) := h2.cell 0 rfl
      have fj := (fj.tr0 ((Fr.refl _ _).alloc _)).tr f11
      clear f11
      go_wp2
      go_roundw
      case rel => exact ⟨2, by simp, by omega, hT11, fj⟩
      case measure => simp [intOf]
    obtain rfl : j = 2 := by omega
    have hT10 : Tab w0 w9 g bs (infosL 2 (infosA T)) := hTj
    obtain ⟨w10, rfl⟩ : ∃ wo, wo = w9 := ⟨_, rfl⟩
    clear hTj fj e0 e1 hj
    go_wp2_with (go_at_call 46; refine (grid_some _ _).mono ?_; rintro e w' ⟨rfl, rfl⟩)
    refine (grid_infos1 w0 _ g cap bs _ b2 23 24 11 13 (-1) ⟨some ⟨w10.heap.size, 0, none⟩, 2, 2⟩ Sl.nil [19, 18] [] ⟨hT10.is.fr ((Fr.refl _ _).alloc _), hT10.fr.tr0 ((Fr.refl _ _).alloc _)⟩ (h2.fr ((Fr.refl [] _).alloc _) (by simp)) h2n (by decide) (by decide) (by decide) (by decide) (Ints.newAt (l := [19, 18]) (Blk.newAt _ _ (arr [19, 18]) 3 (by simp)) (by decide) rfl (Fr.refl _ _)) (Ints.nil _ _) (fun A n c e hm => by cases e; have h9 : w10.heap.size < _ := hT10.is.lt _ hm; omega) (fun A n c e => by cases e) (by decide) (by decide) (by decide) (by decide)).mono ?_
    rintro r w11 ⟨rfl, hT11, f11⟩
    clear c2
    have h2 := (h2.fr ((Fr.refl [] _).alloc _) (by simp)).fr f11 h2n
    have h5 := (h5.fr ((Fr.refl [] _).alloc _) (by simp)).fr f11 h5n
    have c2 : w11.cell? ⟨b2, 0, none⟩ = some (.slice (some ⟨g, 0, none⟩) 14 cap) := h2.cell 0 rfl
    clear hT10
    clear f11
    go_wp2_with (go_at_call 46; refine (grid_some _ _).mono ?_; rintro e w' ⟨rfl, rfl⟩)
    refine (grid_infos1 w0 _ g cap bs _ b2 27 28 11 16 (13) ⟨some ⟨w11.heap.size, 0, none⟩, 1, 1⟩ ⟨some ⟨w11.heap.size + 1, 0, none⟩, 1, 1⟩ [19] [15] ⟨hT11.is.fr (((Fr.refl _ _).alloc _).alloc _), hT11.fr.tr0 (((Fr.refl _ _).alloc _).alloc _)⟩ (h2.fr (((Fr.refl [] _).alloc _).alloc _) (by simp)) h2n (by decide) (by decide) (by decide) (by decide) (Ints.newAt (l := [19]) ((Blk.newAt _ _ (arr [19]) 3 (by simp)).alloc _) (by decide) rfl (Fr.refl _ _)) (Ints.newAt (l := [15]) (Blk.newAt _ _ (arr [15]) 3 (by simp)) (by decide) rfl (Fr.refl _ _)) (fun A n c e hm => by cases e; have h9 : w11.heap.size < _ := hT11.is.lt _ hm; omega) (fun A n c e hm => by cases e; have h9 : w11.heap.size + 1 < _ := hT11.is.lt _ hm; omega) (by decide) (by decide) (by decide) (by decide)).mono ?_
    rintro r w12 ⟨rfl, hT12, f12⟩
    clear c2
    have h2 := (h2.fr (((Fr.refl [] _).alloc _).alloc _) (by simp)).fr f12 h2n
    have h5 := (h5.fr (((Fr.refl [] _).alloc _).alloc _) (by simp)).fr f12 h5n
    have c2 : w12.cell? ⟨b2, 0, none⟩ = some (.slice (some ⟨g, 0, none⟩) 14 cap) := h2.cell 0 rfl
    clear hT11
    clear f12
    go_wp2_with (go_at_call 46; refine (grid_some _ _).mono ?_; rintro e w' ⟨rfl, rfl⟩)
    refine (grid_infos1 w0 _ g cap bs _ b2 23 24 13 13 (11) ⟨some ⟨w12.heap.size, 0, none⟩, 3, 3⟩ Sl.nil [19, 18, 16] [] ⟨hT12.is.fr ((Fr.refl _ _).alloc _), hT12.fr.tr0 ((Fr.refl _ _).alloc _)⟩ (h2.fr ((Fr.refl [] _).alloc _) (by simp)) h2n (by decide) (by decide) (by decide) (by decide) (Ints.newAt (l := [19, 18, 16]) (Blk.newAt _ _ (arr [19, 18, 16]) 3 (by simp)) (by decide) rfl (Fr.refl _ _)) (Ints.nil _ _) (fun A n c e hm => by cases e; have h9 : w12.heap.size < _ := hT12.is.lt _ hm; omega) (fun A n c e => by cases e) (by decide) (by decide) (by decide) (by decide)).mono ?_
    rintro r w13 ⟨rfl, hT13, f13⟩
    clear c2
    have h2 := (h2.fr ((Fr.refl [] _).alloc _) (by simp)).fr f13 h2n
    have h5 := (h5.fr ((Fr.refl [] _).alloc _) (by simp)).fr f13 h5n
    have c2 : w13.cell? ⟨b2, 0, none⟩ = some (.slice (some ⟨g, 0, none⟩) 14 cap) := h2.cell 0 rfl
    clear hT12
    clear f13
    go_wp2_with (go_at_call 46; refine (grid_some _ _).mono ?_; rintro e w' ⟨rfl, rfl⟩)
    refine (lay_new (w := w13) [19] hT13 ((Fr.refl _ _).alloc _) (by decide) (by decide) (by decide) (by decide) (Blk.newAt _ _ _ _ (by simp)) (by simp) (by decide) rfl).mono ?_
    rintro r w14 ⟨rfl, hT14, f14⟩
    clear c2
    have h2 := (h2.fr ((Fr.refl [] _).alloc _) (by simp)).fr f14 h2n
    have h5 := (h5.fr ((Fr.refl [] _).alloc _) (by simp)).fr f14 h5n
    have c2 : w14.cell? ⟨b2, 0, none⟩ = some (.slice (some ⟨g, 0, none⟩) 14 cap) := h2.cell 0 rfl
    clear hT13
    clear f14
    go_wp2_with (go_at_call 46; refine (grid_some _ _).mono ?_; rintro e w' ⟨rfl, rfl⟩)
    refine (lay_new (w := w14) [19, 24] hT14 ((Fr.refl _ _).alloc _) (by decide) (by decide) (by decide) (by decide) (Blk.newAt _ _ _ _ (by simp)) (by simp) (by decide) rfl).mono ?_
    rintro r w15 ⟨rfl, hT15, f15⟩
    clear c2
    have h2 := (h2.fr ((Fr.refl [] _).alloc _) (by simp)).fr f15 h2n
    have h5 := (h5.fr ((Fr.refl [] _).alloc _) (by simp)).fr f15 h5n
    have c2 : w15.cell? ⟨b2, 0, none⟩ = some (.slice (some ⟨g, 0, none⟩) 14 cap) := h2.cell 0 rfl
    clear hT14
    clear f15
    go_wp2_with (go_at_call 46; refine (grid_some _ _).mono ?_; rintro e w' ⟨rfl, rfl⟩)
    refine (lay_new (w := w15) [20, 19, 18, 22, 33, 23, 31] hT15 ((Fr.refl _ _).alloc _) (by decide) (by decide) (by decide) (by decide) (Blk.newAt _ _ _ _ (by simp)) (by simp) (by decide) rfl).mono ?_
    rintro r w16 ⟨rfl, hT16, f16⟩
    clear c2
    have h2 := (h2.fr ((Fr.refl [] _).alloc _) (by simp)).fr f16 h2n
    have h5 := (h5.fr ((Fr.refl [] _).alloc _) (by simp)).fr f16 h5n
    have c2 : w16.cell? ⟨b2, 0, none⟩ = some (.slice (some ⟨g, 0, none⟩) 14 cap) := h2.cell 0 rfl
    clear hT15
    clear f16
    go_wp2_with (go_at_call 46; refine (grid_some _ _).mono ?_; rintro e w' ⟨rfl, rfl⟩)
    refine (lay_new (w := w16) [20, 19, 22, 33, 27, 15, 31] hT16 ((Fr.refl _ _).alloc _) (by decide) (by decide) (by decide) (by decide) (Blk.newAt _ _ _ _ (by simp)) (by simp) (by decide) rfl).mono ?_
    rintro r w17 ⟨rfl, hT17, f17⟩
    clear c2
    have h2 := (h2.fr ((Fr.refl [] _).alloc _) (by simp)).fr f17 h2n
    have h5 := (h5.fr ((Fr.refl [] _).alloc _) (by simp)).fr f17 h5n
    have c2 : w17.cell? ⟨b2, 0, none⟩ = some (.slice (some ⟨g, 0, none⟩) 14 cap) := h2.cell 0 rfl
    clear hT16
    clear f17
    go_wp2_with (go_at_call 46; refine (grid_some _ _).mono ?_; rintro e w' ⟨rfl, rfl⟩)
    refine (lay_new (w := w17) [20, 19, 18, 16, 22, 33, 23, 31] hT17 ((Fr.refl _ _).alloc _) (by decide) (by decide) (by decide) (by decide) (Blk.newAt _ _ _ _ (by simp)) (by simp) (by decide) rfl).mono ?_
    rintro r w18 ⟨rfl, hT18, f18⟩
    clear c2
    have h2 := (h2.fr ((Fr.refl [] _).alloc _) (by simp)).fr f18 h2n
    have h5 := (h5.fr ((Fr.refl [] _).alloc _) (by simp)).fr f18 h5n
    have c2 : w18.cell? ⟨b2, 0, none⟩ = some (.slice (some ⟨g, 0, none⟩) 14 cap) := h2.cell 0 rfl
    clear hT17
    clear f18
    go_wp2_with (go_at_call 46; refine (grid_some _ _).mono ?_; rintro e w' ⟨rfl, rfl⟩)
    refine (lay_new (w := w18) [20, 19, 22, 33, 31] hT18 ((Fr.refl _ _).alloc _) (by decide) (by decide) (by decide) (by decide) (Blk.newAt _ _ _ _ (by simp)) (by simp) (by decide) rfl).mono ?_
    rintro r w19 ⟨rfl, hT19, f19⟩
    clear c2
    have h2 := (h2.fr ((Fr.refl [] _).alloc _) (by simp)).fr f19 h2n
    have h5 := (h5.fr ((Fr.refl [] _).alloc _) (by simp)).fr f19 h5n
    have c2 : w19.cell? ⟨b2, 0, none⟩ = some (.slice (some ⟨g, 0, none⟩) 14 cap) := h2.cell 0 rfl
    clear hT18
    clear f19
    go_wp2
    have hT := hT19
    have k2 : ∀ wx, Fr [] w19 wx → wx.cell? ⟨b2, 0, none⟩ = some (.slice (some ⟨g, 0, none⟩) 14 cap) := fun wx hf => hf.cell (h2.cell 0 rfl) (by simp)
    refine wp_region_keepsL [] [Is (.slice (some ⟨g, 0, none⟩) 14 cap), IsSl (tbL bs) (arr [12]) 3 1, IsSl (tbL bs) (arr [12]) 3 1, IsSl (tbL bs) (arr [15, 18]) 3 2, IsSl (tbL bs) (arr [15, 18]) 3 2, IsSl (tbL bs) (arr [20, 19, 22, 33, 25, 31]) 3 6] 6 rfl rfl (by kernel_rfl) (by kernel_rfl) (by kernel_rfl) (by kernel_rfl) (by kernel_rfl) ?hV ?hS ?hD
    case hV =>
      repeat (first | exact trivial | exact Is.keeps _ | exact Any.keeps | exact IsSl.keeps _ _ _ | exact keepsT0 _ _ _ _ | refine And.intro ?_ ?_)
    case hS =>
      (repeat' (first | exact trivial | refine And.intro ?_ ?_))
      · intro ac wx hf hs hp K hK
        simp only [waits, holdsA, nth, Is, Any, List.filter_cons, List.filter_nil, List.map_cons, List.map_nil, Region.binds, if_true, true_and, and_true, Nat.reduceAdd, List.getElem?_cons_zero, List.getElem?_cons_succ, Option.bind_some, Array.getD_eq_getD_getElem?] at hp
        have hs1 := hs 1 (by kernel_rfl)
        simp only [Array.getD_eq_getD_getElem?, List.getElem?_toArray, List.getElem?_cons_succ, List.getElem?_cons_zero, Option.getD_some] at hs1
        clear hs
        have cx := k2 wx hf
        clear hf
        (try simp only [hp])
        go_simp
        try dsimp only
        refine hK.out _ _ ?_ ?_
        · ((repeat (first | (with_reducible exact Fr.refl _ _) | (with_reducible assumption) | (with_reducible refine Fr.drew ?_) | (with_reducible refine Fr.drewN ?_ _) | (with_reducible refine Fr.alloc ?_ _) | (with_reducible refine Fr.setL ?_ _ _ _ ?_) | (focus (refine Or.inl ?_; simp; done)) | (focus (refine Or.inr ?_; simp; done)) | (focus (refine Or.inr ?_; simp; omega)) | (focus (refine Or.inr ?_; omega)))); done)
        · simp only [nth]
          first | (unfold Is; rfl) | (unfold Any; exact trivial) | exact IsSl.new _ _ _ _ | assumption
      · intro ac wx hf hs hp K hK
        simp only [waits, holdsA, nth, Is, Any, List.filter_cons, List.filter_nil, List.map_cons, List.map_nil, Region.binds, if_true, true_and, and_true, Nat.reduceAdd, List.getElem?_cons_zero, List.getElem?_cons_succ, Option.bind_some, Array.getD_eq_getD_getElem?] at hp
        clear hs
        go_simp
        refine hK.out _ _ ((Fr.refl _ _).alloc _) ?_
        exact ⟨_, rfl, Blk.new _ (arr [12]) _, fun hm => by have h9 : wx.heap.size < _ := hT.is.lt _ hm; have := hf.size; omega⟩
      · intro ac wx hf hs hp K hK
        simp only [waits, holdsA, nth, Is, Any, List.filter_cons, List.filter_nil, List.map_cons, List.map_nil, Region.binds, if_true, true_and, and_true, Nat.reduceAdd, List.getElem?_cons_zero, List.getElem?_cons_succ, Option.bind_some, Array.getD_eq_getD_getElem?] at hp
        clear hs
        obtain ⟨b9, e9, hx9⟩ := hp
        go_simp
        go_at_call 46
        refine (grid_some _ _).mono ?_
        rintro e w' ⟨rfl, rfl⟩
        exact hK.out _ _ (Fr.refl _ _) ⟨b9, rfl, hx9⟩
      · intro ac wx hf hs hp K hK
        simp only [waits, holdsA, nth, Is, Any, List.filter_cons, List.filter_nil, List.map_cons, List.map_nil, Region.binds, if_true, true_and, and_true, Nat.reduceAdd, List.getElem?_cons_zero, List.getElem?_cons_succ, Option.bind_some, Array.getD_eq_getD_getElem?] at hp
        clear hs
        go_simp
        refine hK.out _ _ ((Fr.refl _ _).alloc _) ?_
        exact ⟨_, rfl, Blk.new _ (arr [15, 18]) _, fun hm => by have h9 : wx.heap.size < _ := hT.is.lt _ hm; have := hf.size; omega⟩
      · intro ac wx hf hs hp K hK
        simp only [waits, holdsA, nth, Is, Any, List.filter_cons, List.filter_nil, List.map_cons, List.map_nil, Region.binds, if_true, true_and, and_true, Nat.reduceAdd, List.getElem?_cons_zero, List.getElem?_cons_succ, Option.bind_some, Array.getD_eq_getD_getElem?] at hp
        clear hs
        obtain ⟨⟨b9, e9, hx9⟩, -⟩ := hp
        go_simp
        go_at_call 46
        refine (grid_some _ _).mono ?_
        rintro e w' ⟨rfl, rfl⟩
        exact hK.out _ _ (Fr.refl _ _) ⟨b9, rfl, hx9⟩
      · intro ac wx hf hs hp K hK
        simp only [waits, holdsA, nth, Is, Any, List.filter_cons, List.filter_nil, List.map_cons, List.map_nil, Region.binds, if_true, true_and, and_true, Nat.reduceAdd, List.getElem?_cons_zero, List.getElem?_cons_succ, Option.bind_some, Array.getD_eq_getD_getElem?] at hp
        clear hs
        go_simp
        refine hK.out _ _ ((Fr.refl _ _).alloc _) ?_
        exact ⟨_, rfl, Blk.new _ (arr [20, 19, 22, 33, 25, 31]) _, fun hm => by have h9 : wx.heap.size < _ := hT.is.lt _ hm; have := hf.size; omega⟩
    case hD =>
      intro x wx hf hp
      simp only [fill, List.setIfInBounds_toArray, List.set_cons_zero, List.set_cons_succ, Nat.reduceAdd, Act.put]
      simp only [List.length_cons, List.length_nil, Nat.reduceAdd, List.range_eq_range', List.range'_succ, List.range'_zero, Nat.zero_add, Nat.add_zero, holds, nth, Is, Any, true_and, and_true] at hp
      obtain ⟨x0, -, ⟨bi, x2, hbi, hbin⟩, -, ⟨be, x4, hbe, hben⟩, ⟨bd, x5, hbd, hbdn⟩⟩ := hp
      simp only [x0, x2, x4, x5]
      clear x0 x2 x4 x5 k2
      go_simp
      go_at_call 45
      refine (grid_each wx g cap bs _ bi 1 be 2 [12] [15, 18] (9) [20, 19, 22, 33, 25, 31] (some ⟨bd, 0, none⟩) 6 6 (hT.is.fr hf) (RowI.newAt hbi (Fr.refl _ _)) hbin (okS.of (by decide)).2 (RowI.newAt hbe (Fr.refl _ _)) hben (okE.of (by decide)).2 (by decide) (by decide) (by decide) (Ints.newAt hbd (by decide) rfl (Fr.refl _ _)) (fun B n c e => by cases e; exact hbdn)).mono ?_
      rintro r wz ⟨rfl, hTz, fz⟩
      go_wp2
      go_end0
      exact ⟨rfl, hT.step hf hTz fz⟩
end Go.Proofs.Ytaefahbgeokopaa
