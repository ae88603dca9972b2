/- Package grid: the rows that are laid, part by part. -/
import Derived.Test.YtaefahbgeokopaaGridV
namespace Go.Proofs.Ytaefahbgeokopaa
open Go.RowKit Go.Shelf
set_option linter.unusedVariables false
set_option linter.unusedSimpArgs false
theorem ownsRow_blk {w : World} {B b : Nat} {cs : Array Value} {t : TypeId} (h : Blk w b cs t) (hb : B ≤ b) (hm : cs.size ≤ maxLen) : w.ownsRow B t 1 (.slice (some ⟨b, 0, none⟩) cs.size cs.size) cs.size cs.toList :=
  ⟨by simp, .inr ⟨b, cs.size, cs, rfl, hb, h, Nat.le_refl _, hm, by simp, by rw [Nat.mul_one, ← Array.length_toList, List.take_length]⟩⟩
theorem RowI.news {w : World} {b : Nat} {l : List Int} (h : RowI w b l) : ∀ (j : Nat) u, (l.map (Value.int .i64))[j]? = some u → w.cell? ((⟨b, 0, none⟩ : Addr).add j) = some u := by
  intro j u hj
  have hjl : j < l.length := by simpa using (List.getElem?_eq_some_iff.1 hj).1
  have := h j hjl
  simp [hjl] at hj
  rw [← hj, Go.WideShapes.add_plain, Nat.zero_add]; exact this
theorem RowI.own {w : World} {B b n cap m : Nat} {l : List Int} {xs : List Value} (h : w.ownsRow B 3 1 (.slice (some ⟨b, 0, none⟩) n cap) m xs) (hx : xs = l.map (Value.int .i64)) : RowI w b l := fun i hi => by
  have := h.cells (g := b) rfl i (.int .i64 l[i]) (by subst hx; simp [hi])
  rwa [Go.WideShapes.add_plain, Nat.zero_add] at this
theorem okI.cons {x : Int} {l : List Int} (h : okI [x] = true) (hl : okI l = true) : okI (x :: l) = true := by
  simp [okI] at *; exact ⟨h, hl⟩

def setupM (T : Tb) : Tb :=
  let T := layI 0 0 (2) [0, 33, 13] T
  let T := layI 0 8 (1) [5] T
  let T := eachM [0] [9, 20] (-1) [3] T
  let T := layI 1 1 (8) [2, 10] T
  let T := layI 4 4 (8) [2, 10] T
  let T := eachM [1, 4] [2] (0) [3] T
  let T := eachM [1, 4, 5] [9] (0) [2, 7] T
  let T := layI 2 10 (8) [12, 10, 6] T
  let T := layI 3 10 (8) [12, 10, 9] T
  let T := eachM [2, 3] [11, 33] (0) [12, 7] T
  let T := eachM [2, 3] [8] (-1) [2] T
  let T := eachM [2, 3] [9] (0) [3, 12, 7] T
  let T := eachM [2, 3] [29] (-1) [0, 32, 13] T
  let T := eachM [2, 3, 5] [2] (6) [1, 33, 13] T
  let T := eachM [4, 5] [11] (0) [7] T
  let T := layI 5 3 (3) [0, 33, 13] T
  let T := layI 5 8 (4) [8] T
  let T := eachM [6] [10, 11, 33] (0) [12] T
  let T := layI 6 8 (0) [3, 12] T
  let T := layI 6 9 (-1) [2] T
  let T := layI 6 29 (-1) [1, 32, 13] T
  let T := layI 7 9 (0) [2, 12, 7] T
  let T := layI 7 20 (-1) [4] T
  let T := layI 7 29 (-1) [4, 32, 13] T
  T
set_option maxHeartbeats 4000000 in
set_option maxRecDepth 100000 in
theorem grid_setup (w0 w1 : World) (g cap : Nat) (bs : Nat → Nat) (T : Tb) (h1 : Tab w0 w1 g bs T) :
    Calls Try.prog 37 #[.slice (some ⟨g, 0, none⟩) 14 cap] w1 fun r w' => r = .returned (.tuple #[]) ∧ Tab w0 w' g bs (setupM T) := by
  go_enter Try.func37, Try.ntmps37
  go_wp2_with (go_at_call 46; refine (grid_some _ _).mono ?_; rintro e w' ⟨rfl, rfl⟩)
  refine (lay_new (w := w1) [0, 33, 13] h1 ((Fr.refl _ _).alloc _) (by decide) (by decide) (by decide) (by decide) (Blk.newAt _ _ _ _ (by simp)) (by simp) (by decide) rfl).mono ?_
  rintro r w2 ⟨rfl, h2, f2⟩
  clear h1
  go_wp2_with (go_at_call 46; refine (grid_some _ _).mono ?_; rintro e w' ⟨rfl, rfl⟩)
  refine (lay_new (w := w2) [5] h2 ((Fr.refl _ _).alloc _) (by decide) (by decide) (by decide) (by decide) (Blk.newAt _ _ _ _ (by simp)) (by simp) (by decide) rfl).mono ?_
  rintro r w3 ⟨rfl, h3, f3⟩
  clear h2 f2
  go_wp2_with (go_at_call 46; refine (grid_some _ _).mono ?_; rintro e w' ⟨rfl, rfl⟩)
  refine (each_new (t := 3) (u := 3) (w := w3) [0] [9, 20] [3] h3 ((((Fr.refl _ _).alloc _).alloc _).alloc _) ?hi ?hi1 (by decide) rfl ?he ?he1 (by decide) rfl ?hb ?hb1 (by decide) rfl (by decide)).mono ?_
  case hi => exact RowI.newAt ((((Blk.newAt _ _ (arr [0]) 3 (by simp)).alloc _).alloc _)) (Fr.refl _ _)
  case hi1 => intro hm; have h9 : w3.heap.size < _ := h3.is.lt _ hm; omega
  case he => exact ((Blk.newAt _ _ (arr [9, 20]) 3 (by simp)).alloc _)
  case he1 => omega
  case hb => exact (Blk.newAt _ _ (arr [3]) 3 (by simp))
  case hb1 => omega
  rintro r w4 ⟨rfl, h4, f4⟩
  clear h3 f3
  go_wp2_with (go_at_call 46; refine (grid_some _ _).mono ?_; rintro e w' ⟨rfl, rfl⟩)
  refine (lay_new (w := w4) [2, 10] h4 ((Fr.refl _ _).alloc _) (by decide) (by decide) (by decide) (by decide) (Blk.newAt _ _ _ _ (by simp)) (by simp) (by decide) rfl).mono ?_
  rintro r w5 ⟨rfl, h5, f5⟩
  clear h4 f4
  go_wp2_with (go_at_call 46; refine (grid_some _ _).mono ?_; rintro e w' ⟨rfl, rfl⟩)
  refine (lay_new (w := w5) [2, 10] h5 ((Fr.refl _ _).alloc _) (by decide) (by decide) (by decide) (by decide) (Blk.newAt _ _ _ _ (by simp)) (by simp) (by decide) rfl).mono ?_
  rintro r w6 ⟨rfl, h6, f6⟩
  clear h5 f5
  go_wp2_with (go_at_call 46; refine (grid_some _ _).mono ?_; rintro e w' ⟨rfl, rfl⟩)
  refine (each_new (t := 3) (u := 3) (w := w6) [1, 4] [2] [3] h6 ((((Fr.refl _ _).alloc _).alloc _).alloc _) ?hi ?hi1 (by decide) rfl ?he ?he1 (by decide) rfl ?hb ?hb1 (by decide) rfl (by decide)).mono ?_
  case hi => exact RowI.newAt ((((Blk.newAt _ _ (arr [1, 4]) 3 (by simp)).alloc _).alloc _)) (Fr.refl _ _)
  case hi1 => intro hm; have h9 : w6.heap.size < _ := h6.is.lt _ hm; omega
  case he => exact ((Blk.newAt _ _ (arr [2]) 3 (by simp)).alloc _)
  case he1 => omega
  case hb => exact (Blk.newAt _ _ (arr [3]) 3 (by simp))
  case hb1 => omega
  rintro r w7 ⟨rfl, h7, f7⟩
  clear h6 f6
  go_wp2_with (go_at_call 46; refine (grid_some _ _).mono ?_; rintro e w' ⟨rfl, rfl⟩)
  refine (each_new (t := 3) (u := 3) (w := w7) [1, 4, 5] [9] [2, 7] h7 ((((Fr.refl _ _).alloc _).alloc _).alloc _) ?hi ?hi1 (by decide) rfl ?he ?he1 (by decide) rfl ?hb ?hb1 (by decide) rfl (by decide)).mono ?_
  case hi => exact RowI.newAt ((((Blk.newAt _ _ (arr [1, 4, 5]) 3 (by simp)).alloc _).alloc _)) (Fr.refl _ _)
  case hi1 => intro hm; have h9 : w7.heap.size < _ := h7.is.lt _ hm; omega
  case he => exact ((Blk.newAt _ _ (arr [9]) 3 (by simp)).alloc _)
  case he1 => omega
  case hb => exact (Blk.newAt _ _ (arr [2, 7]) 3 (by simp))
  case hb1 => omega
  rintro r w8 ⟨rfl, h8, f8⟩
  clear h7 f7
  go_wp2_with (go_at_call 46; refine (grid_some _ _).mono ?_; rintro e w' ⟨rfl, rfl⟩)
  refine (lay_new (w := w8) [12, 10, 6] h8 ((Fr.refl _ _).alloc _) (by decide) (by decide) (by decide) (by decide) (Blk.newAt _ _ _ _ (by simp)) (by simp) (by decide) rfl).mono ?_
  rintro r w9 ⟨rfl, h9, f9⟩
  clear h8 f8
  go_wp2_with (go_at_call 46; refine (grid_some _ _).mono ?_; rintro e w' ⟨rfl, rfl⟩)
  refine (lay_new (w := w9) [12, 10, 9] h9 ((Fr.refl _ _).alloc _) (by decide) (by decide) (by decide) (by decide) (Blk.newAt _ _ _ _ (by simp)) (by simp) (by decide) rfl).mono ?_
  rintro r w10 ⟨rfl, h10, f10⟩
  clear h9 f9
  go_wp2_with (go_at_call 46; refine (grid_some _ _).mono ?_; rintro e w' ⟨rfl, rfl⟩)
  refine (each_new (t := 3) (u := 3) (w := w10) [2, 3] [11, 33] [12, 7] h10 ((((Fr.refl _ _).alloc _).alloc _).alloc _) ?hi ?hi1 (by decide) rfl ?he ?he1 (by decide) rfl ?hb ?hb1 (by decide) rfl (by decide)).mono ?_
  case hi => exact RowI.newAt ((((Blk.newAt _ _ (arr [2, 3]) 3 (by simp)).alloc _).alloc _)) (Fr.refl _ _)
  case hi1 => intro hm; have h9 : w10.heap.size < _ := h10.is.lt _ hm; omega
  case he => exact ((Blk.newAt _ _ (arr [11, 33]) 3 (by simp)).alloc _)
  case he1 => omega
  case hb => exact (Blk.newAt _ _ (arr [12, 7]) 3 (by simp))
  case hb1 => omega
  rintro r w11 ⟨rfl, h11, f11⟩
  have vt2n : w10.heap.size ∉ tbL bs := by intro hm; have h9 : w10.heap.size < _ := h10.is.lt _ hm; omega
  have vt2 := (RowI.newAt ((((Blk.newAt _ _ (arr [2, 3]) 3 (by simp)).alloc _).alloc _)) (Fr.refl _ _)).fr f11 vt2n
  clear h10 f10
  go_wp2_with (go_at_call 46; refine (grid_some _ _).mono ?_; rintro e w' ⟨rfl, rfl⟩)
  refine (each_new (t := 3) (u := 3) (w := w11) [2, 3] [8] [2] h11 (((Fr.refl _ _).alloc _).alloc _) ?hi ?hi1 (by decide) rfl ?he ?he1 (by decide) rfl ?hb ?hb1 (by decide) rfl (by decide)).mono ?_
  case hi => exact vt2.fr (((Fr.refl [] _).alloc _).alloc _) (by simp)
  case hi1 => exact vt2n
  case he => exact ((Blk.newAt _ _ (arr [8]) 3 (by simp)).alloc _)
  case he1 => omega
  case hb => exact (Blk.newAt _ _ (arr [2]) 3 (by simp))
  case hb1 => omega
  rintro r w12 ⟨rfl, h12, f12⟩
  have vt2 := (vt2.fr (((Fr.refl [] _).alloc _).alloc _) (by simp)).fr f12 vt2n
  clear h11 f11
  go_wp2_with (go_at_call 46; refine (grid_some _ _).mono ?_; rintro e w' ⟨rfl, rfl⟩)
  refine (each_new (t := 3) (u := 3) (w := w12) [2, 3] [9] [3, 12, 7] h12 (((Fr.refl _ _).alloc _).alloc _) ?hi ?hi1 (by decide) rfl ?he ?he1 (by decide) rfl ?hb ?hb1 (by decide) rfl (by decide)).mono ?_
  case hi => exact vt2.fr (((Fr.refl [] _).alloc _).alloc _) (by simp)
  case hi1 => exact vt2n
  case he => exact ((Blk.newAt _ _ (arr [9]) 3 (by simp)).alloc _)
  case he1 => omega
  case hb => exact (Blk.newAt _ _ (arr [3, 12, 7]) 3 (by simp))
  case hb1 => omega
  rintro r w13 ⟨rfl, h13, f13⟩
  have vt2 := (vt2.fr (((Fr.refl [] _).alloc _).alloc _) (by simp)).fr f13 vt2n
  clear h12 f12
  go_wp2_with (go_at_call 46; refine (grid_some _ _).mono ?_; rintro e w' ⟨rfl, rfl⟩)
  refine (each_new (t := 3) (u := 3) (w := w13) [2, 3] [29] [0, 32, 13] h13 (((Fr.refl _ _).alloc _).alloc _) ?hi ?hi1 (by decide) rfl ?he ?he1 (by decide) rfl ?hb ?hb1 (by decide) rfl (by decide)).mono ?_
  case hi => exact vt2.fr (((Fr.refl [] _).alloc _).alloc _) (by simp)
  case hi1 => exact vt2n
  case he => exact ((Blk.newAt _ _ (arr [29]) 3 (by simp)).alloc _)
  case he1 => omega
  case hb => exact (Blk.newAt _ _ (arr [0, 32, 13]) 3 (by simp))
  case hb1 => omega
  rintro r w14 ⟨rfl, h14, f14⟩
  have vt2 := (vt2.fr (((Fr.refl [] _).alloc _).alloc _) (by simp)).fr f14 vt2n
  clear h13 f13
  go_wp2_with (go_at_call 46; refine (grid_some _ _).mono ?_; rintro e w' ⟨rfl, rfl⟩)
  refine (each_new (t := 3) (u := 3) (w := w14) [2, 3, 5] [2] [1, 33, 13] h14 ((((Fr.refl _ _).alloc _).alloc _).alloc _) ?hi ?hi1 (by decide) rfl ?he ?he1 (by decide) rfl ?hb ?hb1 (by decide) rfl (by decide)).mono ?_
  case hi => exact RowI.newAt ((((Blk.newAt _ _ (arr [2, 3, 5]) 3 (by simp)).alloc _).alloc _)) (Fr.refl _ _)
  case hi1 => intro hm; have h9 : w14.heap.size < _ := h14.is.lt _ hm; omega
  case he => exact ((Blk.newAt _ _ (arr [2]) 3 (by simp)).alloc _)
  case he1 => omega
  case hb => exact (Blk.newAt _ _ (arr [1, 33, 13]) 3 (by simp))
  case hb1 => omega
  rintro r w15 ⟨rfl, h15, f15⟩
  have vt2 := (vt2.fr ((((Fr.refl [] _).alloc _).alloc _).alloc _) (by simp)).fr f15 vt2n
  clear h14 f14
  go_wp2_with (go_at_call 46; refine (grid_some _ _).mono ?_; rintro e w' ⟨rfl, rfl⟩)
  refine (each_new (t := 3) (u := 3) (w := w15) [4, 5] [11] [7] h15 ((((Fr.refl _ _).alloc _).alloc _).alloc _) ?hi ?hi1 (by decide) rfl ?he ?he1 (by decide) rfl ?hb ?hb1 (by decide) rfl (by decide)).mono ?_
  case hi => exact RowI.newAt ((((Blk.newAt _ _ (arr [4, 5]) 3 (by simp)).alloc _).alloc _)) (Fr.refl _ _)
  case hi1 => intro hm; have h9 : w15.heap.size < _ := h15.is.lt _ hm; omega
  case he => exact ((Blk.newAt _ _ (arr [11]) 3 (by simp)).alloc _)
  case he1 => omega
  case hb => exact (Blk.newAt _ _ (arr [7]) 3 (by simp))
  case hb1 => omega
  rintro r w16 ⟨rfl, h16, f16⟩
  have vt2 := (vt2.fr ((((Fr.refl [] _).alloc _).alloc _).alloc _) (by simp)).fr f16 vt2n
  clear h15 f15
  go_wp2_with (go_at_call 46; refine (grid_some _ _).mono ?_; rintro e w' ⟨rfl, rfl⟩)
  refine (lay_new (w := w16) [0, 33, 13] h16 ((Fr.refl _ _).alloc _) (by decide) (by decide) (by decide) (by decide) (Blk.newAt _ _ _ _ (by simp)) (by simp) (by decide) rfl).mono ?_
  rintro r w17 ⟨rfl, h17, f17⟩
  have vt2 := (vt2.fr ((Fr.refl [] _).alloc _) (by simp)).fr f17 vt2n
  clear h16 f16
  go_wp2_with (go_at_call 46; refine (grid_some _ _).mono ?_; rintro e w' ⟨rfl, rfl⟩)
  refine (lay_new (w := w17) [8] h17 ((Fr.refl _ _).alloc _) (by decide) (by decide) (by decide) (by decide) (Blk.newAt _ _ _ _ (by simp)) (by simp) (by decide) rfl).mono ?_
  rintro r w18 ⟨rfl, h18, f18⟩
  have vt2 := (vt2.fr ((Fr.refl [] _).alloc _) (by simp)).fr f18 vt2n
  clear h17 f17
  go_wp2_with (go_at_call 46; refine (grid_some _ _).mono ?_; rintro e w' ⟨rfl, rfl⟩)
  refine (each_new (t := 3) (u := 3) (w := w18) [6] [10, 11, 33] [12] h18 ((((Fr.refl _ _).alloc _).alloc _).alloc _) ?hi ?hi1 (by decide) rfl ?he ?he1 (by decide) rfl ?hb ?hb1 (by decide) rfl (by decide)).mono ?_
  case hi => exact RowI.newAt ((((Blk.newAt _ _ (arr [6]) 3 (by simp)).alloc _).alloc _)) (Fr.refl _ _)
  case hi1 => intro hm; have h9 : w18.heap.size < _ := h18.is.lt _ hm; omega
  case he => exact ((Blk.newAt _ _ (arr [10, 11, 33]) 3 (by simp)).alloc _)
  case he1 => omega
  case hb => exact (Blk.newAt _ _ (arr [12]) 3 (by simp))
  case hb1 => omega
  rintro r w19 ⟨rfl, h19, f19⟩
  have vt2 := (vt2.fr ((((Fr.refl [] _).alloc _).alloc _).alloc _) (by simp)).fr f19 vt2n
  clear h18 f18
  go_wp2_with (go_at_call 46; refine (grid_some _ _).mono ?_; rintro e w' ⟨rfl, rfl⟩)
  refine (lay_new (w := w19) [3, 12] h19 ((Fr.refl _ _).alloc _) (by decide) (by decide) (by decide) (by decide) (Blk.newAt _ _ _ _ (by simp)) (by simp) (by decide) rfl).mono ?_
  rintro r w20 ⟨rfl, h20, f20⟩
  have vt2 := (vt2.fr ((Fr.refl [] _).alloc _) (by simp)).fr f20 vt2n
  clear h19 f19
  go_wp2_with (go_at_call 46; refine (grid_some _ _).mono ?_; rintro e w' ⟨rfl, rfl⟩)
  refine (lay_new (w := w20) [2] h20 ((Fr.refl _ _).alloc _) (by decide) (by decide) (by decide) (by decide) (Blk.newAt _ _ _ _ (by simp)) (by simp) (by decide) rfl).mono ?_
  rintro r w21 ⟨rfl, h21, f21⟩
  have vt2 := (vt2.fr ((Fr.refl [] _).alloc _) (by simp)).fr f21 vt2n
  clear h20 f20
  go_wp2_with (go_at_call 46; refine (grid_some _ _).mono ?_; rintro e w' ⟨rfl, rfl⟩)
  refine (lay_new (w := w21) [1, 32, 13] h21 ((Fr.refl _ _).alloc _) (by decide) (by decide) (by decide) (by decide) (Blk.newAt _ _ _ _ (by simp)) (by simp) (by decide) rfl).mono ?_
  rintro r w22 ⟨rfl, h22, f22⟩
  have vt2 := (vt2.fr ((Fr.refl [] _).alloc _) (by simp)).fr f22 vt2n
  clear h21 f21
  go_wp2_with (go_at_call 46; refine (grid_some _ _).mono ?_; rintro e w' ⟨rfl, rfl⟩)
  refine (lay_new (w := w22) [2, 12, 7] h22 ((Fr.refl _ _).alloc _) (by decide) (by decide) (by decide) (by decide) (Blk.newAt _ _ _ _ (by simp)) (by simp) (by decide) rfl).mono ?_
  rintro r w23 ⟨rfl, h23, f23⟩
  have vt2 := (vt2.fr ((Fr.refl [] _).alloc _) (by simp)).fr f23 vt2n
  clear h22 f22
  go_wp2_with (go_at_call 46; refine (grid_some _ _).mono ?_; rintro e w' ⟨rfl, rfl⟩)
  refine (lay_new (w := w23) [4] h23 ((Fr.refl _ _).alloc _) (by decide) (by decide) (by decide) (by decide) (Blk.newAt _ _ _ _ (by simp)) (by simp) (by decide) rfl).mono ?_
  rintro r w24 ⟨rfl, h24, f24⟩
  have vt2 := (vt2.fr ((Fr.refl [] _).alloc _) (by simp)).fr f24 vt2n
  clear h23 f23
  go_wp2_with (go_at_call 46; refine (grid_some _ _).mono ?_; rintro e w' ⟨rfl, rfl⟩)
  refine (lay_new (w := w24) [4, 32, 13] h24 ((Fr.refl _ _).alloc _) (by decide) (by decide) (by decide) (by decide) (Blk.newAt _ _ _ _ (by simp)) (by simp) (by decide) rfl).mono ?_
  rintro r w25 ⟨rfl, h25, f25⟩
  have vt2 := (vt2.fr ((Fr.refl [] _).alloc _) (by simp)).fr f25 vt2n
  clear h24 f24
  go_wp2
  go_end0
  exact ⟨rfl, h25⟩

def sharedM (T : Tb) : Tb :=
  let T := eachM [7, 8, 9, 10, 11, 12, 13] [3] (3) [12, 0, 33, 13] T
  let T := eachM [7, 8, 9, 10, 11, 12, 13] [2] (6) [12, 1, 33, 13] T
  let T := eachM [7, 8, 9, 10, 11, 12, 13] [8] (4) [12, 8] T
  let T := eachM [7, 8, 9, 10, 11, 12, 13] [11] (0) [12, 7] T
  let T := eachM [7, 8, 9, 10, 11, 12, 13] [12, 33] (5) [12, 8] T
  let T := eachM [8, 9, 10, 11, 12, 13] [9] (0) [12, 2, 7] T
  let T := eachM [8, 9, 10, 11, 12, 13] [28] (7) [12, 4, 33, 13] T
  T
set_option maxHeartbeats 4000000 in
set_option maxRecDepth 100000 in
theorem grid_shared (w0 w1 : World) (g cap : Nat) (bs : Nat → Nat) (T : Tb) (h1 : Tab w0 w1 g bs T) :
    Calls Try.prog 38 #[.slice (some ⟨g, 0, none⟩) 14 cap] w1 fun r w' => r = .returned (.tuple #[]) ∧ Tab w0 w' g bs (sharedM T) := by
  obtain ⟨i0, hi, hz0, hz1, hz2⟩ := ints_info
  have hun : Try.prog.underlying 65 = some (.slice 3) := Try.underlying65
  go_enter Try.func38, Try.ntmps38
  go_wp2_with (first | (go_at_call 46; refine (grid_some _ _).mono ?_; rintro e w' ⟨rfl, rfl⟩) | (at_builtin; refine wpList_append_own _ rfl _ _ 65 rfl (w1.heap.size + 1) 3 i0 (.int .i64 0) 1 8 hun hi hz0 hz1 hz2 rfl (by decide) _ 1 [.int .i64 7] rfl (ownsRow_blk (Blk.newAt _ _ #[.int .i64 7] 3 (by simp)) (by omega) (by decide)) ⟨w1.heap.size, 0, none⟩ 6 6 ([8, 9, 10, 11, 12, 13].map (Value.int .i64)) rfl ?c1 ?c2 ?c3 ?c4 ?c5 ?c6 ?_))
  case c1 => simp
  case c2 => exact (RowI.newAt (Blk.newAt w1 _ (arr [8, 9, 10, 11, 12, 13]) 3 rfl) ((Fr.refl _ _).alloc _)).news
  case c3 => decide
  case c4 => decide
  case c5 => decide
  case c6 => simp
  intro v' w2 hown hgr _
  have hz : (((w1.alloc (.cells (arr [8, 9, 10, 11, 12, 13]) 3)).alloc (.cells #[.int .i64 7] 3))).heap.size = w1.heap.size + 2 := by simp
  have hF : Fr [w1.heap.size + 1] ((w1.alloc (.cells (arr [8, 9, 10, 11, 12, 13]) 3)).alloc (.cells #[.int .i64 7] 3)) w2 := (Fr.refl _ _).grown hgr (fun k hk => .inl (by simp [Value.ownBlock] at hk; simp [hk]))
  have f2 : Fr [] w1 w2 := ((((Fr.refl _ _).alloc _).alloc _)).grown hgr (fun k hk => .inr (by simp [Value.ownBlock] at hk; omega))
  have hdata : RowI w2 w1.heap.size [8, 9, 10, 11, 12, 13] := (RowI.newAt (Blk.newAt w1 _ (arr [8, 9, 10, 11, 12, 13]) 3 rfl) ((Fr.refl _ _).alloc _)).fr hF (by simp)
  have hdatan : w1.heap.size ∉ tbL bs := fun hm => by have h9 : w1.heap.size < _ := h1.is.lt _ hm; omega
  rcases hown.2 with ⟨_, hx⟩ | ⟨bm, cm, cur, rfl, hb, -⟩
  · cases hx
  have hmore : RowI w2 bm [7, 8, 9, 10, 11, 12, 13] := RowI.own hown rfl
  have hmoren : bm ∉ tbL bs := fun hm => by have h9 := h1.is.lt _ hm; omega
  have h2 : Tab w0 w2 g bs T := h1.step f2 (h1.is.fr f2) (Fr.refl _ _)
  clear h1 hF hgr hown hb hz hi hz0 hz1 hz2 hun
  go_wp2_with (go_at_call 46; refine (grid_some _ _).mono ?_; rintro e w' ⟨rfl, rfl⟩)
  refine (each_new (t := 3) (u := 3) (w := w2) [7, 8, 9, 10, 11, 12, 13] [3] [12, 0, 33, 13] h2 (((Fr.refl _ _).alloc _).alloc _) ?hi ?hi1 (by decide) rfl ?he ?he1 (by decide) rfl ?hb ?hb1 (by decide) rfl (by decide)).mono ?_
  case hi => exact hmore.fr (((Fr.refl [] _).alloc _).alloc _) (by simp)
  case hi1 => exact hmoren
  case he => exact ((Blk.newAt _ _ (arr [3]) 3 (by simp)).alloc _)
  case he1 => omega
  case hb => exact (Blk.newAt _ _ (arr [12, 0, 33, 13]) 3 (by simp))
  case hb1 => omega
  rintro r w3 ⟨rfl, h3, f3⟩
  have hdata := (hdata.fr (((Fr.refl [] _).alloc _).alloc _) (by simp)).fr f3 hdatan
  have hmore := (hmore.fr (((Fr.refl [] _).alloc _).alloc _) (by simp)).fr f3 hmoren
  clear h2 f2
  go_wp2_with (go_at_call 46; refine (grid_some _ _).mono ?_; rintro e w' ⟨rfl, rfl⟩)
  refine (each_new (t := 3) (u := 3) (w := w3) [7, 8, 9, 10, 11, 12, 13] [2] [12, 1, 33, 13] h3 (((Fr.refl _ _).alloc _).alloc _) ?hi ?hi1 (by decide) rfl ?he ?he1 (by decide) rfl ?hb ?hb1 (by decide) rfl (by decide)).mono ?_
  case hi => exact hmore.fr (((Fr.refl [] _).alloc _).alloc _) (by simp)
  case hi1 => exact hmoren
  case he => exact ((Blk.newAt _ _ (arr [2]) 3 (by simp)).alloc _)
  case he1 => omega
  case hb => exact (Blk.newAt _ _ (arr [12, 1, 33, 13]) 3 (by simp))
  case hb1 => omega
  rintro r w4 ⟨rfl, h4, f4⟩
  have hdata := (hdata.fr (((Fr.refl [] _).alloc _).alloc _) (by simp)).fr f4 hdatan
  have hmore := (hmore.fr (((Fr.refl [] _).alloc _).alloc _) (by simp)).fr f4 hmoren
  clear h3 f3
  go_wp2_with (go_at_call 46; refine (grid_some _ _).mono ?_; rintro e w' ⟨rfl, rfl⟩)
  refine (each_new (t := 3) (u := 3) (w := w4) [7, 8, 9, 10, 11, 12, 13] [8] [12, 8] h4 (((Fr.refl _ _).alloc _).alloc _) ?hi ?hi1 (by decide) rfl ?he ?he1 (by decide) rfl ?hb ?hb1 (by decide) rfl (by decide)).mono ?_
  case hi => exact hmore.fr (((Fr.refl [] _).alloc _).alloc _) (by simp)
  case hi1 => exact hmoren
  case he => exact ((Blk.newAt _ _ (arr [8]) 3 (by simp)).alloc _)
  case he1 => omega
  case hb => exact (Blk.newAt _ _ (arr [12, 8]) 3 (by simp))
  case hb1 => omega
  rintro r w5 ⟨rfl, h5, f5⟩
  have hdata := (hdata.fr (((Fr.refl [] _).alloc _).alloc _) (by simp)).fr f5 hdatan
  have hmore := (hmore.fr (((Fr.refl [] _).alloc _).alloc _) (by simp)).fr f5 hmoren
  clear h4 f4
  go_wp2_with (go_at_call 46; refine (grid_some _ _).mono ?_; rintro e w' ⟨rfl, rfl⟩)
  refine (each_new (t := 3) (u := 3) (w := w5) [7, 8, 9, 10, 11, 12, 13] [11] [12, 7] h5 (((Fr.refl _ _).alloc _).alloc _) ?hi ?hi1 (by decide) rfl ?he ?he1 (by decide) rfl ?hb ?hb1 (by decide) rfl (by decide)).mono ?_
  case hi => exact hmore.fr (((Fr.refl [] _).alloc _).alloc _) (by simp)
  case hi1 => exact hmoren
  case he => exact ((Blk.newAt _ _ (arr [11]) 3 (by simp)).alloc _)
  case he1 => omega
  case hb => exact (Blk.newAt _ _ (arr [12, 7]) 3 (by simp))
  case hb1 => omega
  rintro r w6 ⟨rfl, h6, f6⟩
  have hdata := (hdata.fr (((Fr.refl [] _).alloc _).alloc _) (by simp)).fr f6 hdatan
  have hmore := (hmore.fr (((Fr.refl [] _).alloc _).alloc _) (by simp)).fr f6 hmoren
  clear h5 f5
  go_wp2_with (go_at_call 46; refine (grid_some _ _).mono ?_; rintro e w' ⟨rfl, rfl⟩)
  refine (each_new (t := 3) (u := 3) (w := w6) [7, 8, 9, 10, 11, 12, 13] [12, 33] [12, 8] h6 (((Fr.refl _ _).alloc _).alloc _) ?hi ?hi1 (by decide) rfl ?he ?he1 (by decide) rfl ?hb ?hb1 (by decide) rfl (by decide)).mono ?_
  case hi => exact hmore.fr (((Fr.refl [] _).alloc _).alloc _) (by simp)
  case hi1 => exact hmoren
  case he => exact ((Blk.newAt _ _ (arr [12, 33]) 3 (by simp)).alloc _)
  case he1 => omega
  case hb => exact (Blk.newAt _ _ (arr [12, 8]) 3 (by simp))
  case hb1 => omega
  rintro r w7 ⟨rfl, h7, f7⟩
  have hdata := (hdata.fr (((Fr.refl [] _).alloc _).alloc _) (by simp)).fr f7 hdatan
  have hmore := (hmore.fr (((Fr.refl [] _).alloc _).alloc _) (by simp)).fr f7 hmoren
  clear h6 f6
  go_wp2_with (go_at_call 46; refine (grid_some _ _).mono ?_; rintro e w' ⟨rfl, rfl⟩)
  refine (each_new (t := 3) (u := 3) (w := w7) [8, 9, 10, 11, 12, 13] [9] [12, 2, 7] h7 (((Fr.refl _ _).alloc _).alloc _) ?hi ?hi1 (by decide) rfl ?he ?he1 (by decide) rfl ?hb ?hb1 (by decide) rfl (by decide)).mono ?_
  case hi => exact hdata.fr (((Fr.refl [] _).alloc _).alloc _) (by simp)
  case hi1 => exact hdatan
  case he => exact ((Blk.newAt _ _ (arr [9]) 3 (by simp)).alloc _)
  case he1 => omega
  case hb => exact (Blk.newAt _ _ (arr [12, 2, 7]) 3 (by simp))
  case hb1 => omega
  rintro r w8 ⟨rfl, h8, f8⟩
  have hdata := (hdata.fr (((Fr.refl [] _).alloc _).alloc _) (by simp)).fr f8 hdatan
  have hmore := (hmore.fr (((Fr.refl [] _).alloc _).alloc _) (by simp)).fr f8 hmoren
  clear h7 f7
  go_wp2_with (go_at_call 46; refine (grid_some _ _).mono ?_; rintro e w' ⟨rfl, rfl⟩)
  refine (each_new (t := 3) (u := 3) (w := w8) [8, 9, 10, 11, 12, 13] [28] [12, 4, 33, 13] h8 (((Fr.refl _ _).alloc _).alloc _) ?hi ?hi1 (by decide) rfl ?he ?he1 (by decide) rfl ?hb ?hb1 (by decide) rfl (by decide)).mono ?_
  case hi => exact hdata.fr (((Fr.refl [] _).alloc _).alloc _) (by simp)
  case hi1 => exact hdatan
  case he => exact ((Blk.newAt _ _ (arr [28]) 3 (by simp)).alloc _)
  case he1 => omega
  case hb => exact (Blk.newAt _ _ (arr [12, 4, 33, 13]) 3 (by simp))
  case hb1 => omega
  rintro r w9 ⟨rfl, h9, f9⟩
  have hdata := (hdata.fr (((Fr.refl [] _).alloc _).alloc _) (by simp)).fr f9 hdatan
  have hmore := (hmore.fr (((Fr.refl [] _).alloc _).alloc _) (by simp)).fr f9 hmoren
  clear h8 f8
  go_wp2
  go_end0
  exact ⟨rfl, h9⟩

def busyM (T : Tb) : Tb :=
  let T := layI 8 6 (9) [25] T
  let T := layI 10 6 (9) [16, 25] T
  let T := layI 11 6 (12) [25] T
  let T := layI 13 6 (12) [16, 25] T
  let T := layI 9 7 (8) [23] T
  let T := layI 12 7 (11) [23] T
  T
set_option maxHeartbeats 4000000 in
set_option maxRecDepth 100000 in
theorem grid_busy (w0 w1 : World) (g cap : Nat) (bs : Nat → Nat) (T : Tb) (h1 : Tab w0 w1 g bs T) :
    Calls Try.prog 39 #[.slice (some ⟨g, 0, none⟩) 14 cap] w1 fun r w' => r = .returned (.tuple #[]) ∧ Tab w0 w' g bs (busyM T) := by
  go_enter Try.func39, Try.ntmps39
  go_wp2_with (go_at_call 46; refine (grid_some _ _).mono ?_; rintro e w' ⟨rfl, rfl⟩)
  refine (lay_new (w := w1) [25] h1 ((Fr.refl _ _).alloc _) (by decide) (by decide) (by decide) (by decide) (Blk.newAt _ _ _ _ (by simp)) (by simp) (by decide) rfl).mono ?_
  rintro r w2 ⟨rfl, h2, f2⟩
  clear h1
  go_wp2_with (go_at_call 46; refine (grid_some _ _).mono ?_; rintro e w' ⟨rfl, rfl⟩)
  refine (lay_new (w := w2) [16, 25] h2 ((Fr.refl _ _).alloc _) (by decide) (by decide) (by decide) (by decide) (Blk.newAt _ _ _ _ (by simp)) (by simp) (by decide) rfl).mono ?_
  rintro r w3 ⟨rfl, h3, f3⟩
  clear h2 f2
  go_wp2_with (go_at_call 46; refine (grid_some _ _).mono ?_; rintro e w' ⟨rfl, rfl⟩)
  refine (lay_new (w := w3) [25] h3 ((Fr.refl _ _).alloc _) (by decide) (by decide) (by decide) (by decide) (Blk.newAt _ _ _ _ (by simp)) (by simp) (by decide) rfl).mono ?_
  rintro r w4 ⟨rfl, h4, f4⟩
  clear h3 f3
  go_wp2_with (go_at_call 46; refine (grid_some _ _).mono ?_; rintro e w' ⟨rfl, rfl⟩)
  refine (lay_new (w := w4) [16, 25] h4 ((Fr.refl _ _).alloc _) (by decide) (by decide) (by decide) (by decide) (Blk.newAt _ _ _ _ (by simp)) (by simp) (by decide) rfl).mono ?_
  rintro r w5 ⟨rfl, h5, f5⟩
  clear h4 f4
  go_wp2_with (go_at_call 46; refine (grid_some _ _).mono ?_; rintro e w' ⟨rfl, rfl⟩)
  refine (lay_new (w := w5) [23] h5 ((Fr.refl _ _).alloc _) (by decide) (by decide) (by decide) (by decide) (Blk.newAt _ _ _ _ (by simp)) (by simp) (by decide) rfl).mono ?_
  rintro r w6 ⟨rfl, h6, f6⟩
  clear h5 f5
  go_wp2_with (go_at_call 46; refine (grid_some _ _).mono ?_; rintro e w' ⟨rfl, rfl⟩)
  refine (lay_new (w := w6) [23] h6 ((Fr.refl _ _).alloc _) (by decide) (by decide) (by decide) (by decide) (Blk.newAt _ _ _ _ (by simp)) (by simp) (by decide) rfl).mono ?_
  rintro r w7 ⟨rfl, h7, f7⟩
  clear h6 f6
  go_wp2
  go_end0
  exact ⟨rfl, h7⟩

def answersM (p0 p1 p2 p3 p4 : Int) (T : Tb) : Tb :=
  let T := layI p0 19 (-1) ([[20, 19], [31]].flatten) T
  let T := layI p0 (19 + 1) (-1) ([[20, 19], [p3], [31]].flatten) T
  let T := layI p0 22 (-1) ([[19, 21, 17], []].flatten) T
  let T := layI p0 (22 + 1) (-1) ([[19, 21, 17], [p3], []].flatten) T
  let T := layI p0 25 (-1) ([[20, 19, 22, 34], [31]].flatten) T
  let T := layI p0 (25 + 1) (-1) ([[20, 19, 22, 34], [p3], [31]].flatten) T
  let T := layI p1 19 (-1) ([[20, 19], []].flatten) T
  let T := layI p1 (19 + 1) (-1) ([[20, 19], [p3], []].flatten) T
  let T := layI p1 22 (-1) ([[19, 21], []].flatten) T
  let T := layI p1 (22 + 1) (-1) ([[19, 21], [p3], []].flatten) T
  let T := layI p1 25 (-1) ([[20, 19], []].flatten) T
  let T := layI p1 (25 + 1) (-1) ([[20, 19], [p3], []].flatten) T
  let T := layI p0 5 (-1) [31] T
  let T := layI p0 29 (p1) [p4, 14, 32, 34] T
  let T := layI p0 32 (p1) [p4, 14, 32] T
  let T := layI p1 30 (-1) [p4, 14, 32] T
  let T := layI p1 21 (p0) [20, 19, 22, 33, 31] T
  let T := layI p1 24 (p0) [19, 21, 17, 22, 33] T
  let T := layI p1 27 (p0) [20, 19, 22, 34, 33, 31] T
  T
set_option maxHeartbeats 8000000 in
set_option maxRecDepth 100000 in
theorem grid_answers (w0 w1 : World) (g cap : Nat) (bs : Nat → Nat) (T : Tb) (p0 p1 p2 p3 p4 : Int) (h1 : Tab w0 w1 g bs T) (hp0a : 0 ≤ p0) (hp0b : p0 < 14) (hp1a : 0 ≤ p1) (hp1b : p1 < 14) (hp3 : okI [p3] = true) (hp4 : okI [p4] = true) :
    Calls Try.prog 41 #[.slice (some ⟨g, 0, none⟩) 14 cap, .agg #[.int .i64 p0, .int .i64 p1, .int .i64 p2, .int .i64 p3, .int .i64 p4]] w1 fun r w' => r = .returned (.tuple #[]) ∧ Tab w0 w' g bs (answersM p0 p1 p2 p3 p4 T) := by
  go_enter Try.func41, Try.ntmps41
  go_wp2_with (go_at_call 46; refine (grid_some _ _).mono ?_; rintro e w' ⟨rfl, rfl⟩)
  have h2 : Blk (((w1.alloc (.cells #[.slice (some ⟨g, 0, none⟩) 14 cap] 91)).alloc (.cells #[.int .i64 p0, .int .i64 p1, .int .i64 p2, .int .i64 p3, .int .i64 p4] 96)).alloc (.cells #[.int .i64 31] 3)) w1.heap.size #[.slice (some ⟨g, 0, none⟩) 14 cap] 91 := ((Blk.new w1 _ _).alloc _).alloc _
  have h3 : Blk (((w1.alloc (.cells #[.slice (some ⟨g, 0, none⟩) 14 cap] 91)).alloc (.cells #[.int .i64 p0, .int .i64 p1, .int .i64 p2, .int .i64 p3, .int .i64 p4] 96)).alloc (.cells #[.int .i64 31] 3)) (w1.heap.size + 1) #[.int .i64 p0, .int .i64 p1, .int .i64 p2, .int .i64 p3, .int .i64 p4] 96 := (Blk.newAt _ _ _ _ (by simp)).alloc _
  have h5 : Blk (((w1.alloc (.cells #[.slice (some ⟨g, 0, none⟩) 14 cap] 91)).alloc (.cells #[.int .i64 p0, .int .i64 p1, .int .i64 p2, .int .i64 p3, .int .i64 p4] 96)).alloc (.cells #[.int .i64 31] 3)) (w1.heap.size + 1 + 1) (arr [31]) 3 := Blk.newAt _ _ _ _ (by simp)
  have h2n : w1.heap.size ∉ tbL bs := fun hm => by have h9 : w1.heap.size < _ := h1.is.lt _ hm; omega
  have h3n : w1.heap.size + 1 ∉ tbL bs := fun hm => by have h9 : w1.heap.size + 1 < _ := h1.is.lt _ hm; omega
  have h5n : w1.heap.size + 1 + 1 ∉ tbL bs := fun hm => by have h9 : w1.heap.size + 1 + 1 < _ := h1.is.lt _ hm; omega
  have hT2 : Tab w0 (((w1.alloc (.cells #[.slice (some ⟨g, 0, none⟩) 14 cap] 91)).alloc (.cells #[.int .i64 p0, .int .i64 p1, .int .i64 p2, .int .i64 p3, .int .i64 p4] 96)).alloc (.cells #[.int .i64 31] 3)) g bs T := ⟨h1.is.fr ((((Fr.refl _ _).alloc _).alloc _).alloc _), ((h1.fr.alloc _).alloc _).alloc _⟩
  clear h1
  generalize hb2 : w1.heap.size + 1 = b3 at *
  generalize hb1 : w1.heap.size = b2 at *
  generalize hb3 : b3 + 1 = b5 at *
  generalize (((w1.alloc (.cells #[.slice (some ⟨g, 0, none⟩) 14 cap] 91)).alloc (.cells #[.int .i64 p0, .int .i64 p1, .int .i64 p2, .int .i64 p3, .int .i64 p4] 96)).alloc (.cells #[.int .i64 31] 3)) = w2 at *
  clear hb1 hb2 hb3
  have hT := hT2
  have k3 : ∀ wx, Fr [] w2 wx → wx.cell? ⟨b3, 0, none⟩ = some (.int .i64 p0) := fun wx hf => hf.cell (h3.cell 0 rfl) (by simp)
  refine wp_region_keepsL [] [Is (.func (.func 47) #[] #[.pointer (some ⟨b2, 0, none⟩), .pointer (some ⟨b3, 0, none⟩)]), Is (.pointer (some ⟨b3, 0, none⟩)), Is (.int .i64 p0), IsN (tbL bs) [20, 19], IsN (tbL bs) [20, 19], Is (.slice (some ⟨b5, 0, none⟩) 1 1)] 6 rfl rfl (by kernel_rfl) (by kernel_rfl) (by kernel_rfl) (by kernel_rfl) (by kernel_rfl) ?hV ?hS ?hD
  case hV =>
    repeat (first | exact trivial | exact Is.keeps _ | exact Any.keeps | exact IsSl.keeps _ _ _ | exact IsN.keeps _ _ | refine And.intro ?_ ?_)
  case hS =>
    (repeat' (first | exact trivial | refine And.intro ?_ ?_))
    · intro ac wx hf hs hp K hK
      simp only [waits, holdsA, nth, Is, Any, List.filter_cons, List.filter_nil, List.map_cons, List.map_nil, Region.binds, if_true, true_and, and_true, Nat.reduceAdd, List.getElem?_cons_zero, List.getElem?_cons_succ, Option.bind_some, Array.getD_eq_getD_getElem?] at hp
      have hs4 := hs 4 (by kernel_rfl)
      simp only [Array.getD_eq_getD_getElem?, List.getElem?_toArray, List.getElem?_cons_succ, List.getElem?_cons_zero, Option.getD_some] at hs4
      clear hs
      clear hf
      (try simp only [hp])
      go_simp
      try dsimp only
      refine hK.out _ _ ?_ ?_
      · ((repeat (first | (with_reducible exact Fr.refl _ _) | (with_reducible assumption) | (with_reducible refine Fr.drew ?_) | (with_reducible refine Fr.drewN ?_ _) | (with_reducible refine Fr.alloc ?_ _) | (with_reducible refine Fr.setL ?_ _ _ _ ?_) | (focus (refine Or.inl ?_; simp; done)) | (focus (refine Or.inr ?_; simp; done)) | (focus (refine Or.inr ?_; simp; omega)) | (focus (refine Or.inr ?_; omega)))); done)
      · simp only [nth]
        first | (unfold Is; rfl) | (unfold Any; exact trivial) | exact IsSl.new _ _ _ _ | assumption
    · intro ac wx hf hs hp K hK
      simp only [waits, holdsA, nth, Is, Any, List.filter_cons, List.filter_nil, List.map_cons, List.map_nil, Region.binds, if_true, true_and, and_true, Nat.reduceAdd, List.getElem?_cons_zero, List.getElem?_cons_succ, Option.bind_some, Array.getD_eq_getD_getElem?] at hp
      have hs3 := hs 3 (by kernel_rfl)
      simp only [Array.getD_eq_getD_getElem?, List.getElem?_toArray, List.getElem?_cons_succ, List.getElem?_cons_zero, Option.getD_some] at hs3
      clear hs
      clear hf
      (try simp only [hp])
      go_simp
      try dsimp only
      refine hK.out _ _ ?_ ?_
      · ((repeat (first | (with_reducible exact Fr.refl _ _) | (with_reducible assumption) | (with_reducible refine Fr.drew ?_) | (with_reducible refine Fr.drewN ?_ _) | (with_reducible refine Fr.alloc ?_ _) | (with_reducible refine Fr.setL ?_ _ _ _ ?_) | (focus (refine Or.inl ?_; simp; done)) | (focus (refine Or.inr ?_; simp; done)) | (focus (refine Or.inr ?_; simp; omega)) | (focus (refine Or.inr ?_; omega)))); done)
      · simp only [nth]
        first | (unfold Is; rfl) | (unfold Any; exact trivial) | exact IsSl.new _ _ _ _ | assumption
    · intro ac wx hf hs hp K hK
      simp only [waits, holdsA, nth, Is, Any, List.filter_cons, List.filter_nil, List.map_cons, List.map_nil, Region.binds, if_true, true_and, and_true, Nat.reduceAdd, List.getElem?_cons_zero, List.getElem?_cons_succ, Option.bind_some, Array.getD_eq_getD_getElem?] at hp
      clear hs
      have cx := k3 wx hf
      clear hf
      (try simp only [hp])
      go_simp
      try dsimp only
      refine hK.out _ _ ?_ ?_
      · ((repeat (first | (with_reducible exact Fr.refl _ _) | (with_reducible assumption) | (with_reducible refine Fr.drew ?_) | (with_reducible refine Fr.drewN ?_ _) | (with_reducible refine Fr.alloc ?_ _) | (with_reducible refine Fr.setL ?_ _ _ _ ?_) | (focus (refine Or.inl ?_; simp; done)) | (focus (refine Or.inr ?_; simp; done)) | (focus (refine Or.inr ?_; simp; omega)) | (focus (refine Or.inr ?_; omega)))); done)
      · simp only [nth]
        first | (unfold Is; rfl) | (unfold Any; exact trivial) | exact IsSl.new _ _ _ _ | assumption
    · intro ac wx hf hs hp K hK
      simp only [waits, holdsA, nth, Is, Any, List.filter_cons, List.filter_nil, List.map_cons, List.map_nil, Region.binds, if_true, true_and, and_true, Nat.reduceAdd, List.getElem?_cons_zero, List.getElem?_cons_succ, Option.bind_some, Array.getD_eq_getD_getElem?] at hp
      clear hs
      go_simp
      refine hK.out _ _ ((Fr.refl _ _).alloc _) ?_
      exact ⟨⟨_, 2, 2⟩, rfl, Ints.newAt (l := [20, 19]) (Blk.new _ _ _) (by decide) rfl (Fr.refl _ _), fun A n c e hm => by cases e; have h9 : wx.heap.size < _ := hT.is.lt _ hm; have := hf.size; omega⟩
    · intro ac wx hf hs hp K hK
      simp only [waits, holdsA, nth, Is, Any, List.filter_cons, List.filter_nil, List.map_cons, List.map_nil, Region.binds, if_true, true_and, and_true, Nat.reduceAdd, List.getElem?_cons_zero, List.getElem?_cons_succ, Option.bind_some, Array.getD_eq_getD_getElem?] at hp
      clear hs
      obtain ⟨s2, e2, hx2, hx2'⟩ := hp
      go_simp
      go_at_call 46
      refine (grid_some _ _).mono ?_
      rintro e w' ⟨rfl, rfl⟩
      exact hK.out _ _ (Fr.refl _ _) ⟨s2, rfl, hx2, hx2'⟩
    · intro ac wx hf hs hp K hK
      simp only [waits, holdsA, nth, Is, Any, List.filter_cons, List.filter_nil, List.map_cons, List.map_nil, Region.binds, if_true, true_and, and_true, Nat.reduceAdd, List.getElem?_cons_zero, List.getElem?_cons_succ, Option.bind_some, Array.getD_eq_getD_getElem?] at hp
      have hs5 := hs 5 (by kernel_rfl)
      simp only [Array.getD_eq_getD_getElem?, List.getElem?_toArray, List.getElem?_cons_succ, List.getElem?_cons_zero, Option.getD_some] at hs5
      clear hs
      clear hf
      (try simp only [hp])
      go_simp
      try dsimp only
      refine hK.out _ _ ?_ ?_
      · ((repeat (first | (with_reducible exact Fr.refl _ _) | (with_reducible assumption) | (with_reducible refine Fr.drew ?_) | (with_reducible refine Fr.drewN ?_ _) | (with_reducible refine Fr.alloc ?_ _) | (with_reducible refine Fr.setL ?_ _ _ _ ?_) | (focus (refine Or.inl ?_; simp; done)) | (focus (refine Or.inr ?_; simp; done)) | (focus (refine Or.inr ?_; simp; omega)) | (focus (refine Or.inr ?_; omega)))); done)
      · simp only [nth]
        first | (unfold Is; rfl) | (unfold Any; exact trivial) | exact IsSl.new _ _ _ _ | assumption
  case hD =>
    intro x wx hf hp
    simp only [fill, List.setIfInBounds_toArray, List.set_cons_zero, List.set_cons_succ, Nat.reduceAdd, Act.put]
    simp only [List.length_cons, List.length_nil, Nat.reduceAdd, List.range_eq_range', List.range'_succ, List.range'_zero, Nat.zero_add, Nat.add_zero, holds, nth, Is, Any, true_and, and_true] at hp
    obtain ⟨x0, -, x2, -, ⟨s1, x4, hI, hn⟩, x5⟩ := hp
    simp only [x0, x2, x4, x5]
    clear x0 x2 x4 x5 k3
    go_simp
    go_at_call 47
    refine (grid_answers1 w0 wx g cap bs _ b2 b3 p0 p1 p2 p3 p4 p0 19 s1 ⟨some ⟨b5, 0, none⟩, 1, 1⟩ [20, 19] [31] ⟨hT.is.fr hf, hT.fr.tr0 hf⟩ (h2.fr hf (by simp)) (h3.fr hf (by simp)) h2n h3n hp0a hp0b (by decide) (by decide) hI (Ints.newAt (l := [31]) (h5.fr hf (by simp)) (by decide) rfl (Fr.refl _ _)) hn (fun A n c e => by cases e; exact h5n) (by decide) (by decide) hp3).mono ?_
    rintro r w3 ⟨rfl, hT3, f3⟩
    have h2 := (h2.fr hf (by simp)).fr f3 h2n
    have h3 := (h3.fr hf (by simp)).fr f3 h3n
    have h5 := (h5.fr hf (by simp)).fr f3 h5n
    clear hT hT2 hf f3 hI hn
    go_wp2
    have hT := hT3
    have k3 : ∀ wx, Fr [] w3 wx → wx.cell? ⟨b3, 0, none⟩ = some (.int .i64 p0) := fun wx hf => hf.cell (h3.cell 0 rfl) (by simp)
    refine wp_region_keepsL [] [Is (.func (.func 47) #[] #[.pointer (some ⟨b2, 0, none⟩), .pointer (some ⟨b3, 0, none⟩)]), Is (.pointer (some ⟨b3, 0, none⟩)), Is (.int .i64 p0), IsN (tbL bs) [19, 21, 17], IsN (tbL bs) [19, 21, 17]] 5 rfl rfl (by kernel_rfl) (by kernel_rfl) (by kernel_rfl) (by kernel_rfl) (by kernel_rfl) ?hV ?hS ?hD
    case hV =>
      repeat (first | exact trivial | exact Is.keeps _ | exact Any.keeps | exact IsSl.keeps _ _ _ | exact IsN.keeps _ _ | refine And.intro ?_ ?_)
    case hS =>
      (repeat' (first | exact trivial | refine And.intro ?_ ?_))
      · intro ac wx hf hs hp K hK
        simp only [waits, holdsA, nth, Is, Any, List.filter_cons, List.filter_nil, List.map_cons, List.map_nil, Region.binds, if_true, true_and, and_true, Nat.reduceAdd, List.getElem?_cons_zero, List.getElem?_cons_succ, Option.bind_some, Array.getD_eq_getD_getElem?] at hp
        have hs4 := hs 4 (by kernel_rfl)
        simp only [Array.getD_eq_getD_getElem?, List.getElem?_toArray, List.getElem?_cons_succ, List.getElem?_cons_zero, Option.getD_some] at hs4
        clear hs
        clear hf
        (try simp only [hp])
        go_simp
        try dsimp only
        refine hK.out _ _ ?_ ?_
        · ((repeat (first | (with_reducible exact Fr.refl _ _) | (with_reducible assumption) | (with_reducible refine Fr.drew ?_) | (with_reducible refine Fr.drewN ?_ _) | (with_reducible refine Fr.alloc ?_ _) | (with_reducible refine Fr.setL ?_ _ _ _ ?_) | (focus (refine Or.inl ?_; simp; done)) | (focus (refine Or.inr ?_; simp; done)) | (focus (refine Or.inr ?_; simp; omega)) | (focus (refine Or.inr ?_; omega)))); done)
        · simp only [nth]
          first | (unfold Is; rfl) | (unfold Any; exact trivial) | exact IsSl.new _ _ _ _ | assumption
      · intro ac wx hf hs hp K hK
        simp only [waits, holdsA, nth, Is, Any, List.filter_cons, List.filter_nil, List.map_cons, List.map_nil, Region.binds, if_true, true_and, and_true, Nat.reduceAdd, List.getElem?_cons_zero, List.getElem?_cons_succ, Option.bind_some, Array.getD_eq_getD_getElem?] at hp
        have hs3 := hs 3 (by kernel_rfl)
        simp only [Array.getD_eq_getD_getElem?, List.getElem?_toArray, List.getElem?_cons_succ, List.getElem?_cons_zero, Option.getD_some] at hs3
        clear hs
        clear hf
        (try simp only [hp])
        go_simp
        try dsimp only
        refine hK.out _ _ ?_ ?_
        · ((repeat (first | (with_reducible exact Fr.refl _ _) | (with_reducible assumption) | (with_reducible refine Fr.drew ?_) | (with_reducible refine Fr.drewN ?_ _) | (with_reducible refine Fr.alloc ?_ _) | (with_reducible refine Fr.setL ?_ _ _ _ ?_) | (focus (refine Or.inl ?_; simp; done)) | (focus (refine Or.inr ?_; simp; done)) | (focus (refine Or.inr ?_; simp; omega)) | (focus (refine Or.inr ?_; omega)))); done)
        · simp only [nth]
          first | (unfold Is; rfl) | (unfold Any; exact trivial) | exact IsSl.new _ _ _ _ | assumption
      · intro ac wx hf hs hp K hK
        simp only [waits, holdsA, nth, Is, Any, List.filter_cons, List.filter_nil, List.map_cons, List.map_nil, Region.binds, if_true, true_and, and_true, Nat.reduceAdd, List.getElem?_cons_zero, List.getElem?_cons_succ, Option.bind_some, Array.getD_eq_getD_getElem?] at hp
        clear hs
        have cx := k3 wx hf
        clear hf
        (try simp only [hp])
        go_simp
        try dsimp only
        refine hK.out _ _ ?_ ?_
        · ((repeat (first | (with_reducible exact Fr.refl _ _) | (with_reducible assumption) | (with_reducible refine Fr.drew ?_) | (with_reducible refine Fr.drewN ?_ _) | (with_reducible refine Fr.alloc ?_ _) | (with_reducible refine Fr.setL ?_ _ _ _ ?_) | (focus (refine Or.inl ?_; simp; done)) | (focus (refine Or.inr ?_; simp; done)) | (focus (refine Or.inr ?_; simp; omega)) | (focus (refine Or.inr ?_; omega)))); done)
        · simp only [nth]
          first | (unfold Is; rfl) | (unfold Any; exact trivial) | exact IsSl.new _ _ _ _ | assumption
      · intro ac wx hf hs hp K hK
        simp only [waits, holdsA, nth, Is, Any, List.filter_cons, List.filter_nil, List.map_cons, List.map_nil, Region.binds, if_true, true_and, and_true, Nat.reduceAdd, List.getElem?_cons_zero, List.getElem?_cons_succ, Option.bind_some, Array.getD_eq_getD_getElem?] at hp
        clear hs
        go_simp
        refine hK.out _ _ ((Fr.refl _ _).alloc _) ?_
        exact ⟨⟨_, 3, 3⟩, rfl, Ints.newAt (l := [19, 21, 17]) (Blk.new _ _ _) (by decide) rfl (Fr.refl _ _), fun A n c e hm => by cases e; have h9 : wx.heap.size < _ := hT.is.lt _ hm; have := hf.size; omega⟩
      · intro ac wx hf hs hp K hK
        simp only [waits, holdsA, nth, Is, Any, List.filter_cons, List.filter_nil, List.map_cons, List.map_nil, Region.binds, if_true, true_and, and_true, Nat.reduceAdd, List.getElem?_cons_zero, List.getElem?_cons_succ, Option.bind_some, Array.getD_eq_getD_getElem?] at hp
        clear hs
        obtain ⟨s2, e2, hx2, hx2'⟩ := hp
        go_simp
        go_at_call 46
        refine (grid_some _ _).mono ?_
        rintro e w' ⟨rfl, rfl⟩
        exact hK.out _ _ (Fr.refl _ _) ⟨s2, rfl, hx2, hx2'⟩
    case hD =>
      intro x wx hf hp
      simp only [fill, List.setIfInBounds_toArray, List.set_cons_zero, List.set_cons_succ, Nat.reduceAdd, Act.put]
      simp only [List.length_cons, List.length_nil, Nat.reduceAdd, List.range_eq_range', List.range'_succ, List.range'_zero, Nat.zero_add, Nat.add_zero, holds, nth, Is, Any, true_and, and_true] at hp
      obtain ⟨x0, -, x2, -, s1, x4, hI, hn⟩ := hp
      simp only [x0, x2, x4]
      clear x0 x2 x4 k3
      go_simp
      go_at_call 47
      refine (grid_answers1 w0 wx g cap bs _ b2 b3 p0 p1 p2 p3 p4 p0 22 s1 Sl.nil [19, 21, 17] [] ⟨hT.is.fr hf, hT.fr.tr0 hf⟩ (h2.fr hf (by simp)) (h3.fr hf (by simp)) h2n h3n hp0a hp0b (by decide) (by decide) hI (Ints.nil _ _) hn (fun A n c e => by cases e) (by decide) (by decide) hp3).mono ?_
      rintro r w4 ⟨rfl, hT4, f4⟩
      have h2 := (h2.fr hf (by simp)).fr f4 h2n
      have h3 := (h3.fr hf (by simp)).fr f4 h3n
      have h5 := (h5.fr hf (by simp)).fr f4 h5n
      clear hT hT3 hf f4 hI hn
      go_wp2
      have hT := hT4
      have k3 : ∀ wx, Fr [] w4 wx → wx.cell? ⟨b3, 0, none⟩ = some (.int .i64 p0) := fun wx hf => hf.cell (h3.cell 0 rfl) (by simp)
      refine wp_region_keepsL [] [Is (.func (.func 47) #[] #[.pointer (some ⟨b2, 0, none⟩), .pointer (some ⟨b3, 0, none⟩)]), Is (.pointer (some ⟨b3, 0, none⟩)), Is (.int .i64 p0), IsN (tbL bs) [20, 19, 22, 34], IsN (tbL bs) [20, 19, 22, 34], Is (.slice (some ⟨b5, 0, none⟩) 1 1)] 6 rfl rfl (by kernel_rfl) (by kernel_rfl) (by kernel_rfl) (by kernel_rfl) (by kernel_rfl) ?hV ?hS ?hD
      case hV =>
        repeat (first | exact trivial | exact Is.keeps _ | exact Any.keeps | exact IsSl.keeps _ _ _ | exact IsN.keeps _ _ | refine And.intro ?_ ?_)
      case hS =>
        (repeat' (first | exact trivial | refine And.intro ?_ ?_))
        · intro ac wx hf hs hp K hK
          simp only [waits, holdsA, nth, Is, Any, List.filter_cons, List.filter_nil, List.map_cons, List.map_nil, Region.binds, if_true, true_and, and_true, Nat.reduceAdd, List.getElem?_cons_zero, List.getElem?_cons_succ, Option.bind_some, Array.getD_eq_getD_getElem?] at hp
          have hs4 := hs 4 (by kernel_rfl)
          simp only [Array.getD_eq_getD_getElem?, List.getElem?_toArray, List.getElem?_cons_succ, List.getElem?_cons_zero, Option.getD_some] at hs4
          clear hs
          clear hf
          (try simp only [hp])
          go_simp
          try dsimp only
          refine hK.out _ _ ?_ ?_
          · ((repeat (first | (with_reducible exact Fr.refl _ _) | (with_reducible assumption) | (with_reducible refine Fr.drew ?_) | (with_reducible refine Fr.drewN ?_ _) | (with_reducible refine Fr.alloc ?_ _) | (with_reducible refine Fr.setL ?_ _ _ _ ?_) | (focus (refine Or.inl ?_; simp; done)) | (focus (refine Or.inr ?_; simp; done)) | (focus (refine Or.inr ?_; simp; omega)) | (focus (refine Or.inr ?_; omega)))); done)
          · simp only [nth]
            first | (unfold Is; rfl) | (unfold Any; exact trivial) | exact IsSl.new _ _ _ _ | assumption
        · intro ac wx hf hs hp K hK
          simp only [waits, holdsA, nth, Is, Any, List.filter_cons, List.filter_nil, List.map_cons, List.map_nil, Region.binds, if_true, true_and, and_true, Nat.reduceAdd, List.getElem?_cons_zero, List.getElem?_cons_succ, Option.bind_some, Array.getD_eq_getD_getElem?] at hp
          have hs3 := hs 3 (by kernel_rfl)
          simp only [Array.getD_eq_getD_getElem?, List.getElem?_toArray, List.getElem?_cons_succ, List.getElem?_cons_zero, Option.getD_some] at hs3
          clear hs
          clear hf
          (try simp only [hp])
          go_simp
          try dsimp only
          refine hK.out _ _ ?_ ?_
          · ((repeat (first | (with_reducible exact Fr.refl _ _) | (with_reducible assumption) | (with_reducible refine Fr.drew ?_) | (with_reducible refine Fr.drewN ?_ _) | (with_reducible refine Fr.alloc ?_ _) | (with_reducible refine Fr.setL ?_ _ _ _ ?_) | (focus (refine Or.inl ?_; simp; done)) | (focus (refine Or.inr ?_; simp; done)) | (focus (refine Or.inr ?_; simp; omega)) | (focus (refine Or.inr ?_; omega)))); done)
          · simp only [nth]
            first | (unfold Is; rfl) | (unfold Any; exact trivial) | exact IsSl.new _ _ _ _ | assumption
        · intro ac wx hf hs hp K hK
          simp only [waits, holdsA, nth, Is, Any, List.filter_cons, List.filter_nil, List.map_cons, List.map_nil, Region.binds, if_true, true_and, and_true, Nat.reduceAdd, List.getElem?_cons_zero, List.getElem?_cons_succ, Option.bind_some, Array.getD_eq_getD_getElem?] at hp
          clear hs
          have cx := k3 wx hf
          clear hf
          (try simp only [hp])
          go_simp
          try dsimp only
          refine hK.out _ _ ?_ ?_
          · ((repeat (first | (with_reducible exact Fr.refl _ _) | (with_reducible assumption) | (with_reducible refine Fr.drew ?_) | (with_reducible refine Fr.drewN ?_ _) | (with_reducible refine Fr.alloc ?_ _) | (with_reducible refine Fr.setL ?_ _ _ _ ?_) | (focus (refine Or.inl ?_; simp; done)) | (focus (refine Or.inr ?_; simp; done)) | (focus (refine Or.inr ?_; simp; omega)) | (focus (refine Or.inr ?_; omega)))); done)
          · simp only [nth]
            first | (unfold Is; rfl) | (unfold Any; exact trivial) | exact IsSl.new _ _ _ _ | assumption
        · intro ac wx hf hs hp K hK
          simp only [waits, holdsA, nth, Is, Any, List.filter_cons, List.filter_nil, List.map_cons, List.map_nil, Region.binds, if_true, true_and, and_true, Nat.reduceAdd, List.getElem?_cons_zero, List.getElem?_cons_succ, Option.bind_some, Array.getD_eq_getD_getElem?] at hp
          clear hs
          go_simp
          refine hK.out _ _ ((Fr.refl _ _).alloc _) ?_
          exact ⟨⟨_, 4, 4⟩, rfl, Ints.newAt (l := [20, 19, 22, 34]) (Blk.new _ _ _) (by decide) rfl (Fr.refl _ _), fun A n c e hm => by cases e; have h9 : wx.heap.size < _ := hT.is.lt _ hm; have := hf.size; omega⟩
        · intro ac wx hf hs hp K hK
          simp only [waits, holdsA, nth, Is, Any, List.filter_cons, List.filter_nil, List.map_cons, List.map_nil, Region.binds, if_true, true_and, and_true, Nat.reduceAdd, List.getElem?_cons_zero, List.getElem?_cons_succ, Option.bind_some, Array.getD_eq_getD_getElem?] at hp
          clear hs
          obtain ⟨s2, e2, hx2, hx2'⟩ := hp
          go_simp
          go_at_call 46
          refine (grid_some _ _).mono ?_
          rintro e w' ⟨rfl, rfl⟩
          exact hK.out _ _ (Fr.refl _ _) ⟨s2, rfl, hx2, hx2'⟩
        · intro ac wx hf hs hp K hK
          simp only [waits, holdsA, nth, Is, Any, List.filter_cons, List.filter_nil, List.map_cons, List.map_nil, Region.binds, if_true, true_and, and_true, Nat.reduceAdd, List.getElem?_cons_zero, List.getElem?_cons_succ, Option.bind_some, Array.getD_eq_getD_getElem?] at hp
          have hs5 := hs 5 (by kernel_rfl)
          simp only [Array.getD_eq_getD_getElem?, List.getElem?_toArray, List.getElem?_cons_succ, List.getElem?_cons_zero, Option.getD_some] at hs5
          clear hs
          clear hf
          (try simp only [hp])
          go_simp
          try dsimp only
          refine hK.out _ _ ?_ ?_
          · ((repeat (first | (with_reducible exact Fr.refl _ _) | (with_reducible assumption) | (with_reducible refine Fr.drew ?_) | (with_reducible refine Fr.drewN ?_ _) | (with_reducible refine Fr.alloc ?_ _) | (with_reducible refine Fr.setL ?_ _ _ _ ?_) | (focus (refine Or.inl ?_; simp; done)) | (focus (refine Or.inr ?_; simp; done)) | (focus (refine Or.inr ?_; simp; omega)) | (focus (refine Or.inr ?_; omega)))); done)
          · simp only [nth]
            first | (unfold Is; rfl) | (unfold Any; exact trivial) | exact IsSl.new _ _ _ _ | assumption
      case hD =>
        intro x wx hf hp
        simp only [fill, List.setIfInBounds_toArray, List.set_cons_zero, List.set_cons_succ, Nat.reduceAdd, Act.put]
        simp only [List.length_cons, List.length_nil, Nat.reduceAdd, List.range_eq_range', List.range'_succ, List.range'_zero, Nat.zero_add, Nat.add_zero, holds, nth, Is, Any, true_and, and_true] at hp
        obtain ⟨x0, -, x2, -, ⟨s1, x4, hI, hn⟩, x5⟩ := hp
        simp only [x0, x2, x4, x5]
        clear x0 x2 x4 x5 k3
        go_simp
        go_at_call 47
        refine (grid_answers1 w0 wx g cap bs _ b2 b3 p0 p1 p2 p3 p4 p0 25 s1 ⟨some ⟨b5, 0, none⟩, 1, 1⟩ [20, 19, 22, 34] [31] ⟨hT.is.fr hf, hT.fr.tr0 hf⟩ (h2.fr hf (by simp)) (h3.fr hf (by simp)) h2n h3n hp0a hp0b (by decide) (by decide) hI (Ints.newAt (l := [31]) (h5.fr hf (by simp)) (by decide) rfl (Fr.refl _ _)) hn (fun A n c e => by cases e; exact h5n) (by decide) (by decide) hp3).mono ?_
        rintro r w5 ⟨rfl, hT5, f5⟩
        have h2 := (h2.fr hf (by simp)).fr f5 h2n
        have h3 := (h3.fr hf (by simp)).fr f5 h3n
        have h5 := (h5.fr hf (by simp)).fr f5 h5n
        clear hT hT4 hf f5 hI hn
        go_wp2
        have hT := hT5
        have k3 : ∀ wx, Fr [] w5 wx → wx.cell? ⟨b3, 1, none⟩ = some (.int .i64 p1) := fun wx hf => hf.cell (h3.cell 1 rfl) (by simp)
        refine wp_region_keepsL [] [Is (.func (.func 47) #[] #[.pointer (some ⟨b2, 0, none⟩), .pointer (some ⟨b3, 0, none⟩)]), Is (.pointer (some ⟨b3, 1, none⟩)), Is (.int .i64 p1), IsN (tbL bs) [20, 19], IsN (tbL bs) [20, 19]] 5 rfl rfl (by kernel_rfl) (by kernel_rfl) (by kernel_rfl) (by kernel_rfl) (by kernel_rfl) ?hV ?hS ?hD
        case hV =>
          repeat (first | exact trivial | exact Is.keeps _ | exact Any.keeps | exact IsSl.keeps _ _ _ | exact IsN.keeps _ _ | refine And.intro ?_ ?_)
        case hS =>
          (repeat' (first | exact trivial | refine And.intro ?_ ?_))
          · intro ac wx hf hs hp K hK
            simp only [waits, holdsA, nth, Is, Any, List.filter_cons, List.filter_nil, List.map_cons, List.map_nil, Region.binds, if_true, true_and, and_true, Nat.reduceAdd, List.getElem?_cons_zero, List.getElem?_cons_succ, Option.bind_some, Array.getD_eq_getD_getElem?] at hp
            have hs4 := hs 4 (by kernel_rfl)
            simp only [Array.getD_eq_getD_getElem?, List.getElem?_toArray, List.getElem?_cons_succ, List.getElem?_cons_zero, Option.getD_some] at hs4
            clear hs
            clear hf
            (try simp only [hp])
            go_simp
            try dsimp only
            refine hK.out _ _ ?_ ?_
            · ((repeat (first | (with_reducible exact Fr.refl _ _) | (with_reducible assumption) | (with_reducible refine Fr.drew ?_) | (with_reducible refine Fr.drewN ?_ _) | (with_reducible refine Fr.alloc ?_ _) | (with_reducible refine Fr.setL ?_ _ _ _ ?_) | (focus (refine Or.inl ?_; simp; done)) | (focus (refine Or.inr ?_; simp; done)) | (focus (refine Or.inr ?_; simp; omega)) | (focus (refine Or.inr ?_; omega)))); done)
            · simp only [nth]
              first | (unfold Is; rfl) | (unfold Any; exact trivial) | exact IsSl.new _ _ _ _ | assumption
          · intro ac wx hf hs hp K hK
            simp only [waits, holdsA, nth, Is, Any, List.filter_cons, List.filter_nil, List.map_cons, List.map_nil, Region.binds, if_true, true_and, and_true, Nat.reduceAdd, List.getElem?_cons_zero, List.getElem?_cons_succ, Option.bind_some, Array.getD_eq_getD_getElem?] at hp
            have hs3 := hs 3 (by kernel_rfl)
            simp only [Array.getD_eq_getD_getElem?, List.getElem?_toArray, List.getElem?_cons_succ, List.getElem?_cons_zero, Option.getD_some] at hs3
            clear hs
            clear hf
            (try simp only [hp])
            go_simp
            try dsimp only
            refine hK.out _ _ ?_ ?_
            · ((repeat (first | (with_reducible exact Fr.refl _ _) | (with_reducible assumption) | (with_reducible refine Fr.drew ?_) | (with_reducible refine Fr.drewN ?_ _) | (with_reducible refine Fr.alloc ?_ _) | (with_reducible refine Fr.setL ?_ _ _ _ ?_) | (focus (refine Or.inl ?_; simp; done)) | (focus (refine Or.inr ?_; simp; done)) | (focus (refine Or.inr ?_; simp; omega)) | (focus (refine Or.inr ?_; omega)))); done)
            · simp only [nth]
              first | (unfold Is; rfl) | (unfold Any; exact trivial) | exact IsSl.new _ _ _ _ | assumption
          · intro ac wx hf hs hp K hK
            simp only [waits, holdsA, nth, Is, Any, List.filter_cons, List.filter_nil, List.map_cons, List.map_nil, Region.binds, if_true, true_and, and_true, Nat.reduceAdd, List.getElem?_cons_zero, List.getElem?_cons_succ, Option.bind_some, Array.getD_eq_getD_getElem?] at hp
            clear hs
            have cx := k3 wx hf
            clear hf
            (try simp only [hp])
            go_simp
            try dsimp only
            refine hK.out _ _ ?_ ?_
            · ((repeat (first | (with_reducible exact Fr.refl _ _) | (with_reducible assumption) | (with_reducible refine Fr.drew ?_) | (with_reducible refine Fr.drewN ?_ _) | (with_reducible refine Fr.alloc ?_ _) | (with_reducible refine Fr.setL ?_ _ _ _ ?_) | (focus (refine Or.inl ?_; simp; done)) | (focus (refine Or.inr ?_; simp; done)) | (focus (refine Or.inr ?_; simp; omega)) | (focus (refine Or.inr ?_; omega)))); done)
            · simp only [nth]
              first | (unfold Is; rfl) | (unfold Any; exact trivial) | exact IsSl.new _ _ _ _ | assumption
          · intro ac wx hf hs hp K hK
            simp only [waits, holdsA, nth, Is, Any, List.filter_cons, List.filter_nil, List.map_cons, List.map_nil, Region.binds, if_true, true_and, and_true, Nat.reduceAdd, List.getElem?_cons_zero, List.getElem?_cons_succ, Option.bind_some, Array.getD_eq_getD_getElem?] at hp
            clear hs
            go_simp
            refine hK.out _ _ ((Fr.refl _ _).alloc _) ?_
            exact ⟨⟨_, 2, 2⟩, rfl, Ints.newAt (l := [20, 19]) (Blk.new _ _ _) (by decide) rfl (Fr.refl _ _), fun A n c e hm => by cases e; have h9 : wx.heap.size < _ := hT.is.lt _ hm; have := hf.size; omega⟩
          · intro ac wx hf hs hp K hK
            simp only [waits, holdsA, nth, Is, Any, List.filter_cons, List.filter_nil, List.map_cons, List.map_nil, Region.binds, if_true, true_and, and_true, Nat.reduceAdd, List.getElem?_cons_zero, List.getElem?_cons_succ, Option.bind_some, Array.getD_eq_getD_getElem?] at hp
            clear hs
            obtain ⟨s2, e2, hx2, hx2'⟩ := hp
            go_simp
            go_at_call 46
            refine (grid_some _ _).mono ?_
            rintro e w' ⟨rfl, rfl⟩
            exact hK.out _ _ (Fr.refl _ _) ⟨s2, rfl, hx2, hx2'⟩
        case hD =>
          intro x wx hf hp
          simp only [fill, List.setIfInBounds_toArray, List.set_cons_zero, List.set_cons_succ, Nat.reduceAdd, Act.put]
          simp only [List.length_cons, List.length_nil, Nat.reduceAdd, List.range_eq_range', List.range'_succ, List.range'_zero, Nat.zero_add, Nat.add_zero, holds, nth, Is, Any, true_and, and_true] at hp
          obtain ⟨x0, -, x2, -, s1, x4, hI, hn⟩ := hp
          simp only [x0, x2, x4]
          clear x0 x2 x4 k3
          go_simp
          go_at_call 47
          refine (grid_answers1 w0 wx g cap bs _ b2 b3 p0 p1 p2 p3 p4 p1 19 s1 Sl.nil [20, 19] [] ⟨hT.is.fr hf, hT.fr.tr0 hf⟩ (h2.fr hf (by simp)) (h3.fr hf (by simp)) h2n h3n hp1a hp1b (by decide) (by decide) hI (Ints.nil _ _) hn (fun A n c e => by cases e) (by decide) (by decide) hp3).mono ?_
          rintro r w6 ⟨rfl, hT6, f6⟩
          have h2 := (h2.fr hf (by simp)).fr f6 h2n
          have h3 := (h3.fr hf (by simp)).fr f6 h3n
          have h5 := (h5.fr hf (by simp)).fr f6 h5n
          clear hT hT5 hf f6 hI hn
          go_wp2
          have hT := hT6
          have k3 : ∀ wx, Fr [] w6 wx → wx.cell? ⟨b3, 1, none⟩ = some (.int .i64 p1) := fun wx hf => hf.cell (h3.cell 1 rfl) (by simp)
          refine wp_region_keepsL [] [Is (.func (.func 47) #[] #[.pointer (some ⟨b2, 0, none⟩), .pointer (some ⟨b3, 0, none⟩)]), Is (.pointer (some ⟨b3, 1, none⟩)), Is (.int .i64 p1), IsN (tbL bs) [19, 21], IsN (tbL bs) [19, 21]] 5 rfl rfl (by kernel_rfl) (by kernel_rfl) (by kernel_rfl) (by kernel_rfl) (by kernel_rfl) ?hV ?hS ?hD
          case hV =>
            repeat (first | exact trivial | exact Is.keeps _ | exact Any.keeps | exact IsSl.keeps _ _ _ | exact IsN.keeps _ _ | refine And.intro ?_ ?_)
          case hS =>
            (repeat' (first | exact trivial | refine And.intro ?_ ?_))
            · intro ac wx hf hs hp K hK
              simp only [waits, holdsA, nth, Is, Any, List.filter_cons, List.filter_nil, List.map_cons, List.map_nil, Region.binds, if_true, true_and, and_true, Nat.reduceAdd, List.getElem?_cons_zero, List.getElem?_cons_succ, Option.bind_some, Array.getD_eq_getD_getElem?] at hp
              have hs4 := hs 4 (by kernel_rfl)
              simp only [Array.getD_eq_getD_getElem?, List.getElem?_toArray, List.getElem?_cons_succ, List.getElem?_cons_zero, Option.getD_some] at hs4
              clear hs
              clear hf
              (try simp only [hp])
              go_simp
              try dsimp only
              refine hK.out _ _ ?_ ?_
              · ((repeat (first | (with_reducible exact Fr.refl _ _) | (with_reducible assumption) | (with_reducible refine Fr.drew ?_) | (with_reducible refine Fr.drewN ?_ _) | (with_reducible refine Fr.alloc ?_ _) | (with_reducible refine Fr.setL ?_ _ _ _ ?_) | (focus (refine Or.inl ?_; simp; done)) | (focus (refine Or.inr ?_; simp; done)) | (focus (refine Or.inr ?_; simp; omega)) | (focus (refine Or.inr ?_; omega)))); done)
              · simp only [nth]
                first | (unfold Is; rfl) | (unfold Any; exact trivial) | exact IsSl.new _ _ _ _ | assumption
            · intro ac wx hf hs hp K hK
              simp only [waits, holdsA, nth, Is, Any, List.filter_cons, List.filter_nil, List.map_cons, List.map_nil, Region.binds, if_true, true_and, and_true, Nat.reduceAdd, List.getElem?_cons_zero, List.getElem?_cons_succ, Option.bind_some, Array.getD_eq_getD_getElem?] at hp
              have hs3 := hs 3 (by kernel_rfl)
              simp only [Array.getD_eq_getD_getElem?, List.getElem?_toArray, List.getElem?_cons_succ, List.getElem?_cons_zero, Option.getD_some] at hs3
              clear hs
              clear hf
              (try simp only [hp])
              go_simp
              try dsimp only
              refine hK.out _ _ ?_ ?_
              · ((repeat (first | (with_reducible exact Fr.refl _ _) | (with_reducible assumption) | (with_reducible refine Fr.drew ?_) | (with_reducible refine Fr.drewN ?_ _) | (with_reducible refine Fr.alloc ?_ _) | (with_reducible refine Fr.setL ?_ _ _ _ ?_) | (focus (refine Or.inl ?_; simp; done)) | (focus (refine Or.inr ?_; simp; done)) | (focus (refine Or.inr ?_; simp; omega)) | (focus (refine Or.inr ?_; omega)))); done)
              · simp only [nth]
                first | (unfold Is; rfl) | (unfold Any; exact trivial) | exact IsSl.new _ _ _ _ | assumption
            · intro ac wx hf hs hp K hK
              simp only [waits, holdsA, nth, Is, Any, List.filter_cons, List.filter_nil, List.map_cons, List.map_nil, Region.binds, if_true, true_and, and_true, Nat.reduceAdd, List.getElem?_cons_zero, List.getElem?_cons_succ, Option.bind_some, Array.getD_eq_getD_getElem?] at hp
              clear hs
              have cx := k3 wx hf
              clear hf
              (try simp only [hp])
              go_simp
              try dsimp only
              refine hK.out _ _ ?_ ?_
              · ((repeat (first | (with_reducible exact Fr.refl _ _) | (with_reducible assumption) | (with_reducible refine Fr.drew ?_) | (with_reducible refine Fr.drewN ?_ _) | (with_reducible refine Fr.alloc ?_ _) | (with_reducible refine Fr.setL ?_ _ _ _ ?_) | (focus (refine Or.inl ?_; simp; done)) | (focus (refine Or.inr ?_; simp; done)) | (focus (refine Or.inr ?_; simp; omega)) | (focus (refine Or.inr ?_; omega)))); done)
              · simp only [nth]
                first | (unfold Is; rfl) | (unfold Any; exact trivial) | exact IsSl.new _ _ _ _ | assumption
            · intro ac wx hf hs hp K hK
              simp only [waits, holdsA, nth, Is, Any, List.filter_cons, List.filter_nil, List.map_cons, List.map_nil, Region.binds, if_true, true_and, and_true, Nat.reduceAdd, List.getElem?_cons_zero, List.getElem?_cons_succ, Option.bind_some, Array.getD_eq_getD_getElem?] at hp
              clear hs
              go_simp
              refine hK.out _ _ ((Fr.refl _ _).alloc _) ?_
              exact ⟨⟨_, 2, 2⟩, rfl, Ints.newAt (l := [19, 21]) (Blk.new _ _ _) (by decide) rfl (Fr.refl _ _), fun A n c e hm => by cases e; have h9 : wx.heap.size < _ := hT.is.lt _ hm; have := hf.size; omega⟩
            · intro ac wx hf hs hp K hK
              simp only [waits, holdsA, nth, Is, Any, List.filter_cons, List.filter_nil, List.map_cons, List.map_nil, Region.binds, if_true, true_and, and_true, Nat.reduceAdd, List.getElem?_cons_zero, List.getElem?_cons_succ, Option.bind_some, Array.getD_eq_getD_getElem?] at hp
              clear hs
              obtain ⟨s2, e2, hx2, hx2'⟩ := hp
              go_simp
              go_at_call 46
              refine (grid_some _ _).mono ?_
              rintro e w' ⟨rfl, rfl⟩
              exact hK.out _ _ (Fr.refl _ _) ⟨s2, rfl, hx2, hx2'⟩
          case hD =>
            intro x wx hf hp
            simp only [fill, List.setIfInBounds_toArray, List.set_cons_zero, List.set_cons_succ, Nat.reduceAdd, Act.put]
            simp only [List.length_cons, List.length_nil, Nat.reduceAdd, List.range_eq_range', List.range'_succ, List.range'_zero, Nat.zero_add, Nat.add_zero, holds, nth, Is, Any, true_and, and_true] at hp
            obtain ⟨x0, -, x2, -, s1, x4, hI, hn⟩ := hp
            simp only [x0, x2, x4]
            clear x0 x2 x4 k3
            go_simp
            go_at_call 47
            refine (grid_answers1 w0 wx g cap bs _ b2 b3 p0 p1 p2 p3 p4 p1 22 s1 Sl.nil [19, 21] [] ⟨hT.is.fr hf, hT.fr.tr0 hf⟩ (h2.fr hf (by simp)) (h3.fr hf (by simp)) h2n h3n hp1a hp1b (by decide) (by decide) hI (Ints.nil _ _) hn (fun A n c e => by cases e) (by decide) (by decide) hp3).mono ?_
            rintro r w7 ⟨rfl, hT7, f7⟩
            have h2 := (h2.fr hf (by simp)).fr f7 h2n
            have h3 := (h3.fr hf (by simp)).fr f7 h3n
            have h5 := (h5.fr hf (by simp)).fr f7 h5n
            clear hT hT6 hf f7 hI hn
            go_wp2
            have hT := hT7
            have k3 : ∀ wx, Fr [] w7 wx → wx.cell? ⟨b3, 1, none⟩ = some (.int .i64 p1) := fun wx hf => hf.cell (h3.cell 1 rfl) (by simp)
            refine wp_region_keepsL [] [Is (.func (.func 47) #[] #[.pointer (some ⟨b2, 0, none⟩), .pointer (some ⟨b3, 0, none⟩)]), Is (.pointer (some ⟨b3, 1, none⟩)), Is (.int .i64 p1), IsN (tbL bs) [20, 19], IsN (tbL bs) [20, 19]] 5 rfl rfl (by kernel_rfl) (by kernel_rfl) (by kernel_rfl) (by kernel_rfl) (by kernel_rfl) ?hV ?hS ?hD
            case hV =>
              repeat (first | exact trivial | exact Is.keeps _ | exact Any.keeps | exact IsSl.keeps _ _ _ | exact IsN.keeps _ _ | refine And.intro ?_ ?_)
            case hS =>
              (repeat' (first | exact trivial | refine And.intro ?_ ?_))
              · intro ac wx hf hs hp K hK
                simp only [waits, holdsA, nth, Is, Any, List.filter_cons, List.filter_nil, List.map_cons, List.map_nil, Region.binds, if_true, true_and, and_true, Nat.reduceAdd, List.getElem?_cons_zero, List.getElem?_cons_succ, Option.bind_some, Array.getD_eq_getD_getElem?] at hp
                have hs4 := hs 4 (by kernel_rfl)
                simp only [Array.getD_eq_getD_getElem?, List.getElem?_toArray, List.getElem?_cons_succ, List.getElem?_cons_zero, Option.getD_some] at hs4
                clear hs
                clear hf
                (try simp only [hp])
                go_simp
                try dsimp only
                refine hK.out _ _ ?_ ?_
                · ((repeat (first | (with_reducible exact Fr.refl _ _) | (with_reducible assumption) | (with_reducible refine Fr.drew ?_) | (with_reducible refine Fr.drewN ?_ _) | (with_reducible refine Fr.alloc ?_ _) | (with_reducible refine Fr.setL ?_ _ _ _ ?_) | (focus (refine Or.inl ?_; simp; done)) | (focus (refine Or.inr ?_; simp; done)) | (focus (refine Or.inr ?_; simp; omega)) | (focus (refine Or.inr ?_; omega)))); done)
                · simp only [nth]
                  first | (unfold Is; rfl) | (unfold Any; exact trivial) | exact IsSl.new _ _ _ _ | assumption
              · intro ac wx hf hs hp K hK
                simp only [waits, holdsA, nth, Is, Any, List.filter_cons, List.filter_nil, List.map_cons, List.map_nil, Region.binds, if_true, true_and, and_true, Nat.reduceAdd, List.getElem?_cons_zero, List.getElem?_cons_succ, Option.bind_some, Array.getD_eq_getD_getElem?] at hp
                have hs3 := hs 3 (by kernel_rfl)
                simp only [Array.getD_eq_getD_getElem?, List.getElem?_toArray, List.getElem?_cons_succ, List.getElem?_cons_zero, Option.getD_some] at hs3
                clear hs
                clear hf
                (try simp only [hp])
                go_simp
                try dsimp only
                refine hK.out _ _ ?_ ?_
                · ((repeat (first | (with_reducible exact Fr.refl _ _) | (with_reducible assumption) | (with_reducible refine Fr.drew ?_) | (with_reducible refine Fr.drewN ?_ _) | (with_reducible refine Fr.alloc ?_ _) | (with_reducible refine Fr.setL ?_ _ _ _ ?_) | (focus (refine Or.inl ?_; simp; done)) | (focus (refine Or.inr ?_; simp; done)) | (focus (refine Or.inr ?_; simp; omega)) | (focus (refine Or.inr ?_; omega)))); done)
                · simp only [nth]
                  first | (unfold Is; rfl) | (unfold Any; exact trivial) | exact IsSl.new _ _ _ _ | assumption
              · intro ac wx hf hs hp K hK
                simp only [waits, holdsA, nth, Is, Any, List.filter_cons, List.filter_nil, List.map_cons, List.map_nil, Region.binds, if_true, true_and, and_true, Nat.reduceAdd, List.getElem?_cons_zero, List.getElem?_cons_succ, Option.bind_some, Array.getD_eq_getD_getElem?] at hp
                clear hs
                have cx := k3 wx hf
                clear hf
                (try simp only [hp])
                go_simp
                try dsimp only
                refine hK.out _ _ ?_ ?_
                · ((repeat (first | (with_reducible exact Fr.refl _ _) | (with_reducible assumption) | (with_reducible refine Fr.drew ?_) | (with_reducible refine Fr.drewN ?_ _) | (with_reducible refine Fr.alloc ?_ _) | (with_reducible refine Fr.setL ?_ _ _ _ ?_) | (focus (refine Or.inl ?_; simp; done)) | (focus (refine Or.inr ?_; simp; done)) | (focus (refine Or.inr ?_; simp; omega)) | (focus (refine Or.inr ?_; omega)))); done)
                · simp only [nth]
                  first | (unfold Is; rfl) | (unfold Any; exact trivial) | exact IsSl.new _ _ _ _ | assumption
              · intro ac wx hf hs hp K hK
                simp only [waits, holdsA, nth, Is, Any, List.filter_cons, List.filter_nil, List.map_cons, List.map_nil, Region.binds, if_true, true_and, and_true, Nat.reduceAdd, List.getElem?_cons_zero, List.getElem?_cons_succ, Option.bind_some, Array.getD_eq_getD_getElem?] at hp
                clear hs
                go_simp
                refine hK.out _ _ ((Fr.refl _ _).alloc _) ?_
                exact ⟨⟨_, 2, 2⟩, rfl, Ints.newAt (l := [20, 19]) (Blk.new _ _ _) (by decide) rfl (Fr.refl _ _), fun A n c e hm => by cases e; have h9 : wx.heap.size < _ := hT.is.lt _ hm; have := hf.size; omega⟩
              · intro ac wx hf hs hp K hK
                simp only [waits, holdsA, nth, Is, Any, List.filter_cons, List.filter_nil, List.map_cons, List.map_nil, Region.binds, if_true, true_and, and_true, Nat.reduceAdd, List.getElem?_cons_zero, List.getElem?_cons_succ, Option.bind_some, Array.getD_eq_getD_getElem?] at hp
                clear hs
                obtain ⟨s2, e2, hx2, hx2'⟩ := hp
                go_simp
                go_at_call 46
                refine (grid_some _ _).mono ?_
                rintro e w' ⟨rfl, rfl⟩
                exact hK.out _ _ (Fr.refl _ _) ⟨s2, rfl, hx2, hx2'⟩
            case hD =>
              intro x wx hf hp
              simp only [fill, List.setIfInBounds_toArray, List.set_cons_zero, List.set_cons_succ, Nat.reduceAdd, Act.put]
              simp only [List.length_cons, List.length_nil, Nat.reduceAdd, List.range_eq_range', List.range'_succ, List.range'_zero, Nat.zero_add, Nat.add_zero, holds, nth, Is, Any, true_and, and_true] at hp
              obtain ⟨x0, -, x2, -, s1, x4, hI, hn⟩ := hp
              simp only [x0, x2, x4]
              clear x0 x2 x4 k3
              go_simp
              go_at_call 47
              refine (grid_answers1 w0 wx g cap bs _ b2 b3 p0 p1 p2 p3 p4 p1 25 s1 Sl.nil [20, 19] [] ⟨hT.is.fr hf, hT.fr.tr0 hf⟩ (h2.fr hf (by simp)) (h3.fr hf (by simp)) h2n h3n hp1a hp1b (by decide) (by decide) hI (Ints.nil _ _) hn (fun A n c e => by cases e) (by decide) (by decide) hp3).mono ?_
              rintro r w8 ⟨rfl, hT8, f8⟩
              have h2 := (h2.fr hf (by simp)).fr f8 h2n
              have h3 := (h3.fr hf (by simp)).fr f8 h3n
              have h5 := (h5.fr hf (by simp)).fr f8 h5n
              clear hT hT7 hf f8 hI hn
              have c2 : w8.cell? ⟨b2, 0, none⟩ = some (.slice (some ⟨g, 0, none⟩) 14 cap) := h2.cell 0 rfl
              have d0 : w8.cell? ⟨b3, 0, none⟩ = some (.int .i64 p0) := h3.cell 0 rfl
              have d1 : w8.cell? ⟨b3, 1, none⟩ = some (.int .i64 p1) := h3.cell 1 rfl
              have d2 : w8.cell? ⟨b3, 2, none⟩ = some (.int .i64 p2) := h3.cell 2 rfl
              have d3 : w8.cell? ⟨b3, 3, none⟩ = some (.int .i64 p3) := h3.cell 3 rfl
              have d4 : w8.cell? ⟨b3, 4, none⟩ = some (.int .i64 p4) := h3.cell 4 rfl
              go_wp2_with fail
              clear c2 d0 d1 d2 d3 d4
              refine (lay_new (w := w8) [31] hT8 ((Fr.refl _ _).alloc _) hp0a hp0b (by decide) (by decide) (Blk.newAt _ _ _ _ (by simp)) (by simp) (by decide) rfl).mono ?_
              rintro r w9 ⟨rfl, hT9, f9⟩
              have h2 := (h2.alloc _).fr f9 h2n
              have h3 := (h3.alloc _).fr f9 h3n
              have h5 := (h5.alloc _).fr f9 h5n
              clear hT8 f9
              have c2 : w9.cell? ⟨b2, 0, none⟩ = some (.slice (some ⟨g, 0, none⟩) 14 cap) := h2.cell 0 rfl
              have d0 : w9.cell? ⟨b3, 0, none⟩ = some (.int .i64 p0) := h3.cell 0 rfl
              have d1 : w9.cell? ⟨b3, 1, none⟩ = some (.int .i64 p1) := h3.cell 1 rfl
              have d2 : w9.cell? ⟨b3, 2, none⟩ = some (.int .i64 p2) := h3.cell 2 rfl
              have d3 : w9.cell? ⟨b3, 3, none⟩ = some (.int .i64 p3) := h3.cell 3 rfl
              have d4 : w9.cell? ⟨b3, 4, none⟩ = some (.int .i64 p4) := h3.cell 4 rfl
              go_wp2_with fail
              clear c2 d0 d1 d2 d3 d4
              refine (lay_new (w := w9) [p4, 14, 32, 34] hT9 ((Fr.refl _ _).alloc _) hp0a hp0b (by decide) (by decide) (Blk.newAt _ _ _ _ (by simp)) (by simp) (okI.cons hp4 (by decide)) rfl).mono ?_
              rintro r w10 ⟨rfl, hT10, f10⟩
              have h2 := (h2.alloc _).fr f10 h2n
              have h3 := (h3.alloc _).fr f10 h3n
              have h5 := (h5.alloc _).fr f10 h5n
              clear hT9 f10
              have c2 : w10.cell? ⟨b2, 0, none⟩ = some (.slice (some ⟨g, 0, none⟩) 14 cap) := h2.cell 0 rfl
              have d0 : w10.cell? ⟨b3, 0, none⟩ = some (.int .i64 p0) := h3.cell 0 rfl
              have d1 : w10.cell? ⟨b3, 1, none⟩ = some (.int .i64 p1) := h3.cell 1 rfl
              have d2 : w10.cell? ⟨b3, 2, none⟩ = some (.int .i64 p2) := h3.cell 2 rfl
              have d3 : w10.cell? ⟨b3, 3, none⟩ = some (.int .i64 p3) := h3.cell 3 rfl
              have d4 : w10.cell? ⟨b3, 4, none⟩ = some (.int .i64 p4) := h3.cell 4 rfl
              go_wp2_with fail
              clear c2 d0 d1 d2 d3 d4
              refine (lay_new (w := w10) [p4, 14, 32] hT10 ((Fr.refl _ _).alloc _) hp0a hp0b (by decide) (by decide) (Blk.newAt _ _ _ _ (by simp)) (by simp) (okI.cons hp4 (by decide)) rfl).mono ?_
              rintro r w11 ⟨rfl, hT11, f11⟩
              have h2 := (h2.alloc _).fr f11 h2n
              have h3 := (h3.alloc _).fr f11 h3n
              have h5 := (h5.alloc _).fr f11 h5n
              clear hT10 f11
              have c2 : w11.cell? ⟨b2, 0, none⟩ = some (.slice (some ⟨g, 0, none⟩) 14 cap) := h2.cell 0 rfl
              have d0 : w11.cell? ⟨b3, 0, none⟩ = some (.int .i64 p0) := h3.cell 0 rfl
              have d1 : w11.cell? ⟨b3, 1, none⟩ = some (.int .i64 p1) := h3.cell 1 rfl
              have d2 : w11.cell? ⟨b3, 2, none⟩ = some (.int .i64 p2) := h3.cell 2 rfl
              have d3 : w11.cell? ⟨b3, 3, none⟩ = some (.int .i64 p3) := h3.cell 3 rfl
              have d4 : w11.cell? ⟨b3, 4, none⟩ = some (.int .i64 p4) := h3.cell 4 rfl
              go_wp2_with fail
              clear c2 d0 d1 d2 d3 d4
              refine (lay_new (w := w11) [p4, 14, 32] hT11 ((Fr.refl _ _).alloc _) hp1a hp1b (by decide) (by decide) (Blk.newAt _ _ _ _ (by simp)) (by simp) (okI.cons hp4 (by decide)) rfl).mono ?_
              rintro r w12 ⟨rfl, hT12, f12⟩
              have h2 := (h2.alloc _).fr f12 h2n
              have h3 := (h3.alloc _).fr f12 h3n
              have h5 := (h5.alloc _).fr f12 h5n
              clear hT11 f12
              have c2 : w12.cell? ⟨b2, 0, none⟩ = some (.slice (some ⟨g, 0, none⟩) 14 cap) := h2.cell 0 rfl
              have d0 : w12.cell? ⟨b3, 0, none⟩ = some (.int .i64 p0) := h3.cell 0 rfl
              have d1 : w12.cell? ⟨b3, 1, none⟩ = some (.int .i64 p1) := h3.cell 1 rfl
              have d2 : w12.cell? ⟨b3, 2, none⟩ = some (.int .i64 p2) := h3.cell 2 rfl
              have d3 : w12.cell? ⟨b3, 3, none⟩ = some (.int .i64 p3) := h3.cell 3 rfl
              have d4 : w12.cell? ⟨b3, 4, none⟩ = some (.int .i64 p4) := h3.cell 4 rfl
              go_wp2_with fail
              clear c2 d0 d1 d2 d3 d4
              refine (lay_new (w := w12) [20, 19, 22, 33, 31] hT12 ((Fr.refl _ _).alloc _) hp1a hp1b (by decide) (by decide) (Blk.newAt _ _ _ _ (by simp)) (by simp) (by decide) rfl).mono ?_
              rintro r w13 ⟨rfl, hT13, f13⟩
              have h2 := (h2.alloc _).fr f13 h2n
              have h3 := (h3.alloc _).fr f13 h3n
              have h5 := (h5.alloc _).fr f13 h5n
              clear hT12 f13
              have c2 : w13.cell? ⟨b2, 0, none⟩ = some (.slice (some ⟨g, 0, none⟩) 14 cap) := h2.cell 0 rfl
              have d0 : w13.cell? ⟨b3, 0, none⟩ = some (.int .i64 p0) := h3.cell 0 rfl
              have d1 : w13.cell? ⟨b3, 1, none⟩ = some (.int .i64 p1) := h3.cell 1 rfl
              have d2 : w13.cell? ⟨b3, 2, none⟩ = some (.int .i64 p2) := h3.cell 2 rfl
              have d3 : w13.cell? ⟨b3, 3, none⟩ = some (.int .i64 p3) := h3.cell 3 rfl
              have d4 : w13.cell? ⟨b3, 4, none⟩ = some (.int .i64 p4) := h3.cell 4 rfl
              go_wp2_with fail
              clear c2 d0 d1 d2 d3 d4
              refine (lay_new (w := w13) [19, 21, 17, 22, 33] hT13 ((Fr.refl _ _).alloc _) hp1a hp1b (by decide) (by decide) (Blk.newAt _ _ _ _ (by simp)) (by simp) (by decide) rfl).mono ?_
              rintro r w14 ⟨rfl, hT14, f14⟩
              have h2 := (h2.alloc _).fr f14 h2n
              have h3 := (h3.alloc _).fr f14 h3n
              have h5 := (h5.alloc _).fr f14 h5n
              clear hT13 f14
              have c2 : w14.cell? ⟨b2, 0, none⟩ = some (.slice (some ⟨g, 0, none⟩) 14 cap) := h2.cell 0 rfl
              have d0 : w14.cell? ⟨b3, 0, none⟩ = some (.int .i64 p0) := h3.cell 0 rfl
              have d1 : w14.cell? ⟨b3, 1, none⟩ = some (.int .i64 p1) := h3.cell 1 rfl
              have d2 : w14.cell? ⟨b3, 2, none⟩ = some (.int .i64 p2) := h3.cell 2 rfl
              have d3 : w14.cell? ⟨b3, 3, none⟩ = some (.int .i64 p3) := h3.cell 3 rfl
              have d4 : w14.cell? ⟨b3, 4, none⟩ = some (.int .i64 p4) := h3.cell 4 rfl
              go_wp2_with fail
              clear c2 d0 d1 d2 d3 d4
              refine (lay_new (w := w14) [20, 19, 22, 34, 33, 31] hT14 ((Fr.refl _ _).alloc _) hp1a hp1b (by decide) (by decide) (Blk.newAt _ _ _ _ (by simp)) (by simp) (by decide) rfl).mono ?_
              rintro r w15 ⟨rfl, hT15, f15⟩
              have h2 := (h2.alloc _).fr f15 h2n
              have h3 := (h3.alloc _).fr f15 h3n
              have h5 := (h5.alloc _).fr f15 h5n
              clear hT14 f15
              go_wp2
              go_end0
              exact ⟨rfl, hT15⟩

end Go.Proofs.Ytaefahbgeokopaa
