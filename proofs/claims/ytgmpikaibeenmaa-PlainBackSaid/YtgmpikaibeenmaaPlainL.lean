
/- Rows of PDUs, read; a test is answered. -/
import Derived.Test.YtgmpikaibeenmaaPlainJ
import Derived.Test.YtgmpikaibeenmaaPlainK
namespace Go.Proofs.Ytgmpikaibeenmaa
open Go.RowKit Go.Shelf Go.ChangeMaps
set_option linter.unusedVariables false
set_option linter.unusedSimpArgs false
set_option maxRecDepth 100000

theorem flat_getG {α : Type} (z : Nat) : ∀ {xs : List (List α)}, (∀ x ∈ xs, x.length = z) → ∀ {k : Nat} {x : List α}, xs[k]? = some x → ∀ {j : Nat}, j < z → xs.flatten[k * z + j]? = x[j]?
  | [], _, k, x, hk, _, _ => by simp at hk
  | y :: ys, h, 0, x, hk, j, hj => by
    simp only [List.getElem?_cons_zero, Option.some.injEq] at hk
    subst hk
    rw [List.flatten_cons, List.getElem?_append_left (by rw [h y (by simp)]; omega)]
    simp
  | y :: ys, h, k + 1, x, hk, j, hj => by
    simp only [List.getElem?_cons_succ] at hk
    have hy := h y (by simp)
    rw [List.flatten_cons, List.getElem?_append_right (by rw [hy, Nat.add_mul]; omega), ← flat_getG z (fun x hx => h x (by simp [hx])) hk hj, hy]
    congr 1
    rw [Nat.add_mul]
    omega
theorem All2.getE {α β : Type} {r : β → α → Prop} : ∀ {xs : List β} {ys : List α}, All2 r xs ys → ∀ {k : Nat} {y : α}, ys[k]? = some y → ∃ x, xs[k]? = some x ∧ r x y
  | [], [], _, k, y, hk => by simp at hk
  | x :: xs, y' :: ys, h, 0, y, hk => by
    simp only [List.getElem?_cons_zero, Option.some.injEq] at hk
    subst hk
    exact ⟨x, rfl, h.1⟩
  | x :: xs, y' :: ys, h, k + 1, y, hk => All2.getE h.2 hk
  | [], _ :: _, h, _, _, _ => h.elim
  | _ :: _, [], h, _, _, _ => h.elim
theorem RowG.get {α : Type} {T : TypeId} {z : Nat} {rep : World → List Value → α → Prop} {B : Nat} {w : World} {s : Sl} {l : List α} (h : RowG T z rep B w s l) {k : Nat} {d : α} (hk : l[k]? = some d) :
    ∃ b x, s.A = some ⟨b, 0, none⟩ ∧ x.length = z ∧ rep w x d ∧ ∀ j, j < z → w.cell? ⟨b, k * z + j, none⟩ = x[j]? := by
  obtain ⟨xs, h1, h2, h3⟩ := h
  obtain ⟨x, hx, hr⟩ := h2.getE hk
  have hl : k < l.length := (List.getElem?_eq_some_iff.1 hk).1
  obtain ⟨b, hA, hc⟩ := own_at h1 (by omega)
  have hz := h3 x (List.mem_of_getElem? hx)
  refine ⟨b, x, hA, hz, hr, fun j hj => ?_⟩
  have hf := flat_getG z h3 hx hj
  obtain ⟨v, hv⟩ : ∃ v, x[j]? = some v := ⟨x[j]'(by omega), List.getElem?_eq_getElem _⟩
  rw [hv] at hf ⊢
  exact hc _ _ hf
theorem PRow.get {N B : Nat} {s : Sl} {l : List PD} {w : World} (h : PRow N B s l w) {k : Nat} {d : PD} (hk : l[k]? = some d) :
    ∃ b sd, s.A = some ⟨b, 0, none⟩ ∧ Bts N w sd d.info ∧ w.cell? ⟨b, k * 9, none⟩ = some (.int .i64 d.to) ∧ w.cell? ⟨b, k * 9 + 1, none⟩ = some (.int .i64 d.fr) ∧ w.cell? ⟨b, k * 9 + 2, none⟩ = some (.bool d.rs) ∧ w.cell? ⟨b, k * 9 + 3, none⟩ = some (.int .i64 d.fm) ∧ w.cell? ⟨b, k * 9 + 4, none⟩ = some (.int .i64 d.kd) ∧ w.cell? ⟨b, k * 9 + 5, none⟩ = some (.int .i64 d.ns) ∧ w.cell? ⟨b, k * 9 + 6, none⟩ = some (.int .i64 d.nr) ∧ w.cell? ⟨b, k * 9 + 7, none⟩ = some (.bool d.po) ∧ w.cell? ⟨b, k * 9 + 8, none⟩ = some (.slice sd.A sd.n sd.c) := by
  obtain ⟨b, x, hA, hz, ⟨sd, rfl, hb⟩, hc⟩ := RowG.get h hk
  exact ⟨b, sd, hA, hb, hc 0 (by omega), hc 1 (by omega), hc 2 (by omega), hc 3 (by omega), hc 4 (by omega), hc 5 (by omega), hc 6 (by omega), hc 7 (by omega), hc 8 (by omega)⟩

set_option maxHeartbeats 4000000 in
theorem plain_awake (w : World) : Calls Try.prog 8 #[] w fun e w' => e = .returned (.bool true) ∧ Fr [] w w' := by
  go_enter Try.func8, Try.ntmps8
  go_wp2_with fail
  refine (saps_New _).mono ?_
  rintro e w1 ⟨p, b, rfl, hS, hp, hb, f1⟩
  have h0 : AtM w w1 p [] := AtM.start hS hp hb (Fr.refl _ _) f1
  clear hS hp hb f1
  have h1 : openA [] 4 1 = (0, [⟨4, 1, []⟩]) := by decide
  go_wp2_with fail
  refine (Open_any w w1 p [] 4 1 h0).mono ?_
  rintro e w2 ⟨rfl, hA2⟩
  rw [h1] at hA2 ⊢
  clear h0 h1
  go_wp2_with fail
  have hb3 : Bts 0 (w2.alloc (.cells #[.int .u8 1, .int .u8 2] 5)) ⟨some ⟨w2.heap.size, 0, none⟩, 2, 2⟩ [1, 2] := Bts.new (l := [1, 2]) (Blk.new w2 _ _) (by decide) 0
  refine (plain_AskTest 8 4 ⟨some ⟨w2.heap.size, 0, none⟩, 2, 2⟩ [1, 2] 0 _ hb3 (Nat.zero_le _) (by simp)).mono ?_
  rw [show makeP 2 8 4 0 true [1, 2] = (⟨4, 8, false, 2, 2, 0, 0, true, [1, 2]⟩, 0) from by simp [makeP, sapB]]
  rintro e w3 ⟨sp, rfl, hB, f3⟩
  have hA3 := (hA2.on ((Fr.refl [] w2).alloc (.cells #[.int .u8 1, .int .u8 2] 5))).on f3
  clear hA2 hb3 f3
  have hd : hsOf [⟨4, 1, []⟩] 4 true = [4] := by
    unfold hsOf hearA
    rw [show ([⟨4, 1, []⟩] : List AE).filter (fun x => hearsB 4 x.k x.gs) = [⟨4, 1, []⟩] from by decide]
    simp [srt]
  have hx := hear_x w (w3.alloc (.cells (PD.arr ⟨4, 8, false, 2, 2, 0, 0, true, [1, 2]⟩ sp) 29)) p [⟨4, 1, []⟩] ⟨4, 8, false, 2, 2, 0, 0, true, [1, 2]⟩ sp ⟨2, 0, 0, 0, 0, 0⟩ 0 (hA3.on ((Fr.refl [] w3).alloc _)) (hB.fr ((Fr.refl [] w3).alloc _)) (Nat.zero_le _) (by decide) rfl (.inr rfl) rfl (by decide) (by simp) (by simp)
  rw [hd, show ([4].map fun n => ansP ⟨4, 8, false, 2, 2, 0, 0, true, [1, 2]⟩ n (clsA [⟨4, 1, []⟩] n)) = [⟨8, 4, true, 2, 2, 0, 0, true, [1, 2]⟩] from by decide] at hx
  clear hd hA3 hB
  go_wp2_with fail
  refine hx.mono ?_
  rintro e w4 ⟨⟨A, n, c⟩, rfl, hR, hA4, f4⟩
  obtain ⟨bb, sd, rfl, hbd, c0, c1, c2, c3, c4, c5, c6, c7, c8⟩ := PRow.get (k := 0) hR rfl
  have hn := RowG.n hR
  simp only [List.length_cons, List.length_nil, Nat.zero_add] at hn
  subst hn
  simp only [Nat.zero_mul, Nat.zero_add] at c0 c1 c2 c8
  have F4 := hA4.fr
  clear hx hR c3 c4 c5 c6 c7 hA4 f4
  go_wp2_with fail
  refine (r_Same _ sd ⟨some ⟨w4.heap.size, 0, none⟩, 2, 2⟩ [1, 2] [1, 2] (hbd.fr ((Fr.refl [] w4).alloc _)).1 (Bts.new (l := [1, 2]) (Blk.new _ _ _) (by decide) 0).1 (by simp)).mono ?_
  rintro e w5 ⟨rfl, f5⟩
  have F5 := (F4.alloc _).tr f5
  clear c0 c1 c2 c8 f5 hbd
  go_wp2
  go_ret
  exact ⟨rfl, F5⟩

end Go.Proofs.Ytgmpikaibeenmaa
