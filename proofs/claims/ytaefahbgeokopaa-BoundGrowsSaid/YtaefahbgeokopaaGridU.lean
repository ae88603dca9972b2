/- The table of package grid: a blank one, and what lays rows of new lists. -/
import Derived.Test.YtaefahbgeokopaaGridT
namespace Go.Proofs.Ytaefahbgeokopaa
open Go.RowKit Go.Shelf
set_option linter.unusedVariables false
set_option linter.unusedSimpArgs false

def zrow : Array Value := ((List.range 34).flatMap fun _ => [Value.slice none 0 0, .int .i64 0, .bool false]).toArray
theorem zrow0 : ∀ e, e < 34 → zrow[e * 3]? = some (.slice none 0 0) := fun e h => by
    match e, h with
    | 0, _ => rfl
    | 1, _ => rfl
    | 2, _ => rfl
    | 3, _ => rfl
    | 4, _ => rfl
    | 5, _ => rfl
    | 6, _ => rfl
    | 7, _ => rfl
    | 8, _ => rfl
    | 9, _ => rfl
    | 10, _ => rfl
    | 11, _ => rfl
    | 12, _ => rfl
    | 13, _ => rfl
    | 14, _ => rfl
    | 15, _ => rfl
    | 16, _ => rfl
    | 17, _ => rfl
    | 18, _ => rfl
    | 19, _ => rfl
    | 20, _ => rfl
    | 21, _ => rfl
    | 22, _ => rfl
    | 23, _ => rfl
    | 24, _ => rfl
    | 25, _ => rfl
    | 26, _ => rfl
    | 27, _ => rfl
    | 28, _ => rfl
    | 29, _ => rfl
    | 30, _ => rfl
    | 31, _ => rfl
    | 32, _ => rfl
    | 33, _ => rfl
    | e + 34, h => exact absurd h (by omega)
theorem zrow1 : ∀ e, e < 34 → zrow[e * 3 + 1]? = some (.int .i64 0) := fun e h => by
    match e, h with
    | 0, _ => rfl
    | 1, _ => rfl
    | 2, _ => rfl
    | 3, _ => rfl
    | 4, _ => rfl
    | 5, _ => rfl
    | 6, _ => rfl
    | 7, _ => rfl
    | 8, _ => rfl
    | 9, _ => rfl
    | 10, _ => rfl
    | 11, _ => rfl
    | 12, _ => rfl
    | 13, _ => rfl
    | 14, _ => rfl
    | 15, _ => rfl
    | 16, _ => rfl
    | 17, _ => rfl
    | 18, _ => rfl
    | 19, _ => rfl
    | 20, _ => rfl
    | 21, _ => rfl
    | 22, _ => rfl
    | 23, _ => rfl
    | 24, _ => rfl
    | 25, _ => rfl
    | 26, _ => rfl
    | 27, _ => rfl
    | 28, _ => rfl
    | 29, _ => rfl
    | 30, _ => rfl
    | 31, _ => rfl
    | 32, _ => rfl
    | 33, _ => rfl
    | e + 34, h => exact absurd h (by omega)
theorem zrow2 : ∀ e, e < 34 → zrow[e * 3 + 2]? = some (.bool false) := fun e h => by
    match e, h with
    | 0, _ => rfl
    | 1, _ => rfl
    | 2, _ => rfl
    | 3, _ => rfl
    | 4, _ => rfl
    | 5, _ => rfl
    | 6, _ => rfl
    | 7, _ => rfl
    | 8, _ => rfl
    | 9, _ => rfl
    | 10, _ => rfl
    | 11, _ => rfl
    | 12, _ => rfl
    | 13, _ => rfl
    | 14, _ => rfl
    | 15, _ => rfl
    | 16, _ => rfl
    | 17, _ => rfl
    | 18, _ => rfl
    | 19, _ => rfl
    | 20, _ => rfl
    | 21, _ => rfl
    | 22, _ => rfl
    | 23, _ => rfl
    | 24, _ => rfl
    | 25, _ => rfl
    | 26, _ => rfl
    | 27, _ => rfl
    | 28, _ => rfl
    | 29, _ => rfl
    | 30, _ => rfl
    | 31, _ => rfl
    | 32, _ => rfl
    | 33, _ => rfl
    | e + 34, h => exact absurd h (by omega)

theorem mk34 (w : World) : (Instr.makeSlice 105 (Value.int IntKind.i64 34) (Value.int IntKind.i64 34)).run Try.prog w = .ok (.slice (some ⟨w.heap.size, 0, none⟩) 34 34) (w.alloc (.cells zrow 107)) := by kernel_rfl

/-- A row of the blank table, the first j of whose events lead to s. -/
structure BR (w : World) (b : Nat) (s : Int) (j : Nat) : Prop where
  c0 : ∀ e, e < 34 → w.cell? ⟨b, e * 3, none⟩ = some (.slice none 0 0)
  c1 : ∀ e, e < 34 → w.cell? ⟨b, e * 3 + 1, none⟩ = some (.int .i64 (if e < j then s else 0))
  c2 : ∀ e, e < 34 → w.cell? ⟨b, e * 3 + 2, none⟩ = some (.bool false)
  f : ∀ i, w.frozen? ⟨b, i, none⟩ = false
theorem BR.new (w : World) (s : Int) : BR (w.alloc (.cells zrow 107)) w.heap.size s 0 := by
  have h := Blk.new w zrow 107
  exact ⟨fun e he => h.cell _ (zrow0 e he), fun e he => by rw [if_neg (by omega)]; exact h.cell _ (zrow1 e he), fun e he => h.cell _ (zrow2 e he), fun i => h.free i⟩
theorem BR.lt {w : World} {b : Nat} {s : Int} {j : Nat} (h : BR w b s j) : b < w.heap.size := World.block_lt_of_cell? w _ (h.c0 0 (by omega))
theorem BR.fr {w w' : World} {b : Nat} {s : Int} {j : Nat} (h : BR w b s j) (f : Fr [] w w') : BR w' b s j :=
  ⟨fun e he => f.cell (h.c0 e he) (by simp), fun e he => f.cell (h.c1 e he) (by simp), fun e he => f.cell (h.c2 e he) (by simp), fun i => by rw [World.frozen?_of_block (w := w) (f.block b h.lt (by simp))]; exact h.f i⟩
theorem frz_set (w : World) (a p : Addr) (v : Value) : (w.setCell a v).frozen? p = w.frozen? p := by
  simp only [World.frozen?, World.setCell, Array.getElem?_modify]
  by_cases hh : a.block = p.block
  · rw [if_pos hh]
    cases w.heap[p.block]? with
    | none => rfl
    | some o => cases o <;> rfl
  · rw [if_neg hh]
theorem BR.set {w : World} {b : Nat} {s : Int} {j : Nat} (h : BR w b s j) (hj : j < 34) : BR (w.setCell ⟨b, j * 3 + 1, none⟩ (.int .i64 s)) b s (j + 1) := by
  have ne : ∀ {i k : Nat}, i ≠ k → (⟨b, i, none⟩ : Addr) ≠ ⟨b, k, none⟩ := fun h e => by cases e; exact h rfl
  refine ⟨fun e he => ?_, fun e he => ?_, fun e he => ?_, fun i => by rw [frz_set]; exact h.f i⟩
  · rw [World.cell?_setCell_other _ _ _ _ (ne (by omega))]; exact h.c0 e he
  · by_cases hc : e = j
    · subst hc
      rw [World.cell?_setCell_same _ _ _ (h.c1 e he), if_pos (by omega)]
    · rw [World.cell?_setCell_other _ _ _ _ (ne (by omega)), h.c1 e he]
      by_cases h2 : e < j
      · rw [if_pos h2, if_pos (by omega)]
      · rw [if_neg h2, if_neg (by omega)]
  · rw [World.cell?_setCell_other _ _ _ _ (ne (by omega))]; exact h.c2 e he

def blankM : Tb := fun s _ => ⟨[], s, false⟩
def slB (b : Nat) : Value := .slice (some ⟨b, 0, none⟩) 34 34

/-- The first k rows of a blank table. -/
structure BT (w0 w : World) (bl : List Nat) (v : Value) (k : Nat) : Prop where
  len : bl.length = k
  own : w.ownsRow w0.heap.size 105 1 v k (bl.map slB)
  rows : ∀ s (h : s < bl.length), BR w bl[s] s 34 ∧ w0.heap.size ≤ bl[s]
  inj : ∀ s t (hs : s < bl.length) (ht : t < bl.length), bl[s] = bl[t] → s = t
  fr : Fr [] w0 w

theorem BT.nil (w : World) : BT w w [] (.slice none 0 0) 0 := ⟨rfl, World.ownsRow_nil _ _ _ _, fun s h => absurd h (by simp), fun s t h => absurd h (by simp), Fr.refl _ _⟩
theorem BT.off {w0 w : World} {bl : List Nat} {v : Value} {k : Nat} (h : BT w0 w bl v k) {g : Nat} (hg : v.ownBlock = some g) : g ∉ bl := by
  intro hm
  obtain ⟨s, hs, e⟩ := List.mem_iff_getElem.1 hm
  have h0 : 0 < bl.length := by omega
  have h1 := h.own.cells hg 0 (slB bl[0]) (by simp [h0])
  have h2 := (h.rows s hs).1.c0 0 (by omega)
  rw [e] at h2
  have h3 : w.cell? ⟨g, 0, none⟩ = some (slB bl[0]) := by rwa [Go.WideShapes.add_plain] at h1
  rw [show (0 * 3 : Nat) = 0 from rfl, h3] at h2
  unfold slB at h2
  cases h2
theorem BT.ownFr {w0 w w' : World} {bl : List Nat} {v : Value} {k : Nat} (h : BT w0 w bl v k) (f : Fr [] w w') : w'.ownsRow w0.heap.size 105 1 v k (bl.map slB) := by
  obtain ⟨h1, h2⟩ := h.own
  refine ⟨h1, h2.imp id ?_⟩
  rintro ⟨g, cap, cur, e, hg, hb, r⟩
  exact ⟨g, cap, cur, e, hg, by rw [f.block g (Array.getElem?_eq_some_iff.1 hb).1 (by simp)]; exact hb, r⟩
theorem ownsRow_block {w : World} {B : Nat} {e : TypeId} {size n : Nat} {v : Value} {xs : List Value} (h : w.ownsRow B e size v n xs) {g : Nat} (hg : v.ownBlock = some g) : B ≤ g ∧ g < w.heap.size := h.lt g hg
theorem BT.snoc {w0 w w1 w' : World} {bl : List Nat} {v v' : Value} {k : Nat} (h : BT w0 w bl v k) (f : Fr [] w w1) (hR : BR w1 w.heap.size k 34)
    (hown : w'.ownsRow w0.heap.size 105 1 v' (k + 1) (bl.map slB ++ [slB w.heap.size])) (hg : (w1.alloc (.cells #[slB w.heap.size] 105)).grownBy w' v.ownBlock) : BT w0 w' (bl ++ [w.heap.size]) v' (k + 1) := by
  have hlt : ∀ b, (∃ s j, BR w b s j) → b < w.heap.size := fun b ⟨s, j, hb⟩ => hb.lt
  have f' : Fr [] w0 w' := ((h.fr.tr f).alloc _).grown hg (fun g hg => .inr (h.own.lt g hg).1)
  have keep : ∀ b, b < w1.heap.size → v.ownBlock ≠ some b → w'.heap[b]? = w1.heap[b]? := fun b hb hn => by
    rw [hg.block b (by simp; omega) (fun e => hn e.symm)]
    exact Below.heap_alloc _ _ _ (by omega)
  have br : ∀ b s, BR w1 b s 34 → v.ownBlock ≠ some b → BR w' b s 34 := fun b s hb hn =>
    ⟨fun e he => by rw [World.cell?_of_block (w := w1) (keep b hb.lt hn)]; exact hb.c0 e he, fun e he => by rw [World.cell?_of_block (w := w1) (keep b hb.lt hn)]; exact hb.c1 e he,
      fun e he => by rw [World.cell?_of_block (w := w1) (keep b hb.lt hn)]; exact hb.c2 e he, fun i => by rw [World.frozen?_of_block (w := w1) (keep b hb.lt hn)]; exact hb.f i⟩
  have hwb : v.ownBlock ≠ some w.heap.size := fun e => by have := (h.own.lt _ e).2; omega
  refine ⟨by simp [h.len], by simpa using hown, ?_, ?_, f'⟩
  · intro s hs
    by_cases hc : s < bl.length
    · have e : (bl ++ [w.heap.size])[s] = bl[s] := List.getElem_append_left hc
      rw [e]
      have hb := (h.rows s hc).1
      exact ⟨br _ _ (hb.fr f) (fun e => h.off e (List.getElem_mem hc)), (h.rows s hc).2⟩
    · have hsk : s = bl.length := by simp at hs; omega
      subst hsk
      have e : (bl ++ [w.heap.size])[bl.length] = w.heap.size := by simp
      rw [e, h.len]
      exact ⟨br _ _ hR hwb, h.fr.size⟩
  · intro s t hs ht he
    have old : ∀ s (hs : s < bl.length), bl[s] < w.heap.size := fun s hs => (h.rows s hs).1.lt
    simp only [List.getElem_append, List.length_append, List.length_cons, List.length_nil] at he hs ht
    by_cases h1 : s < bl.length <;> by_cases h2 : t < bl.length
    · rw [dif_pos h1, dif_pos h2] at he; exact h.inj s t h1 h2 he
    · rw [dif_pos h1, dif_neg h2] at he; simp at he; have := old s h1; omega
    · rw [dif_neg h1, dif_pos h2] at he; simp at he; have := old t h2; omega
    · omega
theorem BT.table {w0 w : World} {bl : List Nat} {v : Value} (h : BT w0 w bl v 14) : ∃ g cap bs, Ending.returned v = .returned (.slice (some ⟨g, 0, none⟩) 14 cap) ∧ IsT w g bs blankM ∧ w0.heap.size ≤ g ∧ (∀ s, s < 14 → w0.heap.size ≤ bs s) ∧ Fr [] w0 w := by
  rcases h.own.2 with ⟨_, e⟩ | ⟨g, cap, cur, rfl, hbg, -⟩
  · cases e
  · have hl : bl.length = 14 := h.len
    have hbs : ∀ s (hs : s < bl.length), bl.getD s 0 = bl[s] := fun s hs => by simp [List.getD, hs]
    refine ⟨g, cap, fun s => bl.getD s 0, rfl, ⟨?_, ?_, ?_, ?_, ?_⟩, hbg, ?_, h.fr⟩
    · intro s hs
      have := h.own.cells (g := g) rfl s (slB bl[s]) (by simp [hl, hs])
      rw [hbs s (by omega)]
      rw [Go.WideShapes.add_plain] at this
      simpa [slB] using this
    · intro s hs e he
      obtain ⟨hr, -⟩ := h.rows s (by omega)
      rw [hbs s (by omega)]
      have hc1 := hr.c1 e he
      rw [if_pos he] at hc1
      exact ⟨Sl.nil, hr.c0 e he, hc1, hr.c2 e he, Ints.nil _ _, fun A n c e => by cases e⟩
    · intro s hs i
      rw [hbs s (by omega)]
      exact (h.rows s (by omega)).1.f i
    · intro s t hs ht e
      rw [hbs s (by omega), hbs t (by omega)] at e
      exact h.inj s t _ _ e
    · intro hm
      obtain ⟨s, hs, e⟩ := tbL_mem.1 hm
      rw [hbs s (by omega)] at e
      exact h.off rfl (e ▸ List.getElem_mem _)
    · intro s hs
      show _ ≤ bl.getD s 0
      rw [hbs s (by omega)]
      exact (h.rows s (by omega)).2
theorem grows_info : ∃ i0 : TypeInfo, Try.prog.info? 105 = some i0 ∧ i0.zero = some (.slice none 0 0) ∧ i0.size = 1 ∧ i0.bytes = 24 :=
  info_parts (show (Try.prog.info? 105).map (fun i => (i.zero, i.size, i.bytes)) = some (some (.slice none 0 0), 1, 24) by kernel_rfl)

set_option maxRecDepth 100000 in
set_option maxHeartbeats 1000000 in
theorem grid_blank (w : World) : Calls Try.prog 36 #[] w fun r w' => ∃ g cap bs, r = .returned (.slice (some ⟨g, 0, none⟩) 14 cap) ∧ IsT w' g bs blankM ∧ w.heap.size ≤ g ∧ (∀ s, s < 14 → w.heap.size ≤ bs s) ∧ Fr [] w w' := by
  obtain ⟨i0, hi, hz0, hz1, hz2⟩ := grows_info
  have hun : Try.prog.underlying 91 = some (.slice 105) := Try.underlying91
  have hmk := mk34
  go_enter Try.func36, Try.ntmps36
  go_wp2
  go_loopw [1, 5] (fun t i wr => ∃ k : Nat, i = .int .i64 k ∧ k ≤ 14 ∧ ∃ bl, BT w wr bl t k) (fun _ i _ => 14 - (intOf i).toNat)
  case atStart => exact ⟨0, rfl, by omega, [], BT.nil w⟩
  case round =>
    obtain ⟨k, rfl, hk, bl, hB⟩ := hrel
    by_cases hlt : k < 14
    · have hd : decide ((k : Int) < 14) = true := by simp; omega
      obtain ⟨wo, rfl⟩ : ∃ wo, wo = wr := ⟨_, rfl⟩
      go_wp2
      go_loopw [4, 11] (fun _ i wz => ∃ j : Nat, i = .int .i64 j ∧ j ≤ 34 ∧ BR wz wo.heap.size k j ∧ Fr [] wo wz) (fun _ i _ => 34 - (intOf i).toNat)
      case atStart => exact ⟨0, rfl, by omega, BR.new _ _, (Fr.refl _ _).alloc _⟩
      case round =>
        obtain ⟨j, rfl, hj, hR, hF⟩ := hrel
        by_cases hlt2 : j < 34
        · have hd2 : decide ((j : Int) < 34) = true := by simp; omega
          have hc := hR.c1 j hlt2
          have hf := hR.f (j * 3 + 1)
          go_wp2
          go_roundw
          case rel => exact ⟨j + 1, by simp, by omega, hR.set hlt2, hF.setCell _ (.inr (Nat.le_refl _))⟩
          case measure => simp [intOf]; omega
        · have hd2 : decide ((j : Int) < 34) = false := by simp; omega
          have hR34 : BR wr wo.heap.size k 34 := by rw [show (34 : Nat) = j by omega]; exact hR
          have hown := hB.ownFr hF
          have hsz := hF.size
          have hlen := hB.len
          have hfw : Fr [] w wr := hB.fr.tr hF
          have hszw := hB.fr.size
          clear hR hlen
          go_wp2_with (at_builtin; refine wpList_append_own _ rfl _ _ 91 rfl w.heap.size 105 i0 (.slice none 0 0) 1 24 hun hi hz0 hz1 hz2 rfl (by decide) _ k (bl.map slB) rfl (hown.alloc _) ⟨wr.heap.size, 0, none⟩ 1 1 [slB wo.heap.size] rfl rfl ?c1 ?c2 ?c4 ?c5 ?c6 ?_)
          case c1 => intro i u hu; match i, hu with
            | 0, hu => simp at hu; subst hu; rw [Go.WideShapes.add_plain]; exact (Blk.new wr #[slB wo.heap.size] 105).cell 0 rfl
            | i + 1, hu => simp at hu
          case c2 => intro u hu; simp at hu; subst hu; rfl
          case c4 => unfold maxLen; omega
          case c5 => omega
          case c6 => simp; omega
          intro v' w' hown2 hgrow _
          have hB' := hB.snoc hF hR34 hown2 hgrow
          go_wp2
          go_roundw
          case rel => exact ⟨k + 1, by simp, by omega, bl ++ [wo.heap.size], hB'⟩
          case measure => simp [intOf]; omega
    · have hd : decide ((k : Int) < 14) = false := by simp; omega
      obtain rfl : k = 14 := by omega
      go_wp2
      go_ret
      exact hB.table
end Go.Proofs.Ytaefahbgeokopaa
