/- The table of package grid in memory, and what lays a row. -/
import Derived.Test.YtaefahbgeokopaaGridS
namespace Go.Proofs.Ytaefahbgeokopaa
open Go.RowKit Go.Shelf
set_option linter.unusedVariables false
set_option linter.unusedSimpArgs false

structure RowM where
  doL : List Int
  next : Int
  known : Bool
abbrev Tb := Nat → Nat → RowM
/-- A row in memory: three cells from off on. -/
def RowAt (w : World) (L : List Nat) (b off : Nat) (r : RowM) : Prop :=
  ∃ s : Sl, w.cell? ⟨b, off, none⟩ = some (.slice s.A s.n s.c) ∧ w.cell? ⟨b, off + 1, none⟩ = some (.int .i64 r.next) ∧ w.cell? ⟨b, off + 2, none⟩ = some (.bool r.known) ∧ Ints .i64 w s.v r.doL ∧ ∀ A n c, s.v = .slice (some A) n c → A.block ∉ L
def tbL (bs : Nat → Nat) : List Nat := (List.range 14).map bs
structure IsT (w : World) (g : Nat) (bs : Nat → Nat) (T : Tb) : Prop where
  outer : ∀ s, s < 14 → w.cell? ⟨g, s, none⟩ = some (.slice (some ⟨bs s, 0, none⟩) 34 34)
  row : ∀ s, s < 14 → ∀ e, e < 34 → RowAt w (tbL bs) (bs s) (e * 3) (T s e)
  free : ∀ s, s < 14 → ∀ i, w.frozen? ⟨bs s, i, none⟩ = false
  inj : ∀ s t, s < 14 → t < 14 → bs s = bs t → s = t
  off : g ∉ tbL bs

theorem tbL_mem {bs : Nat → Nat} {b : Nat} : b ∈ tbL bs ↔ ∃ s, s < 14 ∧ bs s = b := by
  unfold tbL; simp

theorem RowAt.fr {w w' : World} {L : List Nat} {b off : Nat} {r : RowM} (h : RowAt w L b off r) (f : Fr [] w w') : RowAt w' L b off r := by
  obtain ⟨s, h1, h2, h3, h4, h5⟩ := h
  exact ⟨s, f.cell h1 (by simp), f.cell h2 (by simp), f.cell h3 (by simp), h4.fr f, h5⟩

theorem IsT.fr {w w' : World} {g : Nat} {bs : Nat → Nat} {T : Tb} (h : IsT w g bs T) (f : Fr [] w w') : IsT w' g bs T :=
  ⟨fun s hs => f.cell (h.outer s hs) (by simp), fun s hs e he => (h.row s hs e he).fr f, fun s hs i => by
    obtain ⟨_, h1, _⟩ := h.row s hs 0 (by omega)
    rw [World.frozen?_of_block (w := w) (f.block (bs s) (World.block_lt_of_cell? w _ h1) (by simp))]; exact h.free s hs i, h.inj, h.off⟩

/-- What laying a row does to a table. -/
def layM (s e : Nat) (next : Int) (l : List Int) (T : Tb) : Tb := fun s' e' => if s' = s ∧ e' = e then ⟨l, if next = -1 then (s : Int) else next, true⟩ else T s' e'

theorem IsT.lay {w w' : World} {g : Nat} {bs : Nat → Nat} {T : Tb} (h : IsT w g bs T) {s e : Nat} (hs : s < 14) (he : e < 34) {next : Int} {l : List Int} {sl : Sl} (hl : Ints .i64 w sl.v l) (hn : ∀ A n c, sl.v = .slice (some A) n c → A.block ∉ tbL bs)
    (hw : w' = ((w.setCell ⟨bs s, e * 3, none⟩ (.slice sl.A sl.n sl.c)).setCell ⟨bs s, e * 3 + 1, none⟩ (.int .i64 (if next = -1 then (s : Int) else next))).setCell ⟨bs s, e * 3 + 2, none⟩ (.bool true)) :
    IsT w' g bs (layM s e next l T) ∧ Fr (tbL bs) w w' := by
  have hb : bs s ∈ tbL bs := tbL_mem.2 ⟨s, hs, rfl⟩
  have f : Fr (tbL bs) w w' := by
    rw [hw]
    exact (((Fr.refl (tbL bs) w).setCell _ (.inl hb)).setCell _ (.inl hb)).setCell _ (.inl hb)
  obtain ⟨s0, o0, o1, o2, -, -⟩ := h.row s hs e he
  have ne : ∀ {b c i j : Nat}, (b ≠ c ∨ i ≠ j) → (⟨b, i, none⟩ : Addr) ≠ ⟨c, j, none⟩ := fun h e => by cases e; simp at h
  have far : ∀ b i, (b ≠ bs s ∨ (i ≠ e * 3 ∧ i ≠ e * 3 + 1 ∧ i ≠ e * 3 + 2)) → w'.cell? ⟨b, i, none⟩ = w.cell? ⟨b, i, none⟩ := by
    intro b i hbi
    rw [hw, World.cell?_setCell_other _ _ _ _ (ne (by omega)), World.cell?_setCell_other _ _ _ _ (ne (by omega)), World.cell?_setCell_other _ _ _ _ (ne (by omega))]
  have c0 : w'.cell? ⟨bs s, e * 3, none⟩ = some (.slice sl.A sl.n sl.c) := by
    rw [hw, World.cell?_setCell_other _ _ _ _ (ne (by omega)), World.cell?_setCell_other _ _ _ _ (ne (by omega)), World.cell?_setCell_same _ _ _ o0]
  have c1 : w'.cell? ⟨bs s, e * 3 + 1, none⟩ = some (.int .i64 (if next = -1 then (s : Int) else next)) := by
    rw [hw, World.cell?_setCell_other _ _ _ _ (ne (by omega))]
    exact World.cell?_setCell_same _ _ _ (by rw [World.cell?_setCell_other _ _ _ _ (ne (by omega))]; exact o1)
  have c2 : w'.cell? ⟨bs s, e * 3 + 2, none⟩ = some (.bool true) := by
    rw [hw]
    exact World.cell?_setCell_same _ _ _ (by rw [World.cell?_setCell_other _ _ _ _ (ne (by omega)), World.cell?_setCell_other _ _ _ _ (ne (by omega))]; exact o2)
  refine ⟨⟨?_, ?_, ?_, h.inj, h.off⟩, f⟩
  · intro t ht
    rw [far g t (.inl (fun e => h.off (e ▸ hb)))]
    exact h.outer t ht
  · intro t ht d hd
    unfold layM
    by_cases hc : t = s ∧ d = e
    · obtain ⟨rfl, rfl⟩ := hc
      rw [if_pos ⟨rfl, rfl⟩]
      exact ⟨sl, c0, c1, c2, hl.frL f hn, hn⟩
    · rw [if_neg hc]
      have hne : bs t ≠ bs s ∨ d ≠ e := by
        by_cases h1 : t = s
        · exact .inr (fun h2 => hc ⟨h1, h2⟩)
        · exact .inl (fun h2 => h1 (h.inj t s ht hs h2))
      obtain ⟨s1, p0, p1, p2, p3, p4⟩ := h.row t ht d hd
      exact ⟨s1, by rw [far _ _ (by omega)]; exact p0, by rw [far _ _ (by omega)]; exact p1, by rw [far _ _ (by omega)]; exact p2, p3.frL f p4, p4⟩
  · intro t ht i
    have hfz : ∀ (w : World) (a p : Addr) (v : Value), (w.setCell a v).frozen? p = w.frozen? p := by
      intro w a p v
      simp only [World.frozen?, World.setCell, Array.getElem?_modify]
      by_cases hh : a.block = p.block
      · rw [if_pos hh]
        cases w.heap[p.block]? with
        | none => rfl
        | some o => cases o <;> rfl
      · rw [if_neg hh]
    rw [hw, hfz, hfz, hfz]
    exact h.free t ht i

theorem grid_lay (w : World) (g cap : Nat) (bs : Nat → Nat) (T : Tb) (s e next : Int) (l : List Int) (A : Option Addr) (n c : Nat) (h : IsT w g bs T) (hs0 : 0 ≤ s) (hs : s < 14) (he0 : 0 ≤ e) (he : e < 34)
    (hl : Ints .i64 w (.slice A n c) l) (hn : ∀ B n' c', Value.slice A n c = .slice (some B) n' c' → B.block ∉ tbL bs) :
    Calls Try.prog 44 #[.slice (some ⟨g, 0, none⟩) 14 cap, .int .i64 s, .int .i64 e, .int .i64 next, .slice A n c] w fun r w' =>
      r = .returned (.tuple #[]) ∧ IsT w' g bs (layM s.toNat e.toNat next l T) ∧ Fr (tbL bs) w w' := by
  obtain ⟨s, rfl⟩ := Int.eq_ofNat_of_zero_le hs0
  obtain ⟨e, rfl⟩ := Int.eq_ofNat_of_zero_le he0
  have hs' : s < 14 := by omega
  have he' : e < 34 := by omega
  have o := h.outer s hs'
  obtain ⟨s0, r0, r1, r2, -, -⟩ := h.row s hs' e he'
  have f0 := h.free s hs' (e * 3)
  have f1 := h.free s hs' (e * 3 + 1)
  have f2 := h.free s hs' (e * 3 + 2)
  have d1 : decide ((s : Int) < 14) = true := by simp; omega
  have d2 : decide ((e : Int) < 34) = true := by simp; omega
  by_cases hx : next = -1
  · subst hx
    have hfin := fun w' => IsT.lay (w' := w') h hs' he' (next := -1) (sl := ⟨A, n, c⟩) hl hn
    go_enter Try.func44, Try.ntmps44
    go_wp2
    go_end0
    exact ⟨rfl, hfin _ (by simp)⟩
  · have hx' : (next == -1) = false := by simpa using hx
    have hfin := fun w' => IsT.lay (w' := w') h hs' he' (next := next) (sl := ⟨A, n, c⟩) hl hn
    rw [if_neg hx] at hfin
    go_enter Try.func44, Try.ntmps44
    go_wp2
    go_end0
    exact ⟨rfl, hfin _ rfl⟩

theorem IsT.lt {w : World} {g : Nat} {bs : Nat → Nat} {T : Tb} (h : IsT w g bs T) : ∀ b, b ∈ tbL bs → b < w.heap.size := by
  intro b hb
  obtain ⟨s, hs, rfl⟩ := tbL_mem.1 hb
  obtain ⟨_, h1, _⟩ := h.row s hs 0 (by omega)
  exact World.block_lt_of_cell? w _ h1

/-- A row of numbers from the head of a block. -/
def RowI (w : World) (b : Nat) (l : List Int) : Prop := ∀ i (h : i < l.length), w.cell? ⟨b, i, none⟩ = some (.int .i64 l[i])
theorem RowI.fr {w w' : World} {b : Nat} {l : List Int} {L : List Nat} (h : RowI w b l) (f : Fr L w w') (hn : b ∉ L) : RowI w' b l := fun i hi => f.cell (h i hi) hn

def eachE (s : Nat) (evs : List Int) (next : Int) (l : List Int) (T : Tb) : Tb := evs.foldl (fun T e => layM s e.toNat next l T) T
def eachM (ins evs : List Int) (next : Int) (l : List Int) (T : Tb) : Tb := ins.foldl (fun T s => eachE s.toNat evs next l T) T

theorem foldl_take {β : Type} (f : β → Int → β) (x : β) (l : List Int) (k : Nat) (hk : k < l.length) : (l.take (k + 1)).foldl f x = f ((l.take k).foldl f x) l[k] := by
  rw [← List.take_append_getElem hk, List.foldl_append]; rfl

set_option maxHeartbeats 2000000 in
set_option maxRecDepth 100000 in
theorem grid_each (w : World) (g cap : Nat) (bs : Nat → Nat) (T : Tb) (bi ci be ce : Nat) (ins evs : List Int) (next : Int) (l : List Int) (A : Option Addr) (n c : Nat) (h : IsT w g bs T)
    (hi : RowI w bi ins) (hi1 : bi ∉ tbL bs) (hi2 : ∀ s ∈ ins, 0 ≤ s ∧ s < 14) (he : RowI w be evs) (he1 : be ∉ tbL bs) (he2 : ∀ e ∈ evs, 0 ≤ e ∧ e < 34) (hni : ins.length ≤ 100) (hne : evs.length ≤ 100) (hll : l.length ≤ 1000)
    (hl : Ints .i64 w (.slice A n c) l) (hn : ∀ B n' c', Value.slice A n c = .slice (some B) n' c' → B.block ∉ tbL bs) :
    Calls Try.prog 45 #[.slice (some ⟨g, 0, none⟩) 14 cap, .slice (some ⟨bi, 0, none⟩) ins.length ci, .slice (some ⟨be, 0, none⟩) evs.length ce, .int .i64 next, .slice A n c] w fun r w' =>
      r = .returned (.tuple #[]) ∧ IsT w' g bs (eachM ins evs next l T) ∧ Fr (tbL bs) w w' := by
  go_enter Try.func45, Try.ntmps45
  go_wp2
  go_loopw [16] (fun i wr => ∃ k : Nat, i = .int .i64 k ∧ k ≤ ins.length ∧ IsT wr g bs (eachM (ins.take k) evs next l T) ∧ Fr (tbL bs) w wr) (fun i _ => ins.length - (intOf i).toNat)
  case atStart => exact ⟨0, rfl, by omega, h, Fr.refl _ _⟩
  case round =>
    obtain ⟨k, rfl, hk, hT, hF⟩ := hrel
    by_cases hlt : k < ins.length
    · have hd : decide ((k : Int) < (ins.length : Int)) = true := by simp; omega
      have hc := hF.cell (hi k hlt) hi1
      have hsk := hi2 _ (List.getElem_mem hlt)
      obtain ⟨x, hx⟩ : ∃ x, ins[k] = x := ⟨_, rfl⟩
      rw [hx] at hc hsk
      obtain ⟨Tk, hTk⟩ : ∃ Tk, eachM (ins.take k) evs next l T = Tk := ⟨_, rfl⟩
      have hTk1 : eachM (ins.take (k + 1)) evs next l T = eachE x.toNat evs next l Tk := by unfold eachM; rw [foldl_take _ _ _ _ hlt, hx]; rw [← hTk]; rfl
      rw [hTk] at hT
      clear hx hTk
      obtain ⟨w1, rfl⟩ : ∃ w1, w1 = wr := ⟨_, rfl⟩
      go_wp2
      go_loopw [22] (fun i wz => ∃ j : Nat, i = .int .i64 j ∧ j ≤ evs.length ∧ IsT wz g bs (eachE x.toNat (evs.take j) next l Tk) ∧ Fr (tbL bs) w wz) (fun i _ => evs.length - (intOf i).toNat)
      case atStart => exact ⟨0, rfl, by omega, hT, hF⟩
      case round =>
        have hTk1' := hTk1
        clear hT hF hd hc hTk1
        obtain ⟨j, rfl, hj, hT, hF⟩ := hrel
        by_cases hlt2 : j < evs.length
        · have hd2 : decide ((j : Int) < (evs.length : Int)) = true := by simp; omega
          have hc2 := hF.cell (he j hlt2) he1
          have hsj := he2 _ (List.getElem_mem hlt2)
          have hlz := hl.frL hF hn
          have hgo : eachE x.toNat (evs.take (j + 1)) next l Tk = layM x.toNat (evs[j]).toNat next l (eachE x.toNat (evs.take j) next l Tk) := by unfold eachE; rw [foldl_take _ _ _ _ hlt2]
          go_wp2_with fail
          refine (slices_Clone _ _ l hlz (by omega)).mono ?_
          rintro e w2 ⟨s, rfl, hs, hy, f2⟩
          go_wp2_with fail
          refine (grid_lay w2 g cap bs _ x evs[j] next l s.A s.n s.c (hT.fr f2) hsk.1 hsk.2 hsj.1 hsj.2 hs (fun B n' c' e hB => by have := hy B n' c' e; have := hT.lt _ hB; omega)).mono ?_
          rintro e w3 ⟨rfl, hT3, f3⟩
          rw [← hgo] at hT3
          go_wp2
          go_roundw
          case rel => exact ⟨j + 1, by simp, by omega, hT3, (hF.tr0 f2).tr f3⟩
          case measure => simp [intOf]; omega
        · have hd2 : decide ((j : Int) < (evs.length : Int)) = false := by simp; omega
          have hkl : evs.take j = evs := List.take_of_length_le (by omega)
          rw [hkl] at hT
          clear hkl
          go_wp2
          go_roundw
          case rel => exact ⟨k + 1, by simp, by omega, by rw [hTk1']; exact hT, hF⟩
          case measure => simp [intOf]; omega
    · have hd : decide ((k : Int) < (ins.length : Int)) = false := by simp; omega
      have hkl : ins.take k = ins := List.take_of_length_le (by omega)
      rw [hkl] at hT
      clear hkl
      go_wp2
      go_end0
      exact ⟨rfl, hT, hF⟩
end Go.Proofs.Ytaefahbgeokopaa
