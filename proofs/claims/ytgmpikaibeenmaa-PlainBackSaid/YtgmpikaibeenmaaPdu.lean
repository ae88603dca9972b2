
/- PDUs as values, rows of bytes; which PDU may be; copies. -/
import Derived.Test.YtgmpikaibeenmaaParG
import Derived.Test.YtgmpikaibeenmaaProg
import Derived.WalkLawsBesides
import Derived.WalkSpells
import Derived.Outline
import Derived.Laws.BitsLemmas
import Derived.BigQuiet
import Derived.Lib.Hide
namespace Go.Proofs.Ytgmpikaibeenmaa
open Go.RowKit
set_option linter.unusedVariables false
set_option linter.unusedSimpArgs false
set_option maxRecDepth 100000

/-- A PDU, its bytes as numbers. -/
structure PD where
  to : Int
  fr : Int
  rs : Bool
  fm : Int
  kd : Int
  ns : Int
  nr : Int
  po : Bool
  info : List Int
deriving DecidableEq
abbrev PD.val (d : PD) (s : Sl) : Value := .agg #[.int .i64 d.to, .int .i64 d.fr, .bool d.rs, .int .i64 d.fm, .int .i64 d.kd, .int .i64 d.ns, .int .i64 d.nr, .bool d.po, .slice s.A s.n s.c]
abbrev PD.arr (d : PD) (s : Sl) : Array Value := #[.int .i64 d.to, .int .i64 d.fr, .bool d.rs, .int .i64 d.fm, .int .i64 d.kd, .int .i64 d.ns, .int .i64 d.nr, .bool d.po, .slice s.A s.n s.c]
def PD.none : PD := ⟨0, 0, false, 0, 0, 0, 0, false, []⟩
/-- A slice of these bytes, that lies below N, or in a block of bytes. -/
def Bts (N : Nat) (w : World) (s : Sl) (l : List Int) : Prop := Ints .u8 w s.v l ∧ (l ≠ [] → ∀ b ∈ s.blk, b < N ∨ ∃ cs f, w.heap[b]? = some (.cells cs 5 f))
theorem Ints.n' {k : IntKind} {w : World} {s : Sl} {l : List Int} (h : Ints k w s.v l) : s.n = l.length := by
  rcases h with ⟨e, rfl⟩ | ⟨A, cap, e, _⟩
  · cases s; simp [Sl.v] at e; simp [e]
  · cases s; simp [Sl.v] at e; simp [e]
theorem Ints.at' {k : IntKind} {w : World} {s : Sl} {l : List Int} (h : Ints k w s.v l) (i : Nat) (hi : i < l.length) : ∃ b off, s.A = some ⟨b, off, none⟩ ∧ w.cell? ⟨b, off + i, none⟩ = some (.int k l[i]) := by
  rcases h with ⟨e, rfl⟩ | ⟨A, cap, e, hA⟩
  · simp at hi
  · obtain ⟨b, off, x, eA, hc, -, rfl⟩ := hA.at_ i hi
    cases eA
    cases s
    simp only [Sl.v, Value.slice.injEq] at e
    exact ⟨b, off, e.1, hc⟩
theorem Bts.n {N : Nat} {w : World} {s : Sl} {l : List Int} (h : Bts N w s l) : s.n = l.length := h.1.n'
theorem Bts.nil (N : Nat) (w : World) : Bts N w Sl.nil [] := ⟨Ints.nil _ _, fun h => absurd rfl h⟩
theorem Bts.fr {N : Nat} {w w' : World} {s : Sl} {l : List Int} (h : Bts N w s l) (f : Fr [] w w') : Bts N w' s l := ⟨h.1.fr f, fun hl b hb => (h.2 hl b hb).imp id fun ⟨cs, fz, e⟩ => ⟨cs, fz, f.keeps e (by simp)⟩⟩
theorem blk_mem {s : Sl} {A : Addr} {n c : Nat} (e : s.v = .slice (some A) n c) : A.block ∈ s.blk := by cases s; simp only [Sl.v, Value.slice.injEq] at e; simp [Sl.blk, e.1]
theorem mem_blk {s : Sl} {b : Nat} (h : b ∈ s.blk) : ∃ A, s.A = some A ∧ A.block = b := by
  cases hA : s.A with
  | none => simp [Sl.blk, hA] at h
  | some a => simp [Sl.blk, hA] at h; exact ⟨a, rfl, h.symm⟩
/-- Behind a change of blocks from N on that hold no bytes. -/
theorem Bts.frL {N : Nat} {w w' : World} {s : Sl} {l : List Int} {L : List Nat} (h : Bts N w s l) (f : Fr L w w') (hL : ∀ x ∈ L, N ≤ x ∧ ∀ cs fz, w.heap[x]? ≠ some (.cells cs 5 fz)) : Bts N w' s l := by
  by_cases hl : l = []
  · subst hl
    refine ⟨?_, fun h => absurd rfl h⟩
    rcases h.1 with h1 | ⟨A, cap, e, h1⟩
    · exact .inl h1
    · exact .inr ⟨A, cap, e, by simp, .inl rfl⟩
  · have hn : ∀ b ∈ s.blk, b ∉ L := fun b hb hm => by
      rcases h.2 hl b hb with h1 | ⟨cs, fz, e⟩
      · have := (hL b hm).1; omega
      · exact (hL b hm).2 cs fz e
    exact ⟨h.1.frL f fun A n c e => hn _ (blk_mem e), fun hl b hb => (h.2 hl b hb).imp id fun ⟨cs, fz, e⟩ => ⟨cs, fz, f.keeps e (hn b hb)⟩⟩
theorem Bts.more {N N' : Nat} {w : World} {s : Sl} {l : List Int} (h : Bts N w s l) (hN : N ≤ N') : Bts N' w s l := ⟨h.1, fun hl b hb => (h.2 hl b hb).imp (fun h => by omega) id⟩
theorem Bts.low {N : Nat} {w : World} {s : Sl} {l : List Int} (h : Bts N w s l) (N' : Nat) (hy : ∀ b ∈ s.blk, N ≤ b) : Bts N' w s l := ⟨h.1, fun hl b hb => .inr ((h.2 hl b hb).resolve_left (fun h => by have := hy b hb; omega))⟩
/-- An argument's bytes. -/
theorem Bts.arg {w : World} {s : Sl} {l : List Int} (h : Ints .u8 w s.v l) : Bts w.heap.size w s l := by
  refine ⟨h, fun hl b hb => .inl ?_⟩
  obtain ⟨A, hA, rfl⟩ := mem_blk hb
  obtain ⟨b, o, e, hc⟩ := h.at' 0 (List.length_pos_iff.2 hl)
  rw [hA] at e; cases e
  exact World.block_lt_of_cell? w _ hc
theorem Bts.own {N : Nat} {w : World} {s : Sl} {l : List Int} (h : w.ownsRow N 5 1 s.v l.length (l.map (Value.int .u8))) (hw : ∀ x ∈ l, (Lit.int .u8 x).wf = true) (N' : Nat) : Bts N' w s l := by
  refine ⟨Ints.own h hw, fun hl b hb => .inr ?_⟩
  obtain ⟨A, hA, rfl⟩ := mem_blk hb
  rcases h.2 with ⟨e, _⟩ | ⟨g, cap, cur, e, hg, hc, _⟩
  · cases s; simp only [Sl.v, Value.slice.injEq] at e; rw [e.1] at hA; cases hA
  · cases s; simp only [Sl.v, Value.slice.injEq] at e; rw [e.1] at hA; cases hA; exact ⟨_, _, hc⟩
theorem Bts.wf {N : Nat} {w : World} {s : Sl} {l : List Int} (h : Bts N w s l) : ∀ x ∈ l, (Lit.int .u8 x).wf = true := by
  rcases h.1 with ⟨_, rfl⟩ | ⟨A, cap, e, h1⟩
  · simp
  · exact h1.1
theorem own_blk {w : World} {B : Nat} {e : TypeId} {size n : Nat} {s : Sl} {xs : List Value} (h : w.ownsRow B e size s.v n xs) : ∀ b ∈ s.blk, B ≤ b ∧ ∃ cs, w.heap[b]? = some (.cells cs e (0, 0)) := by
  intro b hb
  obtain ⟨A, hA, rfl⟩ := mem_blk hb
  rcases h.2 with ⟨e, _⟩ | ⟨g, cap, cur, e, hg, hc, _⟩
  · cases s; simp only [Sl.v, Value.slice.injEq] at e; rw [e.1] at hA; cases hA
  · cases s; simp only [Sl.v, Value.slice.injEq] at e; rw [e.1] at hA; cases hA; exact ⟨hg, _, hc⟩
theorem own_sl' {w : World} {B : Nat} {e : TypeId} {z n : Nat} {v : Value} {xs : List Value} (h : w.ownsRow B e z v n xs) : ∃ s : Sl, v = .slice s.A s.n s.c := by
  rcases h.2 with ⟨e, _⟩ | ⟨g, cap, cur, e, _⟩
  · exact ⟨Sl.nil, e⟩
  · exact ⟨⟨_, _, _⟩, e⟩
theorem own_fr {w w' : World} {B : Nat} {e : TypeId} {size n : Nat} {v : Value} {xs : List Value} (h : w.ownsRow B e size v n xs) (f : Fr [] w w') : w'.ownsRow B e size v n xs := Own.keeps _ _ _ f h
/-- Fresh bytes: what a function hands out. -/
def New (w w' : World) (v : Value) (l : List Int) : Prop := ∃ s : Sl, v = .slice s.A s.n s.c ∧ Bts w.heap.size w' s l ∧ (∀ b ∈ s.blk, w.heap.size ≤ b)
theorem band1 {z : Int} (h0 : 0 ≤ z) (h1 : z < 2 ^ 63) : bits .and .i64 z 1 = z % 2 := by
  have h := bits_mask .i64 63 (by decide) (fun n h0 h1 => IntWalk.i64_in n (by omega)) 1 (by decide) z h0 h1
  simpa using h
theorem slnil (a : Addr) (n c : Nat) (w : World) : (binOp BinOp.eql 27 (Value.slice (some a) n c) (Value.slice none 0 0)).run Try.prog w = .ok (.bool false) w := by kernel_rfl
theorem slnil0 (n c : Nat) (w : World) : (binOp BinOp.eql 27 (Value.slice none n c) (Value.slice none 0 0)).run Try.prog w = .ok (.bool true) w := by kernel_rfl
attribute [local go_sem] slnil slnil0

set_option maxHeartbeats 1000000 in
theorem bytes_Clone (w : World) (N : Nat) (s : Sl) (l : List Int) (h : Bts N w s l) (hl : l.length ≤ 100000) :
    Calls Try.prog 30 #[.slice s.A s.n s.c] w fun e w' => ∃ s' : Sl, e = .returned (.slice s'.A s'.n s'.c) ∧ Bts N w' s' l ∧ (∀ b ∈ s'.blk, w.heap.size ≤ b) ∧ Fr [] w w' := by
  obtain ⟨ji, j0, j1, j2, j3⟩ := info_parts (show (Try.prog.info? 5).map (fun i => (i.zero, i.size, i.bytes)) = some (some (.int .u8 0), 1, 1) by kernel_rfl)
  have ju : Try.prog.underlying 27 = some (.slice 5) := Try.underlying27
  cases hA : s.A with
  | none =>
    have hl0 : l = [] := by
      rcases h.1 with ⟨_, h⟩ | ⟨A, cap, e, _⟩
      · exact h
      · cases s; simp only [Sl.v, Value.slice.injEq] at e; rw [e.1] at hA; cases hA
    subst hl0
    go_enter Try.func30, Try.ntmps30
    go_wp2
    go_ret
    exact ⟨Sl.nil, rfl, Bts.nil _ _, by simp [Sl.blk, Sl.nil], Fr.refl _ _⟩
  | some a =>
    have hw := h.wf
    have hsrc : Src l.length (l.map (Value.int .u8)) (w.alloc (.cells #[] 5)) s.v := (Src.ints h.1).fr ((Fr.refl [] w).alloc _) (fun _ _ _ _ => by simp)
    rw [show s.v = .slice (some a) s.n s.c by rw [← hA]] at hsrc
    clear hA h
    go_enter Try.func30, Try.ntmps30
    go_wp2_with (at_builtin; refine wpList_append_src rfl _ _ 27 rfl w.heap.size 5 ji (.int .u8 0) 1 1 ju j0 j1 j2 j3 rfl (by decide) _ 0 [] rfl (Own.new (N := w.heap.size) 5 1 (Nat.le_refl _)) _ l.length (l.map (Value.int .u8)) rfl hsrc (by simp) ints_one (by unfold maxLen; omega) (by omega) (by simp) ?_)
    intro v' w4 hown4 hgrow
    obtain ⟨s2, rfl⟩ := own_sl' hown4
    have f4 : Fr [] w w4 := ((Fr.refl [] w).alloc _).grown hgrow (fun k hk => .inr (by cases hk; exact Nat.le_refl _))
    go_wp2
    go_ret
    exact ⟨s2, rfl, Bts.own hown4 hw _, fun b hb => (own_blk hown4 b hb).1, f4⟩


def within (x m : Int) : Bool := decide (0 ≤ x) && decide (x ≤ m)
def odd (x : Int) : Bool := x % 2 == 1
/-- Whether a U PDU may be as its kind asks. -/
def kindB (d : PD) : Bool :=
  if d.kd = 0 then !d.rs
  else if d.kd = 1 ∨ d.kd = 2 then true
  else if d.kd = 3 ∨ d.kd = 4 then !d.rs && !odd d.to && (d.info.length : Int) == 4
  else if d.kd = 5 ∨ d.kd = 6 then d.rs && !odd d.to && (d.info.length : Int) == 4
  else if d.kd = 7 then d.rs && !odd d.to && (d.info.length : Int) == 5
  else if d.kd = 8 ∨ d.kd = 9 then !odd d.to
  else false
/-- Whether a PDU may be. -/
def mayB (d : PD) : Bool :=
  within d.to 255 && within d.fr 254 && !odd d.fr && within d.ns 127 && within d.nr 127 && decide ((d.info.length : Int) ≤ 1040) &&
  (if d.fm = 0 then d.kd == 0 && !odd d.to
   else if d.fm = 1 then within d.kd 2 && d.ns == 0 && (d.info.length : Int) == 0 && !odd d.to
   else if d.fm = 2 then d.ns == 0 && d.nr == 0 && kindB d
   else false)
theorem pdu_within (x m : Int) (w : World) : Calls Try.prog 43 #[.int .i64 x, .int .i64 m] w fun e w' => e = .returned (.bool (within x m)) ∧ w = w' := by
  unfold within
  by_cases h1 : 0 ≤ x
  · have d1 : decide (0 ≤ x) = true := by simpa using h1
    cases d2 : decide (x ≤ m)
    all_goals
      rw [d1]
      go_enter Try.func43, Try.ntmps43
      go_wp2
      go_ret
      exact ⟨rfl, rfl⟩
  · have d1 : decide (0 ≤ x) = false := by simpa using h1
    rw [d1]
    go_enter Try.func43, Try.ntmps43
    go_wp2
    go_ret
    exact ⟨rfl, rfl⟩

set_option maxHeartbeats 4000000 in
theorem pdu_kind (d : PD) (s : Sl) (w : World) (hn : s.n = d.info.length) (h0 : 0 ≤ d.to) (h1 : d.to ≤ 255) : Calls Try.prog 44 #[d.val s] w fun e w' => e = .returned (.bool (kindB d)) ∧ Fr [] w w' := by
  obtain ⟨to, fr, rs, fm, kd, ns, nr, po, info⟩ := d
  obtain ⟨A, n, c⟩ := s
  simp only at hn h0 h1
  subst hn
  have hb := band1 h0 (by omega)
  simp only [PD.val]
  by_cases hc0 : kd = 0
  · have e0 : (kd == 0) = true := by simp; omega
    have e0n : (kd != 0) = false := by simp; omega
    cases rs with
    | true =>
      have hk : kindB (⟨to, fr, true, fm, kd, ns, nr, po, info⟩ : PD) = false := by simp only [kindB]; rw [if_pos (by omega)]; rfl
      rw [hk]
      clear hk 
      go_enter Try.func44, Try.ntmps44
      go_wp2
      go_ret
      exact ⟨rfl, (Fr.refl _ _).alloc _⟩
    | false =>
      have hk : kindB (⟨to, fr, false, fm, kd, ns, nr, po, info⟩ : PD) = true := by simp only [kindB]; rw [if_pos (by omega)]; rfl
      rw [hk]
      clear hk 
      go_enter Try.func44, Try.ntmps44
      go_wp2
      go_ret
      exact ⟨rfl, (Fr.refl _ _).alloc _⟩
  · have e0 : (kd == 0) = false := by simp; omega
    have e0n : (kd != 0) = true := by simp; omega
    by_cases hc1 : kd = 1
    · have e1 : (kd == 1) = true := by simp; omega
      have e1n : (kd != 1) = false := by simp; omega
      have hk : kindB (⟨to, fr, rs, fm, kd, ns, nr, po, info⟩ : PD) = true := by simp only [kindB]; rw [if_neg (by omega), if_pos (by omega)]
      rw [hk]
      clear hk 
      go_enter Try.func44, Try.ntmps44
      go_wp2
      go_ret
      exact ⟨rfl, (Fr.refl _ _).alloc _⟩
    · have e1 : (kd == 1) = false := by simp; omega
      have e1n : (kd != 1) = true := by simp; omega
      by_cases hc2 : kd = 2
      · have e2 : (kd == 2) = true := by simp; omega
        have e2n : (kd != 2) = false := by simp; omega
        have hk : kindB (⟨to, fr, rs, fm, kd, ns, nr, po, info⟩ : PD) = true := by simp only [kindB]; rw [if_neg (by omega), if_pos (by omega)]
        rw [hk]
        clear hk 
        go_enter Try.func44, Try.ntmps44
        go_wp2
        go_ret
        exact ⟨rfl, (Fr.refl _ _).alloc _⟩
      · have e2 : (kd == 2) = false := by simp; omega
        have e2n : (kd != 2) = true := by simp; omega
        by_cases hc3 : kd = 3
        · have e3 : (kd == 3) = true := by simp; omega
          have e3n : (kd != 3) = false := by simp; omega
          cases rs with
          | true =>
            have hk : kindB (⟨to, fr, true, fm, kd, ns, nr, po, info⟩ : PD) = false := by simp only [kindB]; rw [if_neg (by omega), if_neg (by omega), if_pos (by omega)]; simp
            rw [hk]
            clear hk 
            go_enter Try.func44, Try.ntmps44
            go_wp2
            go_ret
            exact ⟨rfl, (Fr.refl _ _).alloc _⟩
          | false =>
            by_cases ho : to % 2 = 1
            · have eo : (to % 2 == 1) = true := by simp; omega
              have hk : kindB (⟨to, fr, false, fm, kd, ns, nr, po, info⟩ : PD) = false := by simp only [kindB]; rw [if_neg (by omega), if_neg (by omega), if_pos (by omega)]; simp [odd, ho]
              rw [hk]
              clear hk 
              go_enter Try.func44, Try.ntmps44
              go_wp2
              go_ret
              exact ⟨rfl, (Fr.refl _ _).alloc _⟩
            · have eo : (to % 2 == 1) = false := by simp; omega
              by_cases hl : (info.length : Int) = 4
              · have el : ((info.length : Int) == 4) = true := by simp; omega
                have hk : kindB (⟨to, fr, false, fm, kd, ns, nr, po, info⟩ : PD) = true := by simp only [kindB]; rw [if_neg (by omega), if_neg (by omega), if_pos (by omega)]; simp [odd, ho, hl]
                rw [hk]
                clear hk 
                go_enter Try.func44, Try.ntmps44
                go_wp2
                go_ret
                exact ⟨rfl, (Fr.refl _ _).alloc _⟩
              · have el : ((info.length : Int) == 4) = false := by simp; omega
                have hk : kindB (⟨to, fr, false, fm, kd, ns, nr, po, info⟩ : PD) = false := by simp only [kindB]; rw [if_neg (by omega), if_neg (by omega), if_pos (by omega)]; simp [odd, ho, hl]
                rw [hk]
                clear hk 
                go_enter Try.func44, Try.ntmps44
                go_wp2
                go_ret
                exact ⟨rfl, (Fr.refl _ _).alloc _⟩
        · have e3 : (kd == 3) = false := by simp; omega
          have e3n : (kd != 3) = true := by simp; omega
          by_cases hc4 : kd = 4
          · have e4 : (kd == 4) = true := by simp; omega
            have e4n : (kd != 4) = false := by simp; omega
            cases rs with
            | true =>
              have hk : kindB (⟨to, fr, true, fm, kd, ns, nr, po, info⟩ : PD) = false := by simp only [kindB]; rw [if_neg (by omega), if_neg (by omega), if_pos (by omega)]; simp
              rw [hk]
              clear hk 
              go_enter Try.func44, Try.ntmps44
              go_wp2
              go_ret
              exact ⟨rfl, (Fr.refl _ _).alloc _⟩
            | false =>
              by_cases ho : to % 2 = 1
              · have eo : (to % 2 == 1) = true := by simp; omega
                have hk : kindB (⟨to, fr, false, fm, kd, ns, nr, po, info⟩ : PD) = false := by simp only [kindB]; rw [if_neg (by omega), if_neg (by omega), if_pos (by omega)]; simp [odd, ho]
                rw [hk]
                clear hk 
                go_enter Try.func44, Try.ntmps44
                go_wp2
                go_ret
                exact ⟨rfl, (Fr.refl _ _).alloc _⟩
              · have eo : (to % 2 == 1) = false := by simp; omega
                by_cases hl : (info.length : Int) = 4
                · have el : ((info.length : Int) == 4) = true := by simp; omega
                  have hk : kindB (⟨to, fr, false, fm, kd, ns, nr, po, info⟩ : PD) = true := by simp only [kindB]; rw [if_neg (by omega), if_neg (by omega), if_pos (by omega)]; simp [odd, ho, hl]
                  rw [hk]
                  clear hk 
                  go_enter Try.func44, Try.ntmps44
                  go_wp2
                  go_ret
                  exact ⟨rfl, (Fr.refl _ _).alloc _⟩
                · have el : ((info.length : Int) == 4) = false := by simp; omega
                  have hk : kindB (⟨to, fr, false, fm, kd, ns, nr, po, info⟩ : PD) = false := by simp only [kindB]; rw [if_neg (by omega), if_neg (by omega), if_pos (by omega)]; simp [odd, ho, hl]
                  rw [hk]
                  clear hk 
                  go_enter Try.func44, Try.ntmps44
                  go_wp2
                  go_ret
                  exact ⟨rfl, (Fr.refl _ _).alloc _⟩
          · have e4 : (kd == 4) = false := by simp; omega
            have e4n : (kd != 4) = true := by simp; omega
            by_cases hc5 : kd = 5
            · have e5 : (kd == 5) = true := by simp; omega
              have e5n : (kd != 5) = false := by simp; omega
              cases rs with
              | true =>
                by_cases ho : to % 2 = 1
                · have eo : (to % 2 == 1) = true := by simp; omega
                  have hk : kindB (⟨to, fr, true, fm, kd, ns, nr, po, info⟩ : PD) = false := by simp only [kindB]; rw [if_neg (by omega), if_neg (by omega), if_neg (by omega), if_pos (by omega)]; simp [odd, ho]
                  rw [hk]
                  clear hk 
                  go_enter Try.func44, Try.ntmps44
                  go_wp2
                  go_ret
                  exact ⟨rfl, (Fr.refl _ _).alloc _⟩
                · have eo : (to % 2 == 1) = false := by simp; omega
                  by_cases hl : (info.length : Int) = 4
                  · have el : ((info.length : Int) == 4) = true := by simp; omega
                    have hk : kindB (⟨to, fr, true, fm, kd, ns, nr, po, info⟩ : PD) = true := by simp only [kindB]; rw [if_neg (by omega), if_neg (by omega), if_neg (by omega), if_pos (by omega)]; simp [odd, ho, hl]
                    rw [hk]
                    clear hk 
                    go_enter Try.func44, Try.ntmps44
                    go_wp2
                    go_ret
                    exact ⟨rfl, (Fr.refl _ _).alloc _⟩
                  · have el : ((info.length : Int) == 4) = false := by simp; omega
                    have hk : kindB (⟨to, fr, true, fm, kd, ns, nr, po, info⟩ : PD) = false := by simp only [kindB]; rw [if_neg (by omega), if_neg (by omega), if_neg (by omega), if_pos (by omega)]; simp [odd, ho, hl]
                    rw [hk]
                    clear hk 
                    go_enter Try.func44, Try.ntmps44
                    go_wp2
                    go_ret
                    exact ⟨rfl, (Fr.refl _ _).alloc _⟩
              | false =>
                have hk : kindB (⟨to, fr, false, fm, kd, ns, nr, po, info⟩ : PD) = false := by simp only [kindB]; rw [if_neg (by omega), if_neg (by omega), if_neg (by omega), if_pos (by omega)]; simp
                rw [hk]
                clear hk 
                go_enter Try.func44, Try.ntmps44
                go_wp2
                go_ret
                exact ⟨rfl, (Fr.refl _ _).alloc _⟩
            · have e5 : (kd == 5) = false := by simp; omega
              have e5n : (kd != 5) = true := by simp; omega
              by_cases hc6 : kd = 6
              · have e6 : (kd == 6) = true := by simp; omega
                have e6n : (kd != 6) = false := by simp; omega
                cases rs with
                | true =>
                  by_cases ho : to % 2 = 1
                  · have eo : (to % 2 == 1) = true := by simp; omega
                    have hk : kindB (⟨to, fr, true, fm, kd, ns, nr, po, info⟩ : PD) = false := by simp only [kindB]; rw [if_neg (by omega), if_neg (by omega), if_neg (by omega), if_pos (by omega)]; simp [odd, ho]
                    rw [hk]
                    clear hk 
                    go_enter Try.func44, Try.ntmps44
                    go_wp2
                    go_ret
                    exact ⟨rfl, (Fr.refl _ _).alloc _⟩
                  · have eo : (to % 2 == 1) = false := by simp; omega
                    by_cases hl : (info.length : Int) = 4
                    · have el : ((info.length : Int) == 4) = true := by simp; omega
                      have hk : kindB (⟨to, fr, true, fm, kd, ns, nr, po, info⟩ : PD) = true := by simp only [kindB]; rw [if_neg (by omega), if_neg (by omega), if_neg (by omega), if_pos (by omega)]; simp [odd, ho, hl]
                      rw [hk]
                      clear hk 
                      go_enter Try.func44, Try.ntmps44
                      go_wp2
                      go_ret
                      exact ⟨rfl, (Fr.refl _ _).alloc _⟩
                    · have el : ((info.length : Int) == 4) = false := by simp; omega
                      have hk : kindB (⟨to, fr, true, fm, kd, ns, nr, po, info⟩ : PD) = false := by simp only [kindB]; rw [if_neg (by omega), if_neg (by omega), if_neg (by omega), if_pos (by omega)]; simp [odd, ho, hl]
                      rw [hk]
                      clear hk 
                      go_enter Try.func44, Try.ntmps44
                      go_wp2
                      go_ret
                      exact ⟨rfl, (Fr.refl _ _).alloc _⟩
                | false =>
                  have hk : kindB (⟨to, fr, false, fm, kd, ns, nr, po, info⟩ : PD) = false := by simp only [kindB]; rw [if_neg (by omega), if_neg (by omega), if_neg (by omega), if_pos (by omega)]; simp
                  rw [hk]
                  clear hk 
                  go_enter Try.func44, Try.ntmps44
                  go_wp2
                  go_ret
                  exact ⟨rfl, (Fr.refl _ _).alloc _⟩
              · have e6 : (kd == 6) = false := by simp; omega
                have e6n : (kd != 6) = true := by simp; omega
                by_cases hc7 : kd = 7
                · have e7 : (kd == 7) = true := by simp; omega
                  have e7n : (kd != 7) = false := by simp; omega
                  cases rs with
                  | true =>
                    by_cases ho : to % 2 = 1
                    · have eo : (to % 2 == 1) = true := by simp; omega
                      have hk : kindB (⟨to, fr, true, fm, kd, ns, nr, po, info⟩ : PD) = false := by simp only [kindB]; rw [if_neg (by omega), if_neg (by omega), if_neg (by omega), if_neg (by omega), if_pos (by omega)]; simp [odd, ho]
                      rw [hk]
                      clear hk 
                      go_enter Try.func44, Try.ntmps44
                      go_wp2
                      go_ret
                      exact ⟨rfl, (Fr.refl _ _).alloc _⟩
                    · have eo : (to % 2 == 1) = false := by simp; omega
                      by_cases hl : (info.length : Int) = 5
                      · have el : ((info.length : Int) == 5) = true := by simp; omega
                        have hk : kindB (⟨to, fr, true, fm, kd, ns, nr, po, info⟩ : PD) = true := by simp only [kindB]; rw [if_neg (by omega), if_neg (by omega), if_neg (by omega), if_neg (by omega), if_pos (by omega)]; simp [odd, ho, hl]
                        rw [hk]
                        clear hk 
                        go_enter Try.func44, Try.ntmps44
                        go_wp2
                        go_ret
                        exact ⟨rfl, (Fr.refl _ _).alloc _⟩
                      · have el : ((info.length : Int) == 5) = false := by simp; omega
                        have hk : kindB (⟨to, fr, true, fm, kd, ns, nr, po, info⟩ : PD) = false := by simp only [kindB]; rw [if_neg (by omega), if_neg (by omega), if_neg (by omega), if_neg (by omega), if_pos (by omega)]; simp [odd, ho, hl]
                        rw [hk]
                        clear hk 
                        go_enter Try.func44, Try.ntmps44
                        go_wp2
                        go_ret
                        exact ⟨rfl, (Fr.refl _ _).alloc _⟩
                  | false =>
                    have hk : kindB (⟨to, fr, false, fm, kd, ns, nr, po, info⟩ : PD) = false := by simp only [kindB]; rw [if_neg (by omega), if_neg (by omega), if_neg (by omega), if_neg (by omega), if_pos (by omega)]; simp
                    rw [hk]
                    clear hk 
                    go_enter Try.func44, Try.ntmps44
                    go_wp2
                    go_ret
                    exact ⟨rfl, (Fr.refl _ _).alloc _⟩
                · have e7 : (kd == 7) = false := by simp; omega
                  have e7n : (kd != 7) = true := by simp; omega
                  by_cases hc8 : kd = 8
                  · have e8 : (kd == 8) = true := by simp; omega
                    have e8n : (kd != 8) = false := by simp; omega
                    by_cases ho : to % 2 = 1
                    · have eo : (to % 2 == 1) = true := by simp; omega
                      have hk : kindB (⟨to, fr, rs, fm, kd, ns, nr, po, info⟩ : PD) = false := by simp only [kindB]; rw [if_neg (by omega), if_neg (by omega), if_neg (by omega), if_neg (by omega), if_neg (by omega), if_pos (by omega)]; simp [odd, ho]
                      rw [hk]
                      clear hk 
                      go_enter Try.func44, Try.ntmps44
                      go_wp2
                      go_ret
                      exact ⟨rfl, (Fr.refl _ _).alloc _⟩
                    · have eo : (to % 2 == 1) = false := by simp; omega
                      have hk : kindB (⟨to, fr, rs, fm, kd, ns, nr, po, info⟩ : PD) = true := by simp only [kindB]; rw [if_neg (by omega), if_neg (by omega), if_neg (by omega), if_neg (by omega), if_neg (by omega), if_pos (by omega)]; simp [odd, ho]
                      rw [hk]
                      clear hk 
                      go_enter Try.func44, Try.ntmps44
                      go_wp2
                      go_ret
                      exact ⟨rfl, (Fr.refl _ _).alloc _⟩
                  · have e8 : (kd == 8) = false := by simp; omega
                    have e8n : (kd != 8) = true := by simp; omega
                    by_cases hc9 : kd = 9
                    · have e9 : (kd == 9) = true := by simp; omega
                      have e9n : (kd != 9) = false := by simp; omega
                      by_cases ho : to % 2 = 1
                      · have eo : (to % 2 == 1) = true := by simp; omega
                        have hk : kindB (⟨to, fr, rs, fm, kd, ns, nr, po, info⟩ : PD) = false := by simp only [kindB]; rw [if_neg (by omega), if_neg (by omega), if_neg (by omega), if_neg (by omega), if_neg (by omega), if_pos (by omega)]; simp [odd, ho]
                        rw [hk]
                        clear hk 
                        go_enter Try.func44, Try.ntmps44
                        go_wp2
                        go_ret
                        exact ⟨rfl, (Fr.refl _ _).alloc _⟩
                      · have eo : (to % 2 == 1) = false := by simp; omega
                        have hk : kindB (⟨to, fr, rs, fm, kd, ns, nr, po, info⟩ : PD) = true := by simp only [kindB]; rw [if_neg (by omega), if_neg (by omega), if_neg (by omega), if_neg (by omega), if_neg (by omega), if_pos (by omega)]; simp [odd, ho]
                        rw [hk]
                        clear hk 
                        go_enter Try.func44, Try.ntmps44
                        go_wp2
                        go_ret
                        exact ⟨rfl, (Fr.refl _ _).alloc _⟩
                    · have e9 : (kd == 9) = false := by simp; omega
                      have e9n : (kd != 9) = true := by simp; omega
                      have hk : kindB (⟨to, fr, rs, fm, kd, ns, nr, po, info⟩ : PD) = false := by simp only [kindB]; rw [if_neg (by omega), if_neg (by omega), if_neg (by omega), if_neg (by omega), if_neg (by omega), if_neg (by omega)]
                      rw [hk]
                      clear hk 
                      go_enter Try.func44, Try.ntmps44
                      go_wp2
                      go_ret
                      exact ⟨rfl, (Fr.refl _ _).alloc _⟩
end Go.Proofs.Ytgmpikaibeenmaa
