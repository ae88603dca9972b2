
/- The reference's SAPs in memory, and what each of its functions does. -/
import Derived.Test.YtgmpikaibeenmaaSapsQ
import Derived.Test.YtgmpikaibeenmaaParG
namespace Go.Proofs.Ytgmpikaibeenmaa
open Go.RowKit Go.Shelf Go.ChangeMaps
set_option linter.unusedVariables false
set_option linter.unusedSimpArgs false
set_option maxRecDepth 100000

theorem flat_get {α β : Type} (f : α → List β) (n : Nat) (hf : ∀ x, (f x).length = n) : ∀ (l : List α) (i j : Nat) (hi : i < l.length), j < n → (l.flatMap f)[i * n + j]? = (f l[i])[j]?
  | x :: l, 0, j, _, hj => by
    rw [List.flatMap_cons, List.getElem?_append_left (by rw [hf]; omega)]; simp
  | x :: l, i + 1, j, hi, hj => by
    rw [List.flatMap_cons, List.getElem?_append_right (by rw [hf, Nat.succ_mul]; omega), hf, show (i + 1) * n + j - n = i * n + j by rw [Nat.succ_mul]; omega]
    simpa using flat_get f n hf l i j (by simpa using hi) hj
theorem flat_len {α β : Type} (f : α → List β) (n : Nat) (hf : ∀ x, (f x).length = n) : ∀ l : List α, (l.flatMap f).length = l.length * n
  | [] => by simp
  | x :: l => by rw [List.flatMap_cons, List.length_append, hf, flat_len f n hf l, List.length_cons, Nat.succ_mul]; omega

/-- A SAP of the reference's. -/
structure RE where
  k : Int
  cls : Int
  gs : List Int
  g : Sl
def RE.a (x : RE) : AE := ⟨x.k, x.cls, x.gs⟩
def RE.cells (x : RE) : List Value := [.int .i64 x.k, .int .i64 x.cls, .slice x.g.A x.g.n x.g.c]
def flatR (R : List RE) : List Value := R.flatMap RE.cells
structure IsR (w : World) (q : Nat) (s : Sl) (R : List RE) : Prop where
  head : Blk w q #[.slice s.A s.n s.c] 84
  own : w.ownsRow 0 90 3 s.v R.length (flatR R)
  grp : ∀ x ∈ R, Ints .i64 w x.g.v x.gs
  off : ∀ x ∈ R, ∀ b ∈ x.g.blk, b ≠ q ∧ b ∉ s.blk
  sq : q ∉ s.blk
  exi : ∀ x ∈ R, ∀ b ∈ x.g.blk, ∃ cs t f, w.heap[b]? = some (.cells cs t f)
def rfoot (q : Nat) (s : Sl) (R : List RE) : List Nat := q :: (s.blk ++ R.flatMap fun x => x.g.blk)
def rmut (q : Nat) (s : Sl) : List Nat := q :: s.blk

theorem own_n {w : World} {B : Nat} {e : TypeId} {z n : Nat} {s : Sl} {xs : List Value} (h : w.ownsRow B e z s.v n xs) : s.n = n := by
  rcases h.2 with ⟨e, h0⟩ | ⟨g, cap, cur, e, _⟩
  · cases s; simp [Sl.v] at e; simp [e]; omega
  · cases s; simp [Sl.v] at e; simp [e]
theorem IsR.n_ {w : World} {q : Nat} {s : Sl} {R : List RE} (h : IsR w q s R) : s.n = R.length := own_n h.own
theorem own_at {w : World} {B : Nat} {e : TypeId} {z n : Nat} {s : Sl} {xs : List Value} (h : w.ownsRow B e z s.v n xs) (hn : 0 < n) : ∃ b, s.A = some ⟨b, 0, none⟩ ∧ ∀ i v, xs[i]? = some v → w.cell? ⟨b, i, none⟩ = some v := by
  have hc := @World.ownsRow.cells _ _ _ _ _ _ _ h
  rcases h.2 with ⟨e, h0⟩ | ⟨g, cap, cur, e, _⟩
  · omega
  · cases s
    simp only [Sl.v, Value.slice.injEq] at e
    obtain ⟨rfl, rfl, rfl⟩ := e
    refine ⟨g, rfl, fun i v hv => ?_⟩
    have := hc (g := g) rfl i v hv
    rw [Go.WideShapes.add_plain] at this
    simpa using this
theorem IsR.at_ {w : World} {q : Nat} {s : Sl} {R : List RE} (h : IsR w q s R) (i : Nat) (hi : i < R.length) : ∃ b, s.A = some ⟨b, 0, none⟩ ∧ w.cell? ⟨b, i * 3, none⟩ = some (.int .i64 R[i].k) ∧ w.cell? ⟨b, i * 3 + 1, none⟩ = some (.int .i64 R[i].cls) ∧ w.cell? ⟨b, i * 3 + 2, none⟩ = some (.slice R[i].g.A R[i].g.n R[i].g.c) := by
  obtain ⟨b, hb, hc⟩ := own_at h.own (by omega)
  have hg := fun j hj => flat_get RE.cells 3 (fun _ => rfl) R i j hi hj
  exact ⟨b, hb, hc _ _ (by have := hg 0 (by omega); simpa [flatR, RE.cells] using this), hc _ _ (by have := hg 1 (by omega); simpa [flatR, RE.cells] using this), hc _ _ (by have := hg 2 (by omega); simpa [flatR, RE.cells] using this)⟩

theorem IsR.c0 {w : World} {q : Nat} {s : Sl} {R : List RE} (h : IsR w q s R) : w.cell? ⟨q, 0, none⟩ = some (.slice s.A R.length s.c) := by rw [← h.n_]; exact h.head.cell 0 rfl

def idxR (R : List RE) (n : Int) : Int := match R.findIdx? (·.k == n) with | some i => (i : Int) | none => -1
theorem idx_none {R : List RE} {n : Int} (h : ∀ i (hi : i < R.length), R[i].k ≠ n) : idxR R n = -1 := by
  unfold idxR
  rw [List.findIdx?_eq_none_iff.2]
  intro x hx
  obtain ⟨i, hi, rfl⟩ := List.mem_iff_getElem.1 hx
  simpa using h i hi
theorem idx_some {R : List RE} {n : Int} {i : Nat} (hi : i < R.length) (h : R[i].k = n) (hb : ∀ j (hj : j < i), (R[j]'(by omega)).k ≠ n) : idxR R n = i := by
  unfold idxR
  rw [List.findIdx?_eq_some_iff_getElem.2 ⟨hi, by simpa using h, fun j hj => by simpa using hb j hj⟩]

theorem r_at (w : World) (q : Nat) (s : Sl) (R : List RE) (n : Int) (h : IsR w q s R) (hs : R.length ≤ 1000) :
    Calls Try.prog 41 #[.pointer (some ⟨q, 0, none⟩), .int .i64 n] w fun e w' => e = .returned (.int .i64 (idxR R n)) ∧ w = w' := by
  have c0 := h.c0
  go_enter Try.func41, Try.ntmps41
  go_wp2
  go_loopw [5] (fun i wr => ∃ k : Nat, i = .int .i64 k ∧ k ≤ R.length ∧ (∀ j (hj : j < k) (hl : j < R.length), R[j].k ≠ n) ∧ w = wr) (fun i _ => R.length - (intOf i).toNat)
  case atStart => exact ⟨0, rfl, by omega, fun j hj => by omega, rfl⟩
  case round =>
    obtain ⟨k, rfl, hk, hb, rfl⟩ := hrel
    have HB := Lib.hid hb
    clear hb
    by_cases hlt : k < R.length
    · obtain ⟨b, hA, c1, c2, c3⟩ := h.at_ k hlt
      rw [hA] at c0
      obtain ⟨x, hx⟩ : ∃ x, R[k] = x := ⟨_, rfl⟩
      rw [hx] at c1
      have HX := Lib.hid hx
      clear hx c2 c3 hA
      by_cases he : x.k = n
      · have e1 : (x.k == n) = true := by simpa using he
        have hi : idxR R n = (k : Int) := idx_some hlt (by rw [HX.out]; exact he) fun j hj => HB.out j hj (by omega)
        have HI := Lib.hid hi
        clear he hi
        go_wp2
        go_ret
        exact ⟨by rw [HI.out]; rfl, rfl⟩
      · have e1 : (x.k == n) = false := by simpa using he
        have hne : ∀ j (hj : j < k + 1) (hl : j < R.length), R[j].k ≠ n := fun j hj hl => by
          by_cases ej : j = k
          · subst ej; rw [HX.out]; exact he
          · exact HB.out j (by omega) hl
        have HN := Lib.hid hne
        clear he hne
        go_wp2
        go_roundw
        case rel => exact ⟨k + 1, by go_num, by omega, HN.out, trivial⟩
        case measure => simp [intOf]; omega
    · have hi : idxR R n = -1 := idx_none fun i hi => HB.out i (by omega) hi
      have HI := Lib.hid hi
      clear hi
      go_wp2
      go_ret
      exact ⟨by rw [HI.out]; rfl, rfl⟩

theorem r_in (w : World) (s : Sl) (l : List Int) (x : Int) (h : Ints .i64 w s.v l) (hs : l.length ≤ 100000) :
    Calls Try.prog 40 #[.slice s.A s.n s.c, .int .i64 x] w fun e w' => e = .returned (.bool (l.contains x)) ∧ w = w' := by
  rw [h.n_]
  go_enter Try.func40, Try.ntmps40
  go_wp2
  go_loopw [5] (fun i wr => ∃ k : Nat, i = .int .i64 k ∧ k ≤ l.length ∧ x ∉ l.take k ∧ w = wr) (fun i _ => l.length - (intOf i).toNat)
  case atStart => exact ⟨0, rfl, by omega, by simp, rfl⟩
  case round =>
    obtain ⟨k, rfl, hk, hb, rfl⟩ := hrel
    have HB := Lib.hid hb
    clear hb
    by_cases hlt : k < l.length
    · obtain ⟨b, o, hA, c1⟩ := h.at_ k hlt
      rw [hA]
      obtain ⟨y, hy⟩ : ∃ y, l[k] = y := ⟨_, rfl⟩
      rw [hy] at c1
      have HY := Lib.hid hy
      clear hy hA
      by_cases he : y = x
      · have e1 : (y == x) = true := by simpa using he
        have hi : l.contains x = true := by rw [List.contains_iff_mem, ← he, ← HY.out]; exact List.getElem_mem hlt
        have HI := Lib.hid hi
        clear he hi
        go_wp2
        go_ret
        exact ⟨by rw [HI.out]; rfl, rfl⟩
      · have e1 : (y == x) = false := by simpa using he
        have hne : x ∉ l.take (k + 1) := by
          rw [List.take_succ_eq_append_getElem hlt, HY.out]
          simp only [List.mem_append, List.mem_singleton, not_or]
          exact ⟨HB.out, fun e => he e.symm⟩
        have HN := Lib.hid hne
        clear he hne
        go_wp2
        go_roundw
        case rel => exact ⟨k + 1, by go_num, by omega, HN.out, trivial⟩
        case measure => simp [intOf]; omega
    · have hi : l.contains x = false := by
        rw [← Bool.not_eq_true, List.contains_iff_mem]
        have := HB.out
        rwa [List.take_of_length_le (by omega)] at this
      have HI := Lib.hid hi
      clear hi
      go_wp2
      go_ret
      exact ⟨by rw [HI.out]; rfl, rfl⟩

def lookR (R : List RE) (n : Int) : Option RE := R.find? (·.k == n)
def clsR (R : List RE) (n : Int) : Int := match lookR R n with | some x => x.cls | none => 0
theorem idx_parts (R : List RE) (n : Int) : (idxR R n = -1 ∧ lookR R n = none) ∨ ∃ i, ∃ hi : i < R.length, idxR R n = i ∧ lookR R n = some R[i] ∧ R[i].k = n := by
  cases h : R.findIdx? (·.k == n) with
  | none =>
    refine .inl ⟨by unfold idxR; rw [h], ?_⟩
    rw [List.findIdx?_eq_none_iff] at h
    unfold lookR
    rw [List.find?_eq_none]
    intro x hx; simpa using h x hx
  | some i =>
    refine .inr ?_
    have h0 := h
    rw [List.findIdx?_eq_some_iff_getElem] at h
    obtain ⟨hi, h1, h2⟩ := h
    refine ⟨i, hi, by unfold idxR; rw [h0], ?_, by simpa using h1⟩
    unfold lookR
    rw [List.find?_eq_some_iff_getElem]
    exact ⟨h1, i, hi, rfl, fun j hj => by simpa using h2 j hj⟩

theorem r_Class (w : World) (q : Nat) (s : Sl) (R : List RE) (n : Int) (h : IsR w q s R) (hs : R.length ≤ 1000) :
    Calls Try.prog 25 #[.pointer (some ⟨q, 0, none⟩), .int .i64 n] w fun e w' => e = .returned (.int .i64 (clsR R n)) ∧ w = w' := by
  have hat := r_at w q s R n h hs
  have c0 := h.c0
  rcases idx_parts R n with ⟨h1, h2⟩ | ⟨i, hi, h1, h2, h3⟩
  · have hc : clsR R n = 0 := by unfold clsR; rw [h2]
    rw [hc]
    rw [h1] at hat
    clear hc h1 h2
    go_enter Try.func25, Try.ntmps25
    go_wp2_with fail
    refine (hat).mono ?_
    rintro e w' ⟨rfl, rfl⟩
    go_wp2
    go_ret
    exact ⟨rfl, rfl⟩
  · have hc : clsR R n = R[i].cls := by unfold clsR; rw [h2]
    rw [hc]
    rw [h1] at hat
    obtain ⟨b, hA, c1, c2, c3⟩ := h.at_ i hi
    rw [hA] at c0
    generalize R[i].cls = C at *
    clear hc h1 h2 h3 c1 c3 hA
    go_enter Try.func25, Try.ntmps25
    go_wp2_with fail
    refine (hat).mono ?_
    rintro e w' ⟨rfl, rfl⟩
    go_wp2
    go_ret
    exact ⟨rfl, rfl⟩
def hearR (R : List RE) (to : Int) : List Int := (R.filter fun x => hearsB to x.k x.gs).map (·.k)
end Go.Proofs.Ytgmpikaibeenmaa
