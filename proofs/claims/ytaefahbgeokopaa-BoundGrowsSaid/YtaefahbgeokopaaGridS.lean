/- The slices that package grid lays: some, slices.Clone, slices.Grow, slices.Concat of []int. -/
import Derived.Test.YtaefahbgeokopaaProg
import Derived.Test.YtaefahbgeokopaaPar
import Derived.Test.YtaefahbgeokopaaRow
import Derived.WalkLawsBesides
import Derived.WalkSpells
import Derived.OwnWalk
import Derived.Outline
import Derived.Lib.Hide
import Derived.Lib.AppendZeros
import Derived.Laws.AppendOwnNone
namespace Go.Proofs.Ytaefahbgeokopaa
open Go.RowKit Go.Shelf
set_option linter.unusedVariables false
set_option linter.unusedSimpArgs false

theorem grid_some (v : Value) (w : World) :
    Calls Try.prog 46 #[v] w fun e w' => e = .returned v ∧ w = w' := by
  go_enter Try.func46, Try.ntmps46
  go_wp2
  go_ret
  exact ⟨rfl, rfl⟩

theorem isnil_i (A : Addr) (n c : Nat) (w : World) : (binOp BinOp.eql 65 (Value.slice (some A) n c) (Value.slice none 0 0)).run Try.prog w = .ok (.bool false) w := by kernel_rfl
theorem isnil_i0 (w : World) : (binOp BinOp.eql 65 (Value.slice none 0 0) (Value.slice none 0 0)).run Try.prog w = .ok (.bool true) w := by kernel_rfl
attribute [local go_sem] isnil_i isnil_i0

theorem ints_info : ∃ i0 : TypeInfo, Try.prog.info? 3 = some i0 ∧ i0.zero = some (.int .i64 0) ∧ i0.size = 1 ∧ i0.bytes = 8 :=
  info_parts (show (Try.prog.info? 3).map (fun i => (i.zero, i.size, i.bytes)) = some (some (.int .i64 0), 1, 8) by kernel_rfl)

theorem clone_nil (w : World) :
    Calls Try.prog 50 #[.slice none 0 0] w fun e w' => e = .returned (.slice none 0 0) ∧ w = w' := by
  go_enter Try.func50, Try.ntmps50
  go_wp2
  go_ret
  exact ⟨rfl, rfl⟩

theorem clone_some (w : World) (A : Addr) (cap : Nat) (l : List Int) (h : ArgInts .i64 w (some A) l) (hn : l.length ≤ 1000000000) :
    Calls Try.prog 50 #[.slice (some A) l.length cap] w fun e w' => ∃ v, e = .returned v ∧ Ints .i64 w' v l ∧ Young w.heap.size v ∧ Fr [] w w' := by
  go_enter Try.func50, Try.ntmps50
  obtain ⟨i0, hi, hz0, hz1, hz2⟩ := ints_info
  have hun : Try.prog.underlying 65 = some (.slice 3) := Try.underlying65
  go_wp2_with (at_builtin; refine wpList_append_own _ rfl _ _ 65 rfl w.heap.size 3 i0 (.int .i64 0) 1 8 hun hi hz0 hz1 hz2 rfl (by decide) _ 0 [] rfl (World.ownsRow_made _ #[] 0 (Nat.le_refl _) (Nat.zero_le _) rfl) A l.length cap (l.map (Value.int .i64)) rfl ?c1 ?c2 ints_one ?c4 ?c5 ?c6 ?_)
  case c1 => simp
  case c2 => exact (h.fr ((Fr.refl [] w).alloc _)).news
  case c4 => unfold maxLen; omega
  case c5 => omega
  case c6 => simp
  intro v' w' hown hgrow _
  go_wp2
  go_ret
  refine ⟨_, rfl, ?_, Young.own hown, ?_⟩
  · exact Ints.own (by simpa using hown) h.1
  · exact ((Fr.refl [] w).alloc _).grown hgrow (fun k hk => by simp [Value.ownBlock] at hk; exact .inr (by omega))

theorem slices_Clone (w : World) (v : Value) (l : List Int) (h : Ints .i64 w v l) (hn : l.length ≤ 1000000000) :
    Calls Try.prog 50 #[v] w fun e w' => ∃ s : Sl, e = .returned (.slice s.A s.n s.c) ∧ Ints .i64 w' s.v l ∧ Young w.heap.size s.v ∧ Fr [] w w' := by
  rcases h with ⟨rfl, rfl⟩ | ⟨A, cap, rfl, hA⟩
  · refine (clone_nil w).mono ?_
    rintro e w' ⟨rfl, rfl⟩
    exact ⟨Sl.nil, rfl, Ints.nil _ _, Young.nil _, Fr.refl _ _⟩
  · refine (clone_some w A cap l hA hn).mono ?_
    rintro e w' ⟨v, rfl, hv, hy, f⟩
    obtain ⟨s, rfl⟩ := hv.sl
    exact ⟨s, rfl, hv, hy, f⟩

theorem slices_Grow0 (w : World) :
    Calls Try.prog 51 #[.slice none 0 0, .int .i64 0] w fun e w' => e = .returned (.slice none 0 0) ∧ w = w' := by
  go_enter Try.func51, Try.ntmps51
  go_wp2
  go_ret
  exact ⟨rfl, rfl⟩

theorem slices_Grow (w : World) (n : Nat) (h0 : 0 < n) (hn : n ≤ 1000000000) :
    Calls Try.prog 51 #[.slice none 0 0, .int .i64 n] w fun e w' => ∃ v, e = .returned v ∧ w'.ownsRow w.heap.size 3 1 v 0 [] ∧ Fr [] w w' := by
  have d1 : decide ((n : Int) < 0) = false := by simp
  have d2 : decide (0 < (n : Int)) = true := by simp; omega
  obtain ⟨i0, hi, hz0, hz1, hz2⟩ := ints_info
  have hun : Try.prog.underlying 65 = some (.slice 3) := Try.underlying65
  have hui : Try.prog.underlying 3 = some (.int .i64) := Try.underlying3
  have hr := fun w => Go.Lib.run_append_nil_zeros (P := Try.prog) w 65 3 65 3 i0 (.int .i64 0) .i64 .i64 hun hui hi hz0 n h0 (by omega) (by omega) (by rw [hz2]; omega)
  go_enter Try.func51, Try.ntmps51
  go_wp2_with (at_builtin; refine Go.Lib.wpList_append_run _ rfl _ _ _ _ rfl _ _ rfl rfl _ _ (hr _) ?_)
  go_ret
  refine ⟨_, rfl, ?_, ((Fr.refl [] w).alloc _).drew⟩
  have hge := grownCap_ge w n 0 3
  have hle := grownCap_le_maxLen w n 0 3 (by unfold maxLen; omega)
  exact World.ownsRow_made w (Builtin.zeroCells #[.int .i64 0] n ++ Builtin.zeroCells #[.int .i64 0] (grownCap w n 0 3 - n)) (grownCap w n 0 3) (Nat.le_refl _) hle (by simp [Builtin.zeroCells]; omega)

theorem slices_Grow_any (w : World) (n : Nat) (hn : n ≤ 1000000000) :
    Calls Try.prog 51 #[.slice none 0 0, .int .i64 n] w fun e w' => ∃ v, e = .returned v ∧ w'.ownsRow w.heap.size 3 1 v 0 [] ∧ Fr [] w w' := by
  by_cases h0 : 0 < n
  · exact slices_Grow w n h0 hn
  · obtain rfl : n = 0 := by omega
    refine (slices_Grow0 w).mono ?_
    rintro e w' ⟨rfl, rfl⟩
    exact ⟨_, rfl, World.ownsRow_nil _ _ _ _, Fr.refl _ _⟩

theorem Ints.n {k : IntKind} {w : World} {s : Sl} {l : List Int} (h : Ints k w s.v l) : s.n = l.length := by
  rcases h with ⟨e, rfl⟩ | ⟨A, cap, e, _⟩
  · cases s; simp [Sl.v] at e; simp [e]
  · cases s; simp [Sl.v] at e; simp [e]
theorem Ints.wf {k : IntKind} {w : World} {v : Value} {l : List Int} (h : Ints k w v l) : ∀ x ∈ l, (Lit.int k x).wf = true := by
  rcases h with ⟨e, rfl⟩ | ⟨A, cap, e, h⟩
  · simp
  · exact h.1

def total (ls : List (List Int)) : Nat := ls.flatten.length
theorem total_take (ls : List (List Int)) (k : Nat) (hk : k < ls.length) : total (ls.take (k + 1)) = total (ls.take k) + ls[k].length := by
  unfold total
  rw [← List.take_append_getElem hk, List.flatten_append, List.length_append]
  simp
theorem flat_take (ls : List (List Int)) (k : Nat) (hk : k < ls.length) : (ls.take (k + 1)).flatten = (ls.take k).flatten ++ ls[k] := by
  rw [← List.take_append_getElem hk, List.flatten_append]
  simp
theorem total_le (ls : List (List Int)) (h : ∀ l ∈ ls, l.length ≤ 1000) : total ls ≤ 1000 * ls.length := by
  unfold total
  induction ls with
  | nil => simp
  | cons a r ih =>
    have h1 := h a (by simp)
    have h2 := ih (fun l hl => h l (by simp [hl]))
    simp only [List.flatten_cons, List.length_append, List.length_cons]
    omega

set_option maxRecDepth 100000 in
set_option maxHeartbeats 1000000 in
theorem slices_Concat (w : World) (b : Nat) (ss : List Sl) (ls : List (List Int)) (hc : ∀ i (h : i < ss.length), w.cell? ⟨b, i, none⟩ = some (.slice ss[i].A ss[i].n ss[i].c)) (hl1 : ss.length ≤ ls.length) (hl2 : ls.length ≤ ss.length) (hn : ss.length ≤ 8)
    (hI : ∀ i (h : i < ss.length), Ints .i64 w ss[i].v (ls[i]'(by omega))) (hS : ∀ l ∈ ls, l.length ≤ 1000) :
    Calls Try.prog 48 #[.slice (some ⟨b, 0, none⟩) ss.length ss.length] w fun e w' => ∃ s : Sl, e = .returned (.slice s.A s.n s.c) ∧ Ints .i64 w' s.v ls.flatten ∧ Young w.heap.size s.v ∧ Fr [] w w' := by
  have hwf : ∀ x ∈ ls.flatten, (Lit.int .i64 x).wf = true := by
    intro x hx
    obtain ⟨l, hl, hxl⟩ := List.mem_flatten.1 hx
    obtain ⟨i, hi, rfl⟩ := List.mem_iff_getElem.1 hl
    exact (hI i (by omega)).wf x hxl
  have hm : ∀ k, total (ls.take k) ≤ 8000 := fun k => by
    have h1 := total_le (ls.take k) (fun l hl => hS l (List.mem_of_mem_take hl))
    have h2 : (ls.take k).length ≤ 8 := by simp; omega
    omega
  obtain ⟨i0, hi, hz0, hz1, hz2⟩ := ints_info
  have hun : Try.prog.underlying 65 = some (.slice 3) := Try.underlying65
  go_enter Try.func48, Try.ntmps48
  go_wp2
  go_loopw [3, 11] (fun s i wr => w = wr ∧ ∃ k : Nat, i = .int .i64 k ∧ k ≤ ss.length ∧ s = .int .i64 (total (ls.take k) : Nat)) (fun s i _ => ss.length - (intOf i).toNat)
  case atStart => exact ⟨rfl, 0, rfl, by omega, by simp [total]⟩
  case round =>
    obtain ⟨rfl, k, rfl, hk, rfl⟩ := hrel
    have hmk := hm k
    have hmk1 := hm (k + 1)
    by_cases hlt : k < ss.length
    · have h1 := hc k hlt
      have h2 := (hI k hlt).n
      have h3 := total_take ls k (by omega)
      have hd : decide ((k : Int) < (ss.length : Int)) = true := by simp; omega
      have hw : IntKind.i64.wrap (((total (ls.take k) : Nat) : Int) + (ss[k].n : Int)) = ((total (ls.take (k + 1)) : Nat) : Int) := by rw [IntWalk.i64_in _ (by omega)]; omega
      have hd2 : decide (((total (ls.take (k + 1)) : Nat) : Int) < 0) = false := by simp
      clear h2 h3
      go_wp2
      go_roundw
      case rel => exact ⟨trivial, k + 1, by simp, by omega, rfl⟩
      case measure => simp [intOf]; omega
    · have hd : decide ((k : Int) < (ss.length : Int)) = false := by simp; omega
      have hkl : ls.take k = ls := List.take_of_length_le (by omega)
      have hm1 : total ls ≤ 8000 := by rw [← hkl]; exact hmk
      clear hmk hmk1
      go_wp2_with fail
      refine (slices_Grow_any _ _ (by omega)).mono ?_
      rintro e w1 ⟨v1, rfl, hown, f1⟩
      clear hd hlt hkl
      go_wp2
      go_loopw [6, 27] (fun v i wz => ∃ j : Nat, i = .int .i64 j ∧ j ≤ ss.length ∧ wz.ownsRow w.heap.size 3 1 v (total (ls.take j)) ((ls.take j).flatten.map (Value.int .i64)) ∧ Fr [] w wz) (fun v i _ => ss.length - (intOf i).toNat)
      case atStart => exact ⟨0, rfl, by omega, by simpa [total] using hown, f1⟩
      case round =>
        obtain ⟨j, rfl, hj, hown2, f2⟩ := hrel
        have hmj := hm j
        have hmj1 := hm (j + 1)
        by_cases hlt : j < ss.length
        · have hcz := f2.cell (hc j hlt) (by simp)
          have hIz := (hI j hlt).fr f2
          have hd : decide ((j : Int) < (ss.length : Int)) = true := by simp; omega
          have hsz := f2.size
          have hjl : j < ls.length := by omega
          rcases hIz with ⟨e, hl⟩ | ⟨A, cap, e, hA⟩
          · have e' : Value.slice ss[j].A ss[j].n ss[j].c = .slice none 0 0 := e
            rw [e'] at hcz
            clear e e'
            go_wp2_with (at_builtin; refine wpList_append_own_none rfl _ _ 65 rfl w.heap.size 3 i0 1 hun hi _ _ _ rfl hown2 rfl ?_)
            go_roundw
            case rel => exact ⟨j + 1, by simp, by omega, by rw [total_take ls j hjl, flat_take ls j hjl, hl]; simpa using hown2, f2⟩
            case measure => simp [intOf]; omega
          · have e' : Value.slice ss[j].A ss[j].n ss[j].c = .slice (some A) ls[j].length cap := e
            rw [e'] at hcz
            clear e e'
            have hlj : ls[j].length ≤ 1000 := hS _ (List.getElem_mem hjl)
            go_wp2_with (at_builtin; refine wpList_append_own _ rfl _ _ 65 rfl w.heap.size 3 i0 (.int .i64 0) 1 8 hun hi hz0 hz1 hz2 rfl (by decide) _ (total (ls.take j)) _ rfl hown2 A ls[j].length cap (ls[j].map (Value.int .i64)) rfl ?c1 ?c2 ints_one ?c4 ?c5 ?c6 ?_)
            case c1 => simp
            case c2 => exact hA.news
            case c4 => unfold maxLen; omega
            case c5 => omega
            case c6 => exact hsz
            intro v' w' hown3 hgrow _
            have f3 : Fr [] w w' := f2.grown hgrow (fun k hk => .inr (hown2.lt k hk).1)
            go_wp2
            go_roundw
            case rel => exact ⟨j + 1, by simp, by omega, by rw [total_take ls j hjl, flat_take ls j hjl, List.map_append]; simpa using hown3, f3⟩
            case measure => simp [intOf]; omega
        · have hd : decide ((j : Int) < (ss.length : Int)) = false := by simp; omega
          have hkl : ls.take j = ls := List.take_of_length_le (by omega)
          rw [hkl] at hown2
          clear hkl
          go_wp2
          go_ret
          have hI2 := Ints.own hown2 hwf
          obtain ⟨s, rfl⟩ := hI2.sl
          exact ⟨s, rfl, hI2, Young.own hown2, f2⟩
end Go.Proofs.Ytaefahbgeokopaa
