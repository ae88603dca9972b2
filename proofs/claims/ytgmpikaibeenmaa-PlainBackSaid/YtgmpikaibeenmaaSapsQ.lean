
/- What SapsHears says of the SAPs, without memory. -/
import Derived.Test.YtgmpikaibeenmaaSapsE
namespace Go.Proofs.Ytgmpikaibeenmaa
open Go.RowKit Go.Shelf Go.ChangeMaps
set_option linter.unusedVariables false
set_option linter.unusedSimpArgs false
set_option maxRecDepth 100000

structure Inv (m : List AE) : Prop where
  ga : GA m
  nod : (m.map (·.k)).Nodup
  cls : ∀ x ∈ m, 1 ≤ x.cls ∧ x.cls ≤ 4
  small : m.length ≤ 16
theorem AtM.inv {w0 w : World} {p : Nat} {m : List AE} (h : AtM w0 w p m) (hg : GA m) : Inv m := by
  obtain ⟨b, c, l, h1, rfl, h3, h4⟩ := h
  refine ⟨hg, by rw [List.map_map]; exact h1.nod, fun x hx => ?_, by simpa using h1.small⟩
  obtain ⟨y, hy, rfl⟩ := List.mem_map.1 hx
  exact h1.pos y hy
theorem mem_hear {m : List AE} {to x : Int} : x ∈ hearA m to ↔ ∃ y ∈ m, hearsB to y.k y.gs = true ∧ y.k = x := by
  unfold hearA
  rw [(List.mergeSort_perm _ _).mem_iff, List.mem_map]
  constructor
  · rintro ⟨y, hy, rfl⟩; exact ⟨y, (List.mem_filter.1 hy).1, (List.mem_filter.1 hy).2, rfl⟩
  · rintro ⟨y, hy, hb, rfl⟩; exact ⟨y, List.mem_filter.2 ⟨hy, hb⟩, rfl⟩
theorem hear_lt {m : List AE} (h : Inv m) (to : Int) : (hearA m to).Pairwise (· < ·) := by
  have h1 : (hearA m to).Pairwise (· ≤ ·) := srt_pw _
  have h2 : (hearA m to).Nodup := by
    unfold hearA
    rw [(List.mergeSort_perm _ _).nodup_iff]
    exact h.nod.sublist (List.filter_sublist.map _)
  exact (h1.and h2).imp fun ⟨a, b⟩ => by omega
theorem hear_le {m : List AE} (to : Int) : (hearA m to).length ≤ m.length := by
  unfold hearA
  rw [List.length_mergeSort, List.length_map]
  exact List.length_filter_le _ _
theorem hear_all (m : List AE) : (hearA m 255).length = m.length := by
  unfold hearA
  rw [List.length_mergeSort, List.length_map]
  have : m.filter (fun x => hearsB 255 x.k x.gs) = m := by rw [List.filter_eq_self]; intro x _; rfl
  rw [this]
theorem hear_wf {m : List AE} (h : GA m) (to : Int) : ∀ x ∈ hearA m to, (Lit.int .i64 x).wf = true := by
  intro x hx
  obtain ⟨y, hy, _, rfl⟩ := mem_hear.1 hx
  have := (h y hy).1
  unfold sapB at this
  simp at this
  simp [Lit.wf, IntKind.min, IntKind.max, IntKind.signed, IntKind.bits]
  omega
theorem look_someA {m : List AE} (hn : (m.map (·.k)).Nodup) {y : AE} (hy : y ∈ m) : lookA m y.k = some y := by
  unfold lookA
  induction m with
  | nil => cases hy
  | cons a m ih =>
    rw [List.map_cons, List.nodup_cons] at hn
    rw [List.find?_cons]
    rcases List.mem_cons.1 hy with e | hy
    · subst e; simp
    · have : (a.k == y.k) = false := by
        rw [beq_eq_false_iff_ne]; intro e; exact hn.1 (e ▸ List.mem_map_of_mem hy)
      rw [this]
      exact ih hn.2 hy
theorem hear_cls {m : List AE} (h : Inv m) {to x : Int} (hx : x ∈ hearA m to) : 1 ≤ clsA m x ∧ clsA m x ≤ 4 := by
  obtain ⟨y, hy, _, rfl⟩ := mem_hear.1 hx
  unfold clsA
  rw [look_someA h.nod hy]
  exact h.cls y hy
theorem lookA_none {m : List AE} {n : Int} (h : lookA m n = none) : ∀ x ∈ m, x.k ≠ n := by
  intro x hx e
  have := List.find?_eq_none.1 h x hx
  simp [e] at this
theorem close_look (m : List AE) (a : Int) : lookA (closeA m a).2 a = none := by
  unfold closeA
  cases h : lookA m a with
  | none => simpa using h
  | some x =>
    simp only [Option.isSome_some, if_true]
    unfold lookA
    rw [List.find?_eq_none]
    intro y hy
    have := (List.mem_filter.1 hy).2
    simpa using this
theorem close_cls (m : List AE) (a : Int) : clsA (closeA m a).2 a = 0 := by
  unfold clsA; rw [close_look]
theorem even_hears {m : List AE} (h : GA m) {a : Int} (ha : sapB a = true) {x : AE} (hx : x ∈ m) : hearsB a x.k x.gs = decide (x.k = a) := by
  have h1 := (h x hx).2
  unfold sapB at ha
  simp at ha
  unfold hearsB
  have e1 : (a == 255) = false := by simp; omega
  have e2 : x.gs.contains a = false := by
    rw [← Bool.not_eq_true, List.contains_iff_mem]
    intro hm
    have := h1 a hm
    unfold groupB at this
    simp at this
    omega
  rw [e1, e2, Bool.or_false, Bool.false_or, Bool.eq_iff_iff]
  simp only [beq_iff_eq, decide_eq_true_eq]
  exact eq_comm
theorem hear_none {m : List AE} (h : GA m) {a : Int} (ha : sapB a = true) (hl : lookA m a = none) : hearA m a = [] := by
  have : ∀ x, x ∉ hearA m a := by
    intro x hx
    obtain ⟨y, hy, hb, rfl⟩ := mem_hear.1 hx
    rw [even_hears h ha hy] at hb
    exact lookA_none hl y hy (of_decide_eq_true hb)
  exact List.eq_nil_iff_forall_not_mem.2 this
theorem open_new {m : List AE} {a : Int} (ha : sapB a = true) (hl : lookA m a = none) : openA m a 1 = if 16 ≤ m.length then (6, m) else (0, m ++ [⟨a, 1, []⟩]) := by
  unfold openA
  rw [if_neg (by unfold argB; rw [ha]; simp), hl]
  simp
theorem hear_new {m : List AE} (h : GA m) {a : Int} (ha : sapB a = true) (hl : lookA m a = none) : hearA (m ++ [⟨a, 1, []⟩]) a = [a] := by
  have e : (m ++ [⟨a, 1, []⟩] : List AE).filter (fun x => hearsB a x.k x.gs) = [⟨a, 1, []⟩] := by
    rw [List.filter_append]
    have e1 : m.filter (fun x => hearsB a x.k x.gs) = [] := by
      rw [List.filter_eq_nil_iff]
      intro y hy hb
      rw [even_hears h ha hy] at hb
      exact lookA_none hl y hy (of_decide_eq_true hb)
    rw [e1, List.nil_append, List.filter_cons_of_pos (by simp [hearsB])]
    rfl
  unfold hearA
  rw [e]
  simp [srt]
theorem hear_grp {m : List AE} {a g : Int} (ha : sapB a = true) (hg : groupB g = true) (hl : lookA m a = none) : ∀ x ∈ hearA (m ++ [⟨a, 1, []⟩]) g, x ≠ a := by
  intro x hx
  obtain ⟨y, hy, hb, rfl⟩ := mem_hear.1 hx
  rcases List.mem_append.1 hy with hy | hy
  · exact lookA_none hl y hy
  · simp at hy
    subst hy
    unfold hearsB at hb
    unfold groupB at hg
    unfold sapB at ha
    simp at hb hg ha
    omega
theorem pair_lt {l : List Int} (h : l.Pairwise (· < ·)) {i : Nat} (hi : i + 1 < l.length) : l[i] < l[i + 1] := List.pairwise_iff_getElem.1 h i (i + 1) (by omega) hi (by omega)
end Go.Proofs.Ytgmpikaibeenmaa
