
/- How a law's arguments lie in memory: slices of whole numbers, slices of records of whole numbers. Plain lemmas over any program. -/
import Derived.Test.YtgmpikaibeenmaaFr
import Derived.ProofKit
import Derived.OpenShut
import Derived.Deep.Slices
namespace Go.Proofs.Ytgmpikaibeenmaa
open Go.RowKit Go.ChangeShapes Go.WideShapes Go.Deep
set_option linter.unusedVariables false
set_option linter.unusedSimpArgs false
set_option maxRecDepth 100000

/-- A slice argument that reads as these whole numbers. -/
def ArgInts (k : IntKind) (w : World) (A : Option Addr) (l : List Int) : Prop :=
  (∀ n ∈ l, (Lit.int k n).wf = true) ∧ (l = [] ∨ ∃ b off, A = some ⟨b, off, none⟩ ∧ ∀ i (h : i < l.length), w.cell? ⟨b, off + i, none⟩ = some (.int k l[i]))

theorem ArgInts.nil (k : IntKind) (w : World) (A : Option Addr) : ArgInts k w A [] := ⟨by simp, .inl rfl⟩

theorem ArgInts.of {k : IntKind} {w : World} {a : Addr} {zs : List Int} (n : Nat) (hn : n ≤ zs.length) (hc : ∀ i, i < zs.length → w.cell? (a.add i) = some (.int k (zs.getD i 0))) (hw : ∀ x ∈ zs, (Lit.int k x).wf = true) :
    ArgInts k w (some a) (zs.take n) := by
  refine ⟨fun x hx => hw x (List.mem_of_mem_take hx), ?_⟩
  by_cases h0 : 0 < zs.length
  · obtain ⟨b, off, rfl, h⟩ := ints_at hc h0
    refine .inr ⟨b, off, rfl, fun i hi => ?_⟩
    have hi' : i < zs.length := by simp at hi; omega
    rw [h i hi']
    simp [List.getElem_take, hi']
  · left
    have : zs = [] := List.length_eq_zero_iff.1 (by omega)
    simp [this]

theorem ArgInts.fr {k : IntKind} {w w' : World} {A : Option Addr} {l : List Int} (h : ArgInts k w A l) (f : Fr [] w w') : ArgInts k w' A l := by
  refine ⟨h.1, ?_⟩
  rcases h.2 with h0 | ⟨b, off, rfl, hc⟩
  · exact .inl h0
  · exact .inr ⟨b, off, rfl, fun i hi => f.cell (hc i hi) (by simp)⟩

theorem ArgInts.open_ {H : Type} {enc : TypeId × Value → H} {P : Program} {w : World} {base : Nat} {spare : Nat → Bool} {held : Bool} {t e : TypeId} {k : IntKind} {A : Option Addr} {len cap : Nat} {d : DataW H} {p : List MemPlace}
    (ht : P.underlying t = some (.slice e)) (he : P.underlying e = some (.int k)) (hc : P.cellsOf e = 1) (h : DataW.Trod enc P w base spare held t (.slice A len cap) d p) :
    ∃ l : List Int, l.length = len ∧ len ≤ 9223372036854775807 ∧ ArgInts k w A l := by
  obtain ⟨fuel, hf⟩ := h
  rcases open_ints ht he hc hf with ⟨hcs, _⟩ | ⟨x, l, c, zs, hcs, _, hl, hm, hz, _, hcell, hwz⟩
  · simp [Value.cells] at hcs
    obtain ⟨rfl, rfl, rfl⟩ := hcs
    exact ⟨[], rfl, by omega, ArgInts.nil _ _ _⟩
  · simp [Value.cells] at hcs
    obtain ⟨rfl, rfl, rfl⟩ := hcs
    unfold maxLen at hm
    have hle : len ≤ zs.length := by rw [hz]; split <;> omega
    exact ⟨zs.take len, by simp; omega, by omega, ArgInts.of len hle hcell hwz⟩

/-- A slice argument of records of whole numbers: field j of record i is g i j. -/
def ArgRec (ks : List IntKind) (w : World) (A : Option Addr) (n : Nat) (g : Nat → Nat → Int) : Prop :=
  n = 0 ∨ ∃ b off, A = some ⟨b, off, none⟩ ∧ ∀ i, i < n → ∀ j (h : j < ks.length), w.cell? ⟨b, off + i * ks.length + j, none⟩ = some (.int ks[j] (g i j)) ∧ (Lit.int ks[j] (g i j)).wf = true

theorem ArgRec.fr {ks : List IntKind} {w w' : World} {A : Option Addr} {n : Nat} {g : Nat → Nat → Int} (h : ArgRec ks w A n g) (f : Fr [] w w') : ArgRec ks w' A n g := by
  rcases h with h0 | ⟨b, off, rfl, hc⟩
  · exact .inl h0
  · exact .inr ⟨b, off, rfl, fun i hi j hj => ⟨f.cell (hc i hi j hj).1 (by simp), (hc i hi j hj).2⟩⟩

theorem ArgRec.open_ {H : Type} {enc : TypeId × Value → H} {P : Program} {w : World} {base : Nat} {spare : Nat → Bool} {held : Bool} {t e : TypeId} {ks : List IntKind} {fs : Array Field} {A : Option Addr} {len cap : Nat} {d : DataW H} {p : List MemPlace}
    (ht : P.underlying t = some (.slice e)) (he : P.underlying e = some (.struct fs)) (hC : P.cellsOf e = ks.length) (hk0 : 0 < ks.length)
    (hfs : ∀ j (hj : j < ks.length), ∃ f, fs[j]? = some f ∧ f.offset = j ∧ P.cellsOf f.type = 1 ∧ P.underlying f.type = some (.int ks[j]))
    (h : DataW.Trod enc P w base spare held t (.slice A len cap) d p) :
    len ≤ 9223372036854775807 ∧ ∃ g, ArgRec ks w A len g := by
  obtain ⟨fuel, hf⟩ := h
  rcases open_slice ht hf with ⟨hcs, _⟩ | ⟨a, l, c, m, n, D, Pl, hcs, hb, hl, hm, hmm, _, hi⟩
  · simp [Value.cells] at hcs
    obtain ⟨rfl, rfl, rfl⟩ := hcs
    exact ⟨by omega, fun _ _ => 0, .inl rfl⟩
  · simp [Value.cells] at hcs
    obtain ⟨rfl, rfl, rfl⟩ := hcs
    unfold maxLen at hm
    refine ⟨by omega, ?_⟩
    have hlm : len ≤ m := by rw [hmm]; split <;> omega
    have key : ∀ i j, ∃ x : Int, i < len → ∀ hj : j < ks.length, w.cell? (a.add (i * ks.length + j)) = some (.int ks[j] x) ∧ (Lit.int ks[j] x).wf = true := by
      intro i j
      by_cases hh : i < len ∧ j < ks.length
      · obtain ⟨hil, hj⟩ := hh
        obtain ⟨cs', hc, ht'⟩ := hi i (by omega)
        rw [hC] at hc
        obtain ⟨xs, n', _, _, hcl, hxl, hfld⟩ := DataW.trod_struct he ht'
        obtain ⟨_, hlen, hat⟩ := World.cells?_some hc
        obtain ⟨f, hfj, ho, hc1, hu⟩ := hfs j hj
        have h1 := hfld j f hfj
        rw [ho, hc1] at h1
        have hone : (cs'.drop j).take 1 = [cs'[j]'(by omega)] := by rw [List.drop_eq_getElem_cons (by omega)]; rfl
        rw [hone] at h1
        have hjx : j < xs.length := by rw [hxl]; exact (Array.getElem?_eq_some_iff.1 hfj).1
        rw [List.getElem?_eq_getElem hjx] at h1
        obtain ⟨x, hx, _, hw⟩ := DataW.trod_int hu h1
        refine ⟨x, fun _ hj' => ⟨?_, hw⟩⟩
        have := hat j hj
        rw [List.getElem?_eq_getElem (by omega)] at this
        rw [← Go.Deep.add_add, this]
        simpa using hx
      · exact ⟨0, fun h1 h2 => absurd ⟨h1, h2⟩ hh⟩
    obtain ⟨g, hg⟩ : ∃ g : Nat → Nat → Int, ∀ i j, i < len → ∀ hj : j < ks.length, w.cell? (a.add (i * ks.length + j)) = some (.int ks[j] (g i j)) ∧ (Lit.int ks[j] (g i j)).wf = true :=
      ⟨fun i j => Classical.choose (key i j), fun i j => Classical.choose_spec (key i j)⟩
    refine ⟨g, ?_⟩
    by_cases h0 : len = 0
    · exact .inl h0
    · right
      obtain ⟨b, off, spot⟩ := a
      have hspot : spot = none := by simpa [Addr.add] using World.cell?_spot (hg 0 0 (by omega) hk0).1
      subst hspot
      refine ⟨b, off, rfl, fun i hi j hj => ?_⟩
      obtain ⟨h1, h2⟩ := hg i j hi hj
      rw [Go.WideShapes.add_plain] at h1
      exact ⟨by rw [← h1, Nat.add_assoc], h2⟩
theorem wf_u8 {x : Int} (h : (Lit.int .u8 x).wf = true) : 0 ≤ x ∧ x ≤ 255 := by
  simp only [Lit.wf, IntKind.min, IntKind.max, IntKind.signed, IntKind.bits, Bool.and_eq_true, decide_eq_true_eq] at h
  simpa using h
theorem wf_u16 {x : Int} (h : (Lit.int .u16 x).wf = true) : 0 ≤ x ∧ x ≤ 65535 := by
  simp only [Lit.wf, IntKind.min, IntKind.max, IntKind.signed, IntKind.bits, Bool.and_eq_true, decide_eq_true_eq] at h
  simpa using h
theorem wf_i16 {x : Int} (h : (Lit.int .i16 x).wf = true) : -32768 ≤ x ∧ x ≤ 32767 := by
  simp only [Lit.wf, IntKind.min, IntKind.max, IntKind.signed, IntKind.bits, Bool.and_eq_true, decide_eq_true_eq, if_true] at h
  omega
theorem wf_i64 {x : Int} (h : (Lit.int .i64 x).wf = true) : -9223372036854775808 ≤ x ∧ x ≤ 9223372036854775807 := by
  simp only [Lit.wf, IntKind.min, IntKind.max, IntKind.signed, IntKind.bits, Bool.and_eq_true, decide_eq_true_eq, if_true] at h
  omega

theorem ArgInts.at_ {k : IntKind} {w : World} {A : Option Addr} {l : List Int} (h : ArgInts k w A l) (i : Nat) (hi : i < l.length) :
    ∃ b off x, A = some ⟨b, off, none⟩ ∧ w.cell? ⟨b, off + i, none⟩ = some (.int k x) ∧ (Lit.int k x).wf = true ∧ x = l[i] := by
  rcases h.2 with h0 | ⟨b, off, rfl, hc⟩
  · subst h0; simp at hi
  · exact ⟨b, off, _, rfl, hc i hi, h.1 _ (List.getElem_mem hi), rfl⟩

theorem ArgRec.at_ {ks : List IntKind} {w : World} {A : Option Addr} {n : Nat} {g : Nat → Nat → Int} (h : ArgRec ks w A n g) (i : Nat) (hi : i < n) :
    ∃ b off, A = some ⟨b, off, none⟩ ∧ ∀ j (h : j < ks.length), w.cell? ⟨b, off + i * ks.length + j, none⟩ = some (.int ks[j] (g i j)) ∧ (Lit.int ks[j] (g i j)).wf = true := by
  rcases h with h0 | ⟨b, off, rfl, hc⟩
  · omega
  · exact ⟨b, off, rfl, hc i hi⟩

/-- A struct argument by value, of whole numbers. -/
theorem agg_open {H : Type} {enc : TypeId × Value → H} {P : Program} {w : World} {base : Nat} {spare : Nat → Bool} {held : Bool} {t : TypeId} {ks : List IntKind} {fs : Array Field} {cs : Array Value} {d : DataW H} {p : List MemPlace}
    (he : P.underlying t = some (.struct fs)) (hC : P.cellsOf t = ks.length)
    (hfs : ∀ j (hj : j < ks.length), ∃ f, fs[j]? = some f ∧ f.offset = j ∧ P.cellsOf f.type = 1 ∧ P.underlying f.type = some (.int ks[j]))
    (h : DataW.Trod enc P w base spare held t (.agg cs) d p) :
    cs.size = ks.length ∧ ∃ g : Nat → Int, ∀ j (hj : j < ks.length), cs[j]? = some (.int ks[j] (g j)) ∧ (Lit.int ks[j] (g j)).wf = true := by
  obtain ⟨fuel, hf⟩ := h
  obtain ⟨xs, n', _, _, hcl, hxl, hfld⟩ := DataW.trod_struct he hf
  have hsz : cs.size = ks.length := by rw [hC] at hcl; simpa [Value.cells] using hcl
  refine ⟨hsz, ?_⟩
  have key : ∀ j, ∃ x : Int, ∀ hj : j < ks.length, cs[j]? = some (.int ks[j] x) ∧ (Lit.int ks[j] x).wf = true := by
    intro j
    by_cases hj : j < ks.length
    · obtain ⟨f, hfj, ho, hc1, hu⟩ := hfs j hj
      have h1 := hfld j f hfj
      rw [ho, hc1] at h1
      have hjc : j < cs.toList.length := by simp; omega
      have hone : ((Value.agg cs).cells.toList.drop j).take 1 = [cs.toList[j]] := by simp only [Value.cells]; rw [List.drop_eq_getElem_cons hjc]; rfl
      rw [hone] at h1
      have hjx : j < xs.length := by rw [hxl]; exact (Array.getElem?_eq_some_iff.1 hfj).1
      rw [List.getElem?_eq_getElem hjx] at h1
      obtain ⟨x, hx, _, hw⟩ := DataW.trod_int hu h1
      refine ⟨x, fun _ => ⟨?_, hw⟩⟩
      rw [Array.getElem?_eq_getElem (by omega)]
      simpa using hx
    · exact ⟨0, fun h => absurd h hj⟩
  exact ⟨fun j => Classical.choose (key j), fun j hj => Classical.choose_spec (key j) hj⟩
end Go.Proofs.Ytgmpikaibeenmaa
