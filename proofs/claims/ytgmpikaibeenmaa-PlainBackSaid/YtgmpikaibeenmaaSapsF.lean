
/- The law SapsFull, walked. -/
import Derived.Test.YtgmpikaibeenmaaSapsD
import Derived.Test.YtgmpikaibeenmaaParS
namespace Go.Proofs.Ytgmpikaibeenmaa
open Go.RowKit Go.Shelf Go.ChangeMaps
set_option linter.unusedVariables false
set_option linter.unusedSimpArgs false
set_option maxRecDepth 100000

/-- So many SAPs, of one class; some of them in group a. -/
def fullA (c : Int) (n : Nat) (gs : Nat → List Int) : List AE := (List.range n).map fun (j : Nat) => ⟨2 + 2 * (j : Int), c, gs j⟩
theorem look_full (c : Int) (n : Nat) (gs : Nat → List Int) (j : Nat) : lookA (fullA c n gs) (2 + 2 * (j : Int)) = if j < n then some ⟨2 + 2 * (j : Int), c, gs j⟩ else none := by
  unfold lookA fullA
  rw [List.find?_map]
  induction n with
  | zero => rfl
  | succ n ih =>
    rw [List.range_succ, List.find?_append]
    by_cases h : j < n
    · rw [if_pos h] at ih
      rw [if_pos (by omega)]
      rw [Option.map_eq_some_iff] at ih
      obtain ⟨x, hx, e⟩ := ih
      rw [hx]; simpa using e
    · rw [if_neg h, Option.map_eq_none_iff] at ih
      rw [ih, Option.none_or]
      by_cases hj : j = n
      · subst hj; rw [if_pos (by omega)]; simp
      · rw [if_neg (by omega)]
        have : ((2 + 2 * (n : Int)) == 2 + 2 * (j : Int)) = false := by simp; omega
        simp [this]
theorem len_full (c : Int) (n : Nat) (gs : Nat → List Int) : (fullA c n gs).length = n := by simp [fullA]
theorem sap_full (j : Nat) (h : j ≤ 16) : sapB (2 + 2 * (j : Int)) = true := by unfold sapB; simp; omega
theorem open_full (c : Int) (n : Nat) (gs : Nat → List Int) (h : n < 16) (hc : 1 ≤ c ∧ c ≤ 4) (hg : gs n = []) : openA (fullA c n gs) (2 + 2 * (n : Int)) c = (0, fullA c (n + 1) gs) := by
  have ha : argB (2 + 2 * (n : Int)) c = true := by unfold argB; rw [sap_full n (by omega)]; simp; omega
  unfold openA
  rw [if_neg (by rw [ha]; simp), look_full]
  simp only [Nat.lt_irrefl, if_false, Option.isSome_none, Bool.false_eq_true, len_full]
  rw [if_neg (by omega)]
  simp [fullA, List.range_succ, hg]
theorem open_over (c : Int) (gs : Nat → List Int) : openA (fullA c 16 gs) 34 1 = (6, fullA c 16 gs) := by
  unfold openA
  rw [if_neg (by decide), show (34 : Int) = 2 + 2 * ((16 : Nat) : Int) from rfl, look_full, len_full]
  rfl
theorem open_again (c : Int) (gs : Nat → List Int) : openA (fullA c 16 gs) 2 1 = (8, fullA c 16 gs) := by
  unfold openA
  rw [if_neg (by decide), show (2 : Int) = 2 + 2 * ((0 : Nat) : Int) from rfl, look_full]
  rfl
def inG (a : Int) (mb : Nat → Bool) (j : Nat) : List Int := if mb j then [a] else []
def setB (mb : Nat → Bool) (k : Nat) (x : Bool) : Nat → Bool := fun j => if j = k then x else mb j
theorem full_map (c a : Int) (mb : Nat → Bool) (k : Nat) (f : List Int → List Int) (x : Bool) (hf : f (inG a mb k) = if x then [a] else []) :
    ((fullA c 16 (inG a mb)).map fun y => if y.k = 2 + 2 * (k : Int) then { y with gs := f y.gs } else y) = fullA c 16 (inG a (setB mb k x)) := by
  unfold fullA
  rw [List.map_map]
  apply List.map_congr_left
  intro j _
  simp only [Function.comp_apply]
  by_cases h : j = k
  · subst h
    rw [if_pos rfl, hf]
    simp [inG, setB]
  · rw [if_neg (by omega)]
    simp [inG, setB, h]
theorem join_full (c a : Int) (mb : Nat → Bool) (k : Nat) (h : k < 16) (ha : groupB a = true) : joinA (fullA c 16 (inG a mb)) (2 + 2 * (k : Int)) a = if mb k then (8, fullA c 16 (inG a mb)) else (0, fullA c 16 (inG a (setB mb k true))) := by
  unfold joinA
  rw [if_neg (by rw [ha]; simp), look_full, if_pos h]
  dsimp only
  by_cases hb : mb k = true
  · rw [if_pos (by simp [inG, hb]), if_pos hb]
  · rw [if_neg (by simp [inG, hb]), if_neg hb, full_map c a mb k (· ++ [a]) true (by simp [inG, hb])]
theorem leave_full (c a : Int) (mb : Nat → Bool) (k : Nat) (h : k < 16) (ha : groupB a = true) : leaveA (fullA c 16 (inG a mb)) (2 + 2 * (k : Int)) a = if mb k then (0, fullA c 16 (inG a (setB mb k false))) else (7, fullA c 16 (inG a mb)) := by
  unfold leaveA
  rw [if_neg (by rw [ha]; simp), look_full, if_pos h]
  dsimp only
  by_cases hb : mb k = true
  · rw [if_pos (by simp [inG, hb]), if_pos hb, full_map c a mb k (·.filter (· != a)) false (by simp [inG, hb])]
  · rw [if_neg (by simp [inG, hb]), if_neg hb]

/-- The bools that the law keeps. -/
def MB (w : World) (bm : Nat) (mb : Nat → Bool) : Prop := ∀ j, j < 16 → w.cell? ⟨bm, j, none⟩ = some (.bool (mb j)) ∧ w.frozen? ⟨bm, j, none⟩ = false
theorem MB.lt {w : World} {bm : Nat} {mb : Nat → Bool} (h : MB w bm mb) : bm < w.heap.size := World.block_lt_of_cell? w _ (h 0 (by omega)).1
theorem MB.fr {w w' : World} {L : List Nat} {bm : Nat} {mb : Nat → Bool} (h : MB w bm mb) (f : Fr L w w') (hn : bm ∉ L) : MB w' bm mb := fun j hj =>
  ⟨f.cell (h j hj).1 hn, by rw [World.frozen?_of_block (w := w) (f.block bm h.lt hn)]; exact (h j hj).2⟩
theorem frz_setCell (w : World) (a p : Addr) (v : Value) : (w.setCell a v).frozen? p = w.frozen? p := by
  simp only [World.frozen?, World.setCell, Array.getElem?_modify]
  by_cases hh : a.block = p.block
  · rw [if_pos hh]
    cases w.heap[p.block]? with
    | none => rfl
    | some o => cases o <;> rfl
  · rw [if_neg hh]
theorem MB.set {w : World} {bm : Nat} {mb : Nat → Bool} (h : MB w bm mb) {k : Nat} (hk : k < 16) (x : Bool) : MB (w.setCell ⟨bm, k, none⟩ (.bool x)) bm (setB mb k x) := fun j hj => by
  refine ⟨?_, by rw [frz_setCell]; exact (h j hj).2⟩
  by_cases e : j = k
  · subst e
    rw [World.cell?_setCell_same _ _ _ (h j hj).1]; simp [setB]
  · rw [World.cell?_setCell_other _ _ _ _ (fun e' => by cases e'; exact e rfl), (h j hj).1]; simp [setB, e]
def falses : Array Value := Array.replicate 16 (.bool false)
theorem MB.new (w : World) (t : TypeId) : MB (w.alloc (.cells falses t)) w.heap.size fun _ => false := fun j hj =>
  ⟨(Blk.new w falses t).cell j (by simp [falses, hj]), (Blk.new w falses t).free j⟩
theorem AtM.setFar {w0 w : World} {p : Nat} {m : List AE} (h : AtM w0 w p m) {bm : Nat} (hb : w0.heap.size ≤ bm) (hn : ∃ cs t f, w.heap[bm]? = some (.cells cs t f)) (hp : bm ≠ p) (i : Nat) (v : Value) : AtM w0 (w.setCell ⟨bm, i, none⟩ v) p m := by
  obtain ⟨b, c, l, h1, h2, h3, h4⟩ := h
  have f : Fr [bm] w (w.setCell ⟨bm, i, none⟩ v) := (Fr.refl _ _).setCell _ (.inl (by simp))
  obtain ⟨cs, t, fz, hbm⟩ := hn
  refine ⟨b, c, l, h1.fr f ?_, h2, h3.setL _ _ _ (.inr hb), h4⟩
  intro x hx hxm
  simp only [List.mem_singleton] at hxm
  subst hxm
  simp only [foot, List.mem_cons, List.mem_map] at hx
  rcases hx with hx | hx | ⟨y, hy, hx⟩
  · exact hp hx
  · have := h1.map; rw [← hx, hbm] at this; cases this
  · obtain ⟨l', c', h5, _⟩ := h1.grp y hy
    rw [hx, hbm] at h5; cases h5

/-- .. and its blocks are F. -/
def AtF (w0 w : World) (p : Nat) (m : List AE) (F : List Nat) : Prop := ∃ b c l, At w0 w p m b c l ∧ foot p b l = F
theorem AtF.atM {w0 w : World} {p : Nat} {m : List AE} {F : List Nat} (h : AtF w0 w p m F) : AtM w0 w p m := by
  obtain ⟨b, c, l, h, _⟩ := h; exact ⟨b, c, l, h⟩
theorem AtM.atF {w0 w : World} {p : Nat} {m : List AE} (h : AtM w0 w p m) : ∃ F, AtF w0 w p m F := by
  obtain ⟨b, c, l, h⟩ := h; exact ⟨_, b, c, l, h, rfl⟩
theorem AtF.on {w0 w w' : World} {p : Nat} {m : List AE} {F : List Nat} (f : Fr [] w w') (h : AtF w0 w p m F) : AtF w0 w' p m F := by
  obtain ⟨b, c, l, ⟨h1, h2, h3, h4⟩, h5⟩ := h
  exact ⟨b, c, l, ⟨h1.fr0 f, h2, h3.tr f, h4⟩, h5⟩
theorem AtF.notin {w0 w : World} {p : Nat} {m : List AE} {F : List Nat} (h : AtF w0 w p m F) {bm : Nat} (hn : ∃ cs t f, w.heap[bm]? = some (.cells cs t f)) (hp : bm ≠ p) : bm ∉ F := by
  obtain ⟨b, c, l, ⟨h1, h2, h3, h4⟩, rfl⟩ := h
  obtain ⟨cs, t, fz, hbm⟩ := hn
  intro hx
  simp only [foot, List.mem_cons, List.mem_map] at hx
  rcases hx with hx | hx | ⟨y, hy, hx⟩
  · exact hp hx
  · have := h1.map; rw [← hx, hbm] at this; cases this
  · obtain ⟨l', c', h5, _⟩ := h1.grp y hy
    rw [hx, hbm] at h5; cases h5

theorem Join_F (w0 w : World) (p : Nat) (m : List AE) (n g : Int) (F : List Nat) (h : AtF w0 w p m F) :
    Calls Try.prog 52 #[.pointer (some ⟨p, 0, none⟩), .int .i64 n, .int .i64 g] w fun e w' => e = .returned (.int .i64 (joinA m n g).1) ∧ AtF w0 w' p (joinA m n g).2 F ∧ Fr F w w' := by
  obtain ⟨b, k, l, hA, hFo⟩ := h
  have hA' : AtF w0 w p m F := ⟨b, k, l, hA, hFo⟩
  obtain ⟨hS, rfl, hF, hN⟩ := hA
  unfold joinA
  by_cases hg : groupB g = false
  · rw [if_pos hg]
    refine (Join_arg w p n g hg).mono ?_
    rintro e w' ⟨rfl, rfl⟩
    exact ⟨rfl, hA', Fr.refl _ _⟩
  · have hg' : groupB g = true := by simpa using hg
    rw [if_neg hg, look_a]
    cases hl : look l n with
    | none =>
      refine (Join_none w p b k l n g hS hg' hl).mono ?_
      rintro e w' ⟨rfl, f⟩
      exact ⟨rfl, hA'.on f, f.mono (by simp)⟩
    | some x =>
      obtain ⟨hxm, rfl⟩ := look_mem hl
      simp only [Option.map_some]
      by_cases hc : x.gs.contains g = true
      · rw [if_pos (show x.a.gs.contains g = true from hc)]
        refine (Join_in w p b k l g x hS hg' hl hc).mono ?_
        rintro e w' ⟨rfl, f⟩
        exact ⟨rfl, hA'.on f, f.mono (by simp)⟩
      · rw [if_neg (show ¬ x.a.gs.contains g = true from hc)]
        refine (Join_ok w p b k l g x hS hg' hl (by simpa using hc)).mono ?_
        rintro e w' ⟨rfl, hS', f⟩
        have hxF : x.gb ∈ foot p b l := by simp only [foot, List.mem_cons]; exact .inr (.inr (List.mem_map_of_mem hxm))
        refine ⟨rfl, ⟨b, k, _, ⟨hS', regr_a _ _ _, hF.trans f (fun y hy => .inr (hN y ?_)), fun y hy => hN y (by rwa [foot_regr] at hy)⟩, by rw [foot_regr]; exact hFo⟩, f.mono (fun y hy => .inl ?_)⟩
        · simp only [List.mem_singleton] at hy; subst hy; exact hxF
        · simp only [List.mem_singleton] at hy; subst hy; rw [← hFo]; exact hxF

theorem Leave_F (w0 w : World) (p : Nat) (m : List AE) (n g : Int) (F : List Nat) (h : AtF w0 w p m F) :
    Calls Try.prog 54 #[.pointer (some ⟨p, 0, none⟩), .int .i64 n, .int .i64 g] w fun e w' => e = .returned (.int .i64 (leaveA m n g).1) ∧ AtF w0 w' p (leaveA m n g).2 F ∧ Fr F w w' := by
  obtain ⟨b, k, l, hA, hFo⟩ := h
  have hA' : AtF w0 w p m F := ⟨b, k, l, hA, hFo⟩
  obtain ⟨hS, rfl, hF, hN⟩ := hA
  unfold leaveA
  by_cases hg : groupB g = false
  · rw [if_pos hg]
    refine (Leave_arg w p n g hg).mono ?_
    rintro e w' ⟨rfl, rfl⟩
    exact ⟨rfl, hA', Fr.refl _ _⟩
  · have hg' : groupB g = true := by simpa using hg
    rw [if_neg hg, look_a]
    cases hl : look l n with
    | none =>
      refine (Leave_none w p b k l n g hS hg' hl).mono ?_
      rintro e w' ⟨rfl, f⟩
      exact ⟨rfl, hA'.on f, f.mono (by simp)⟩
    | some x =>
      obtain ⟨hxm, rfl⟩ := look_mem hl
      simp only [Option.map_some]
      by_cases hc : x.gs.contains g = true
      · rw [if_pos (show x.a.gs.contains g = true from hc)]
        refine (Leave_ok w p b k l g x hS hg' hl hc).mono ?_
        rintro e w' ⟨rfl, hS', f⟩
        have hxF : x.gb ∈ foot p b l := by simp only [foot, List.mem_cons]; exact .inr (.inr (List.mem_map_of_mem hxm))
        refine ⟨rfl, ⟨b, k, _, ⟨hS', regr_a _ _ _, hF.trans f (fun y hy => .inr (hN y ?_)), fun y hy => hN y (by rwa [foot_regr] at hy)⟩, by rw [foot_regr]; exact hFo⟩, f.mono (fun y hy => .inl ?_)⟩
        · simp only [List.mem_singleton] at hy; subst hy; exact hxF
        · simp only [List.mem_singleton] at hy; subst hy; rw [← hFo]; exact hxF
      · rw [if_neg (show ¬ x.a.gs.contains g = true from hc)]
        refine (Leave_out w p b k l g x hS hg' hl (by simpa using hc)).mono ?_
        rintro e w' ⟨rfl, f⟩
        exact ⟨rfl, hA'.on f, f.mono (by simp)⟩

def wantL (mb : Nat → Bool) (k : Nat) : List Int := ((List.range k).filter mb).map fun (j : Nat) => 2 + 2 * (j : Int)
theorem wantL_succ (mb : Nat → Bool) (k : Nat) : wantL mb (k + 1) = wantL mb k ++ if mb k then [2 + 2 * (k : Int)] else [] := by
  unfold wantL
  rw [List.range_succ, List.filter_append, List.map_append]
  by_cases h : mb k = true <;> simp [h]
theorem wantL_len (mb : Nat → Bool) (k : Nat) : (wantL mb k).length ≤ k := by
  unfold wantL; have := List.length_filter_le mb (List.range k); simp at this ⊢; exact this
theorem wantL_wf (mb : Nat → Bool) (k : Nat) (hk : k ≤ 16) : ∀ x ∈ wantL mb k, (Lit.int .i64 x).wf = true := by
  intro x hx
  simp only [wantL, List.mem_map, List.mem_filter, List.mem_range] at hx
  obtain ⟨j, ⟨hj, _⟩, rfl⟩ := hx
  simp [Lit.wf, IntKind.min, IntKind.max, IntKind.signed, IntKind.bits]; omega
theorem wantL_pw (mb : Nat → Bool) (k : Nat) : (wantL mb k).Pairwise (· ≤ ·) := by
  unfold wantL
  rw [List.pairwise_map]
  exact (List.pairwise_lt_range.sublist List.filter_sublist).imp (fun h => by omega)
theorem hear_full (c g : Int) (mb : Nat → Bool) (hg : 0 ≤ g) : hearA (fullA c 16 (inG (1 + 2 * (g % 127)) mb)) (1 + 2 * (g % 127)) = wantL mb 16 := by
  have h : ((fullA c 16 (inG (1 + 2 * (g % 127)) mb)).filter fun x => hearsB (1 + 2 * (g % 127)) x.k x.gs).map (·.k) = wantL mb 16 := by
    unfold fullA wantL
    rw [List.filter_map, List.map_map]
    have e1 : ∀ j : Nat, ((fun x : AE => hearsB (1 + 2 * (g % 127)) x.k x.gs) ∘ fun (j : Nat) => (⟨2 + 2 * (j : Int), c, inG (1 + 2 * (g % 127)) mb j⟩ : AE)) j = mb j := fun j => by
      have a1 : (1 + 2 * (g % 127) == 255) = false := by simp; omega
      have a2 : (1 + 2 * (g % 127) == 2 + 2 * (j : Int)) = false := by simp; omega
      simp only [Function.comp_apply, hearsB, a1, a2, Bool.false_or, inG]
      by_cases h : mb j = true <;> simp [h]
    rw [funext e1]
    rfl
  unfold hearA
  rw [h]
  exact sorted_perm_eq (srt_pw _) (wantL_pw _ _) (List.mergeSort_perm _ _)
def IsLv (x : Value) (B : World → Prop) : World → Value → Prop := fun w v => v = x ∧ B w
theorem IsLv.keeps {x : Value} {B : World → Prop} (h : ∀ w w', Fr [] w w' → B w → B w') : Keeps [] (IsLv x B) := fun _ _ _ f ⟨e, hb⟩ => ⟨e, h _ _ f hb⟩
theorem setCell_cells {w : World} {bm : Nat} {cs : Array Value} {t : TypeId} {f : Nat × Nat} (h : w.heap[bm]? = some (.cells cs t f)) (i : Nat) (v : Value) : ∃ cs t f, (w.setCell ⟨bm, i, none⟩ v).heap[bm]? = some (.cells cs t f) := by
  refine ⟨_, _, _, by simp only [World.setCell, Array.getElem?_modify, if_true, h, Option.map_some]; rfl⟩
theorem setB_same (mb : Nat → Bool) (k : Nat) (x : Bool) (h : mb k = x) : setB mb k x = mb := by
  funext j; unfold setB; by_cases e : j = k
  · subst e; rw [if_pos rfl, h]
  · rw [if_neg e]


end Go.Proofs.Ytgmpikaibeenmaa
